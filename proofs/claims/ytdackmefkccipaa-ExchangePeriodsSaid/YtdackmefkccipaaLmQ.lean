/- What the statements of chapter 16 share at their ends: the arguments opened. -/
import Derived.Test.YtdackmefkccipaaRows
import Derived.Test.YtdackmefkccipaaLaw
import Derived.Test.YtdackmefkccipaaLawB
import Derived.Test.YtdackmefkccipaaMkM
import Derived.Deep.Slices
namespace Go.Proofs.Ytdackmefkccipaa
open Go Go.ChangeShapes Go.WideShapes Go.ChangeAt Go.RowKit Go.Deep

section
variable {H : Type} {enc : TypeId × Value → H} {P : Program} {W : World} {A : Option Addr} {n c fuel : Nat} {d : DataW H} {p : List MemPlace} {ts : List TypeId} {ds : List (DataW H)} {j : Nat} {t e i0 : TypeId}
theorem add_add (b o x y : Nat) : ((⟨b, o, none⟩ : Addr).add x).add y = ⟨b, o + x + y, none⟩ := by
  rw [add_plain', add_plain']
theorem xs_part (hsz : (DataW.weightsEach P ts ds).all (· ≤ reachBytes) = true) (ht : ts[j]? = some t) (hd : ds[j]? = some d) (hu : P.underlying t = some (.slice e)) (he : P.underlying e = some (.array 5 i0)) (hi : P.underlying i0 = some (.int .i64))
    (hce : P.cellsOf e = 5) (hci : P.cellsOf i0 = 1) (hbe : P.bytesOf e = 40)
    (hf : DataW.trod enc P W 0 (fun _ => true) true fuel t (Value.slice A n c).cells.toList = some (d, p)) : n ≤ 140737488351232 ∧ ∃ X, XsAt W (.slice A n c) n X := by
  rcases open_slice hu hf with ⟨hc, _⟩ | ⟨a, len, cap, m, q, D, Pl, hc, _, hlc, _, hm, hx, hel⟩
  · simp [Value.cells] at hc
    obtain ⟨rfl, rfl, rfl⟩ := hc
    exact ⟨by omega, fun _ _ => 0, fun _ _ => ⟨(by decide : (-9223372036854775808 : Int) ≤ 0), (by decide : (0 : Int) ≤ 9223372036854775807)⟩, .inl ⟨rfl, _, _, rfl⟩⟩
  · simp only [Value.cells, List.cons.injEq, Value.slice.injEq, and_true] at hc
    obtain ⟨rfl, rfl, rfl⟩ := hc
    simp only [if_true] at hm
    subst hm
    simp only [Prod.mk.injEq] at hx
    obtain ⟨rfl, rfl⟩ := hx
    have hs := sized_slice hsz ht hd hu
    rw [hbe] at hs
    simp only [List.length_map, List.length_range, reachBytes] at hs
    refine ⟨by omega, ?_⟩
    have each : ∀ i, i < n → ∃ Z : Nat → Int, ∀ k, k < 5 → W.cell? ((a.add (i * 5)).add k) = some (.int .i64 (Z k)) ∧ -9223372036854775808 ≤ Z k ∧ Z k ≤ 9223372036854775807 := by
      intro i hin
      obtain ⟨cs', h1, h2⟩ := hel i (by omega)
      rw [hce] at h1
      obtain ⟨_, hl, hcell⟩ := World.cells?_some h1
      obtain ⟨xs, q2, _, _, _, hxl, hxs⟩ := DataW.trod_array he h2
      rw [hci] at hxs
      refine choose_lt (p := fun k z => W.cell? ((a.add (i * 5)).add k) = some (.int .i64 z) ∧ -9223372036854775808 ≤ z ∧ z ≤ 9223372036854775807) fun k hk => ?_
      have h3 := hxs k hk
      rw [List.getElem?_eq_getElem (by omega), Nat.mul_one] at h3
      obtain ⟨z, hz, _, hwf⟩ := DataW.trod_int hi h3
      refine ⟨z, ?_, bounds_i64 hwf⟩
      rw [hcell k hk]
      have := congrArg (·[0]?) hz
      simpa using this
    obtain ⟨F, hF⟩ := choose_lt each
    by_cases h0 : n = 0
    · subst h0
      exact ⟨fun _ _ => 0, fun _ _ => ⟨(by decide : (-9223372036854775808 : Int) ≤ 0), (by decide : (0 : Int) ≤ 9223372036854775807)⟩, .inl ⟨rfl, _, _, rfl⟩⟩
    · have h00 := (hF 0 (by omega) 0 (by omega)).1
      have hsp : a = ⟨a.block, a.off, none⟩ := by
        refine spot_of_cell (v := .int .i64 (F 0 0)) (W := W) ?_
        simpa [Addr.add] using h00
      have hlt : a.block < W.heap.size := by
        refine lt_of_cell (v := .int .i64 (F 0 0)) ?_
        simpa [Addr.add] using h00
      refine ⟨fun i k => if i < n ∧ k < 5 then F i k else 0, fun i k => ?_, .inr ⟨a.block, a.off, _, by rw [← hsp], hlt, fun i k hi' hk => ?_⟩⟩
      · by_cases h : i < n ∧ k < 5
        · simp only [if_pos h]; exact (hF i h.1 k h.2).2
        · simp only [if_neg h]; exact ⟨(by decide : (-9223372036854775808 : Int) ≤ 0), (by decide : (0 : Int) ≤ 9223372036854775807)⟩
      · simp only [if_pos (show i < n ∧ k < 5 from ⟨hi', hk⟩)]
        have := (hF i hi' k hk).1
        rw [hsp, add_add] at this
        exact this
/-- an array of three integers, by value -/
theorem open_arr3 {r : Reach} {b0 base : Nat} {sp : Nat → Bool} {hd : Bool} {v : Value} {ps : List MemPlace} (ht : P.underlying t = some (.array 3 e)) (he : P.underlying e = some (.int .i64)) (hce : P.cellsOf e = 1) (hct : P.cellsOf t = 3)
    (hv : Value.okWide P W r b0 t v) (h : DataW.Trod enc P W base sp hd t v d ps) : ∃ m0 m1 m2 : Int, v = .agg #[.int .i64 m0, .int .i64 m1, .int .i64 m2] ∧ (-9223372036854775808 ≤ m0 ∧ m0 ≤ 9223372036854775807) ∧ (-9223372036854775808 ≤ m1 ∧ m1 ≤ 9223372036854775807) ∧ -9223372036854775808 ≤ m2 ∧ m2 ≤ 9223372036854775807 := by
  simp only [Value.okWide, ht] at hv
  obtain ⟨cs, rfl, hsz, _⟩ := hv
  rw [hct] at hsz
  obtain ⟨fuel, hf⟩ := h
  obtain ⟨xs, m, _, _, _, hlen, hi⟩ := DataW.trod_array ht hf
  obtain ⟨l⟩ := cs
  match l, hsz with
  | [c0, c1, c2], _ =>
    have h0 := hi 0 (by omega)
    have h1 := hi 1 (by omega)
    have h2 := hi 2 (by omega)
    simp only [hce, Value.cells] at h0 h1 h2
    rw [List.getElem?_eq_getElem (by omega)] at h0 h1 h2
    obtain ⟨m0, e0, _, w0⟩ := DataW.trod_int he h0
    obtain ⟨m1, e1, _, w1⟩ := DataW.trod_int he h1
    obtain ⟨m2, e2, _, w2⟩ := DataW.trod_int he h2
    simp at e0 e1 e2
    exact ⟨m0, m1, m2, by rw [e0, e1, e2], bounds_i64 w0, bounds_i64 w1, bounds_i64 w2⟩
end
namespace lawEx
theorem own : ownKnob Try.prog.godebug = none := by kernel_rfl
theorem laidOut : laidOutB Try.prog = true := by kernel_rfl
noncomputable def laidWorld (os : Os) : World := World.holding Try.prog os ⟨#[], #[], []⟩
theorem laid_met (os : Os) (args : Array Value) : laidMet Try.prog [] ((laidWorld os).forCall (fun _ _ => 0) ⟨#[], args, []⟩).memory :=
  laidMet_of_run' 8 (by kernel_rfl) (by kernel_rfl)
end lawEx
end Go.Proofs.Ytdackmefkccipaa
