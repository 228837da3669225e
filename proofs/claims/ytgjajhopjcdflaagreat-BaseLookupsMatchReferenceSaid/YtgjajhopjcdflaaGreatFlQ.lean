/- What the statements of chapter 07 share at their ends: the arguments opened. -/
import Derived.Test.YtgjajhopjcdflaaGreatRows
import Derived.Test.YtgjajhopjcdflaaGreatLawB
import Derived.Test.YtgjajhopjcdflaaGreatFlF
import Derived.Deep.Slices
namespace Go.Proofs.YtgjajhopjcdflaaGreat
open Go Go.ChangeShapes Go.WideShapes Go.ChangeAt Go.RowKit Go.Deep

section
variable {H : Type} {enc : TypeId × Value → H} {P : Program} {W : World} {A : Option Addr} {n c fuel : Nat} {d : DataW H} {p : List MemPlace} {ts : List TypeId} {ds : List (DataW H)} {j : Nat} {t e i0 : TypeId}
theorem add_add (b o x y : Nat) : ((⟨b, o, none⟩ : Addr).add x).add y = ⟨b, o + x + y, none⟩ := by
  rw [add_plain', add_plain']
theorem xs_part (hsz : (DataW.weightsEach P ts ds).all (· ≤ reachBytes) = true) (ht : ts[j]? = some t) (hd : ds[j]? = some d) (hu : P.underlying t = some (.slice e)) (he : P.underlying e = some (.array 6 i0)) (hi : P.underlying i0 = some (.int .i64))
    (hce : P.cellsOf e = 6) (hci : P.cellsOf i0 = 1) (hbe : P.bytesOf e = 48)
    (hf : DataW.trod enc P W 0 (fun _ => true) true fuel t (Value.slice A n c).cells.toList = some (d, p)) : n ≤ 140737488351232 ∧ ∃ X, XsAt W (.slice A n c) n X := by
  rcases open_slice hu hf with ⟨hc, _⟩ | ⟨a, len, cap, m, q, D, Pl, hc, _, hlc, _, hm, hx, hel⟩
  · simp [Value.cells] at hc
    obtain ⟨rfl, rfl, rfl⟩ := hc
    exact ⟨by omega, fun _ _ => 0, fun _ _ => ⟨(by decide : (-9223372036854775808 : Int) ≤ 0), (by decide : (0 : Int) ≤ 9223372036854775807)⟩, .inl ⟨rfl, _, _, rfl⟩⟩
  · simp only [Value.cells, List.cons.injEq, Value.slice.injEq, and_true] at hc
    obtain ⟨rfl, rfl, rfl⟩ := hc
    simp only [if_true] at hm
    subst hm
    simp only [Prod.mk.injEq] at hx
    obtain ⟨rfl, rfl⟩ := hx
    have hs := sized_slice hsz ht hd hu
    rw [hbe] at hs
    simp only [List.length_map, List.length_range, reachBytes] at hs
    refine ⟨by omega, ?_⟩
    have each : ∀ i, i < n → ∃ Z : Nat → Int, ∀ k, k < 6 → W.cell? ((a.add (i * 6)).add k) = some (.int .i64 (Z k)) ∧ -9223372036854775808 ≤ Z k ∧ Z k ≤ 9223372036854775807 := by
      intro i hin
      obtain ⟨cs', h1, h2⟩ := hel i (by omega)
      rw [hce] at h1
      obtain ⟨_, hl, hcell⟩ := World.cells?_some h1
      obtain ⟨xs, q2, _, _, _, hxl, hxs⟩ := DataW.trod_array he h2
      rw [hci] at hxs
      refine choose_lt (p := fun k z => W.cell? ((a.add (i * 6)).add k) = some (.int .i64 z) ∧ -9223372036854775808 ≤ z ∧ z ≤ 9223372036854775807) fun k hk => ?_
      have h3 := hxs k hk
      rw [List.getElem?_eq_getElem (by omega), Nat.mul_one] at h3
      obtain ⟨z, hz, _, hwf⟩ := DataW.trod_int hi h3
      refine ⟨z, ?_, bounds_i64 hwf⟩
      rw [hcell k hk]
      have := congrArg (·[0]?) hz
      simpa using this
    obtain ⟨F, hF⟩ := choose_lt each
    by_cases h0 : n = 0
    · subst h0
      exact ⟨fun _ _ => 0, fun _ _ => ⟨(by decide : (-9223372036854775808 : Int) ≤ 0), (by decide : (0 : Int) ≤ 9223372036854775807)⟩, .inl ⟨rfl, _, _, rfl⟩⟩
    · have h00 := (hF 0 (by omega) 0 (by omega)).1
      have hsp : a = ⟨a.block, a.off, none⟩ := by
        refine spot_of_cell (v := .int .i64 (F 0 0)) (W := W) ?_
        simpa [Addr.add] using h00
      have hlt : a.block < W.heap.size := by
        refine lt_of_cell (v := .int .i64 (F 0 0)) ?_
        simpa [Addr.add] using h00
      refine ⟨fun i k => if i < n ∧ k < 6 then F i k else 0, fun i k => ?_, .inr ⟨a.block, a.off, _, by rw [← hsp], hlt, fun i k hi' hk => ?_⟩⟩
      · by_cases h : i < n ∧ k < 6
        · simp only [if_pos h]; exact (hF i h.1 k h.2).2
        · simp only [if_neg h]; exact ⟨(by decide : (-9223372036854775808 : Int) ≤ 0), (by decide : (0 : Int) ≤ 9223372036854775807)⟩
      · simp only [if_pos (show i < n ∧ k < 6 from ⟨hi', hk⟩)]
        have := (hF i hi' k hk).1
        rw [hsp, add_add] at this
        exact this
end
theorem fact_places : (List.range 18).all (fun k => match (Tryz.prog.fieldsOf 34)[k]? with
  | some f => f.offset == k && Tryz.prog.cellsOf f.type == 1 && (match Tryz.prog.underlying f.type with
    | some (.int .i64) => decide (k < 17)
    | some .string => k == 17
    | _ => false)
  | none => false) = true := by kernel_rfl
theorem fact_cellsOf : Tryz.prog.cellsOf 34 = 18 := by kernel_rfl
theorem fact_bytesOf : Tryz.prog.bytesOf 34 = 152 := by kernel_rfl
theorem fact_place (k : Nat) (hk : k < 18) : ∃ f, (Tryz.prog.fieldsOf 34)[k]? = some f ∧ f.offset = k ∧ Tryz.prog.cellsOf f.type = 1 ∧ ((Tryz.prog.underlying f.type = some (.int .i64) ∧ k < 17) ∨ (Tryz.prog.underlying f.type = some .string ∧ k = 17)) := by
  have h := List.all_eq_true.1 fact_places k (List.mem_range.2 hk)
  split at h
  · rename_i f hf
    rw [Bool.and_eq_true, Bool.and_eq_true] at h
    obtain ⟨⟨h1, h2⟩, h3⟩ := h
    refine ⟨f, hf, by simpa using h1, by simpa using h2, ?_⟩
    split at h3
    · rename_i hu; exact .inl ⟨hu, by simpa using h3⟩
    · rename_i hu; exact .inr ⟨hu, by simpa using h3⟩
    · cases h3
  · cases h

section
variable {H : Type} {enc : TypeId × Value → H} {W : World} {A : Option Addr} {n c fuel : Nat} {d : DataW H} {p : List MemPlace} {ts : List TypeId} {ds : List (DataW H)} {j : Nat}
set_option maxRecDepth 100000 in
theorem facts_part (hsz : (DataW.weightsEach Tryz.prog ts ds).all (· ≤ reachBytes) = true) (ht : ts[j]? = some 23) (hd : ds[j]? = some d)
    (hf : DataW.trod enc Tryz.prog W 0 (fun _ => true) true fuel 23 (Value.slice A n c).cells.toList = some (d, p)) :
    n ≤ 140737488351232 ∧ n ≤ c ∧ c ≤ maxLen ∧ ∃ fs : List FactV, fs.length = n ∧ FactsAt W (.slice A n c) fs ∧ (∀ f ∈ fs, FactOk f ∧ Canon f) ∧ ((A = none ∧ n = 0 ∧ c = 0) ∨ ∃ a : Addr, A = some a) ∧ (n = 0 ∨ ∃ b o, A = some ⟨b, o, none⟩) := by
  rcases open_slice Tryz.underlying23 hf with ⟨hc, _⟩ | ⟨a, len, cap, m, q, D, Pl, hc, _, hlc, hmax, hm, hx, hel⟩
  · simp [Value.cells] at hc
    obtain ⟨rfl, rfl, rfl⟩ := hc
    exact ⟨by omega, by omega, by omega, [], rfl, .inl ⟨rfl, _, _, rfl⟩, (fun _ h => by cases h), .inl ⟨rfl, rfl, rfl⟩, .inl rfl⟩
  · simp only [Value.cells, List.cons.injEq, Value.slice.injEq, and_true] at hc
    obtain ⟨rfl, rfl, rfl⟩ := hc
    simp only [if_true] at hm
    subst hm
    simp only [Prod.mk.injEq] at hx
    obtain ⟨rfl, rfl⟩ := hx
    have hs := sized_slice hsz ht hd Tryz.underlying23
    rw [fact_bytesOf] at hs
    simp only [List.length_map, List.length_range, reachBytes] at hs
    refine ⟨by omega, hlc, hmax, ?_⟩
    have each : ∀ i, i < n → ∃ F : FactV, (∀ k x, F.cells[k]? = some x → W.cell? ((a.add (i * 18)).add k) = some x) ∧ FactOk F ∧ Canon F := by
      intro i hin
      obtain ⟨cs', h1, h2⟩ := hel i (by omega)
      rw [fact_cellsOf] at h1
      obtain ⟨_, hl, hcell⟩ := World.cells?_some h1
      obtain ⟨xs, q2, _, _, _, hxl, hxs⟩ := DataW.trod_struct fact_under h2
      have hlen18 : xs.length = 18 := by rw [hxl]; kernel_rfl
      have ints : ∀ k, k < 17 → ∃ z : Int, W.cell? ((a.add (i * 18)).add k) = some (.int .i64 z) ∧ -9223372036854775808 ≤ z ∧ z ≤ 9223372036854775807 := by
        intro k hk
        obtain ⟨f, hf1, hf2, hf3, hf4⟩ := fact_place k (by omega)
        have h3 := hxs k f hf1
        rw [hf3, hf2, List.getElem?_eq_getElem (by omega)] at h3
        rcases hf4 with ⟨hu, _⟩ | ⟨_, h17⟩
        · obtain ⟨z, hz, _, hwf⟩ := DataW.trod_int hu h3
          refine ⟨z, ?_, bounds_i64 hwf⟩
          rw [hcell k (by omega)]
          have := congrArg (·[0]?) hz
          simpa using this
        · omega
      have str : ∃ s : ByteArray, W.cell? ((a.add (i * 18)).add 17) = some (.string s) := by
        obtain ⟨f, hf1, hf2, hf3, hf4⟩ := fact_place 17 (by omega)
        have h3 := hxs 17 f hf1
        rw [hf3, hf2, List.getElem?_eq_getElem (by omega)] at h3
        rcases hf4 with ⟨_, h17⟩ | ⟨hu, _⟩
        · omega
        · obtain ⟨s, hz, _⟩ := DataW.trod_string hu h3
          refine ⟨s, ?_⟩
          rw [hcell 17 (by omega)]
          have := congrArg (·[0]?) hz
          simpa using this
      obtain ⟨Z, hZ⟩ := choose_lt ints
      obtain ⟨s, hs'⟩ := str
      refine ⟨⟨fun k => if k < 17 then Z k else 0, s⟩, fun k x hx => ?_, fun k => ?_, fun k h17 => if_neg (show ¬ k < 17 by omega)⟩
      · have hk : k < 18 := by have := (Array.getElem?_eq_some_iff.1 hx).1; rwa [FactV.cells_size] at this
        by_cases h17 : k < 17
        · rw [cells_get _ k h17] at hx
          cases hx
          simp only [if_pos h17]
          exact (hZ k h17).1
        · obtain rfl : k = 17 := by omega
          have : x = .string s := by
            have e : (FactV.mk (fun k => if k < 17 then Z k else 0) s).cells[17]? = some (.string s) := rfl
            rw [e] at hx; exact (Option.some.inj hx).symm
          rw [this]; exact hs'
      · by_cases h17 : k < 17
        · simp only [if_pos h17]; exact (hZ k h17).2
        · simp only [if_neg h17]; exact ⟨(by decide : (-9223372036854775808 : Int) ≤ 0), (by decide : (0 : Int) ≤ 9223372036854775807)⟩
    haveI : Inhabited FactV := ⟨zf⟩
    obtain ⟨F, hF⟩ := choose_lt each
    have hlist : ∀ i f, ((List.range n).map F)[i]? = some f → i < n ∧ f = F i := by
      intro i f h
      rw [List.getElem?_map] at h
      by_cases hin : i < n
      · rw [List.getElem?_range hin] at h; simp at h; exact ⟨hin, h.symm⟩
      · rw [List.getElem?_eq_none (by simpa using hin)] at h; simp at h
    have hok : ∀ f ∈ (List.range n).map F, FactOk f ∧ Canon f := by
      intro f hf
      obtain ⟨i, hi, rfl⟩ := List.mem_map.1 hf
      exact (hF i (List.mem_range.1 hi)).2
    by_cases h0 : n = 0
    · subst h0
      exact ⟨[], rfl, .inl ⟨rfl, _, _, rfl⟩, (fun _ h => by cases h), .inr ⟨a, rfl⟩, .inl rfl⟩
    · have h00 := (hF 0 (by omega)).1 0 _ (cells_get _ 0 (by omega))
      have h01 : W.cell? a = some (.int .i64 ((F 0).n 0)) := by simpa [Addr.add] using h00
      have hsp := spot_of_cell h01
      have hlt := lt_of_cell h01
      refine ⟨(List.range n).map F, by simp, .inr ⟨a.block, a.off, m, by rw [← hsp]; simp, hlt, fun i f hi k x hx => ?_⟩, hok, .inr ⟨a, rfl⟩, .inr ⟨a.block, a.off, by rw [← hsp]⟩⟩
      obtain ⟨hin, rfl⟩ := hlist i f hi
      have := (hF i hin).1 k x hx
      rw [hsp, add_add] at this
      exact this
end
namespace lawEx
theorem own : ownKnob Tryz.prog.godebug = none := by kernel_rfl
theorem laidOut : laidOutB Tryz.prog = true := by kernel_rfl
noncomputable def laidWorld (os : Os) : World := World.holding Tryz.prog os ⟨#[], #[], []⟩
theorem laid_met (os : Os) (args : Array Value) : laidMet Tryz.prog [] ((laidWorld os).forCall (fun _ _ => 0) ⟨#[], args, []⟩).memory :=
  laidMet_of_run' 8 (by kernel_rfl) (by kernel_rfl)
end lawEx
end Go.Proofs.YtgjajhopjcdflaaGreat
