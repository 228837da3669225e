/- What the statements of chapter 15 share at their ends: rows and arrays among the arguments opened. -/
import Derived.Test.YtejkgnlflhngbaaTmA
import Derived.Test.YtejkgnlflhngbaaLaw
import Derived.Test.YtejkgnlflhngbaaLawB
import Derived.Test.YtejkgnlflhngbaaRows
import Derived.Deep.Slices
namespace Go.Proofs.Ytejkgnlflhngbaa
open Go Go.ChangeShapes Go.WideShapes Go.ChangeAt Go.RowKit Go.Deep

section
variable {H : Type} {enc : TypeId × Value → H} {P : Program} {W : World} {d : DataW H} {t e : TypeId}
/-- an array of four integers, by value -/
theorem open_arr4 {r : Reach} {b0 base : Nat} {sp : Nat → Bool} {hd : Bool} {v : Value} {ps : List MemPlace} (ht : P.underlying t = some (.array 4 e)) (he : P.underlying e = some (.int .i64)) (hce : P.cellsOf e = 1) (hct : P.cellsOf t = 4)
    (hv : Value.okWide P W r b0 t v) (h : DataW.Trod enc P W base sp hd t v d ps) : ∃ m0 m1 m2 m3 : Int, v = .agg #[.int .i64 m0, .int .i64 m1, .int .i64 m2, .int .i64 m3] ∧ (-9223372036854775808 ≤ m0 ∧ m0 ≤ 9223372036854775807) ∧ (-9223372036854775808 ≤ m1 ∧ m1 ≤ 9223372036854775807) ∧ (-9223372036854775808 ≤ m2 ∧ m2 ≤ 9223372036854775807) ∧ -9223372036854775808 ≤ m3 ∧ m3 ≤ 9223372036854775807 := by
  simp only [Value.okWide, ht] at hv
  obtain ⟨cs, rfl, hsz, _⟩ := hv
  rw [hct] at hsz
  obtain ⟨fuel, hf⟩ := h
  obtain ⟨xs, m, _, _, _, hlen, hi⟩ := DataW.trod_array ht hf
  obtain ⟨l⟩ := cs
  match l, hsz with
  | [c0, c1, c2, c3], _ =>
    have h0 := hi 0 (by omega)
    have h1 := hi 1 (by omega)
    have h2 := hi 2 (by omega)
    have h3 := hi 3 (by omega)
    simp only [hce, Value.cells] at h0 h1 h2 h3
    rw [List.getElem?_eq_getElem (by omega)] at h0 h1 h2 h3
    obtain ⟨m0, e0, _, w0⟩ := DataW.trod_int he h0
    obtain ⟨m1, e1, _, w1⟩ := DataW.trod_int he h1
    obtain ⟨m2, e2, _, w2⟩ := DataW.trod_int he h2
    obtain ⟨m3, e3, _, w3⟩ := DataW.trod_int he h3
    simp at e0 e1 e2 e3
    exact ⟨m0, m1, m2, m3, by rw [e0, e1, e2, e3], bounds_i64 w0, bounds_i64 w1, bounds_i64 w2, bounds_i64 w3⟩
end
theorem row_places : (List.range 12).all (fun k => match (Try.prog.fieldsOf 24)[k]? with
  | some f => f.offset == k && Try.prog.cellsOf f.type == 1 && f.type == 3
  | none => false) = true := by kernel_rfl
theorem row_place (k : Nat) (hk : k < 12) : ∃ f, (Try.prog.fieldsOf 24)[k]? = some f ∧ f.offset = k ∧ Try.prog.cellsOf f.type = 1 ∧ f.type = 3 := by
  have h := List.all_eq_true.1 row_places k (List.mem_range.2 hk)
  split at h
  · rename_i f hf
    rw [Bool.and_eq_true, Bool.and_eq_true] at h
    obtain ⟨⟨h1, h2⟩, h3⟩ := h
    exact ⟨f, hf, by simpa using h1, by simpa using h2, by simpa using h3⟩
  · cases h
theorem row_under : Try.prog.underlying 24 = some (.struct (Try.prog.fieldsOf 24)) := by kernel_rfl
theorem row_cellsOf : Try.prog.cellsOf 24 = 12 := by kernel_rfl
section
variable {H : Type} {enc : TypeId × Value → H} {W : World} {d : DataW H}
/-- a row, by value -/
theorem open_row {r : Reach} {b0 base : Nat} {sp : Nat → Bool} {hd : Bool} {v : Value} {ps : List MemPlace} (hv : Value.okWide Try.prog W r b0 24 v) (h : DataW.Trod enc Try.prog W base sp hd 24 v d ps) :
    ∃ z : Nat → Int, (∀ k, k < 12 → -9223372036854775808 ≤ z k ∧ z k ≤ 9223372036854775807) ∧ v = .agg #[.int .i64 (z 0), .int .i64 (z 1), .int .i64 (z 2), .int .i64 (z 3), .int .i64 (z 4), .int .i64 (z 5), .int .i64 (z 6), .int .i64 (z 7), .int .i64 (z 8), .int .i64 (z 9), .int .i64 (z 10), .int .i64 (z 11)] := by
  simp only [Value.okWide, row_under] at hv
  obtain ⟨cs, rfl, hsz, _⟩ := hv
  rw [row_cellsOf] at hsz
  obtain ⟨fuel, hf⟩ := h
  obtain ⟨xs, q, _, _, _, hxl, hxs⟩ := DataW.trod_struct row_under hf
  have hlen : xs.length = 12 := by rw [hxl]; kernel_rfl
  have each : ∀ k, k < 12 → ∃ z : Int, cs[k]? = some (.int .i64 z) ∧ -9223372036854775808 ≤ z ∧ z ≤ 9223372036854775807 := by
    intro k hk
    obtain ⟨f, hf1, hf2, hf3, hu⟩ := row_place k hk
    have h3 := hxs k f hf1
    rw [hf3, hf2, List.getElem?_eq_getElem (by omega), hu] at h3
    obtain ⟨z, hz, _, hwf⟩ := DataW.trod_int Try.underlying3 h3
    refine ⟨z, ?_, bounds_i64 hwf⟩
    have := congrArg (·[0]?) hz
    simpa [Value.cells] using this
  obtain ⟨z, hz⟩ := choose_lt each
  refine ⟨z, fun k hk => (hz k hk).2, ?_⟩
  congr 1
  apply Array.ext_getElem?
  intro k
  by_cases hk : k < 12
  · rw [(hz k hk).1]
    match k, hk with
    | 0, _ | 1, _ | 2, _ | 3, _ | 4, _ | 5, _ | 6, _ | 7, _ | 8, _ | 9, _ | 10, _ | 11, _ => rfl
  · rw [Array.getElem?_eq_none (by omega), Array.getElem?_eq_none (by simp; omega)]
end
namespace lawEx
theorem own : ownKnob Try.prog.godebug = none := by kernel_rfl
theorem laidOut : laidOutB Try.prog = true := by kernel_rfl
noncomputable def laidWorld (os : Os) : World := World.holding Try.prog os ⟨#[], #[], []⟩
theorem laid_met (os : Os) (args : Array Value) : laidMet Try.prog [] ((laidWorld os).forCall (fun _ _ => 0) ⟨#[], args, []⟩).memory :=
  laidMet_of_run' 8 (by kernel_rfl) (by kernel_rfl)
end lawEx
end Go.Proofs.Ytejkgnlflhngbaa
