/- Arguments: an array of six integers, a fact, by value. -/
import Derived.Test.YtgjajhopjcdflaaFlQ
namespace Go.Proofs.Ytgjajhopjcdflaa
open Go Go.ChangeShapes Go.WideShapes Go.ChangeAt Go.RowKit Go.Deep

section
variable {H : Type} {enc : TypeId × Value → H} {P : Program} {W : World} {d : DataW H} {t e : TypeId}
/-- an array of six integers, by value -/
theorem open_arr6 {r : Reach} {b0 base : Nat} {sp : Nat → Bool} {hd : Bool} {v : Value} {ps : List MemPlace} (ht : P.underlying t = some (.array 6 e)) (he : P.underlying e = some (.int .i64)) (hce : P.cellsOf e = 1) (hct : P.cellsOf t = 6)
    (hv : Value.okWide P W r b0 t v) (h : DataW.Trod enc P W base sp hd t v d ps) : ∃ x : Nat → Int, v = six x ∧ ∀ j, -9223372036854775808 ≤ x j ∧ x j ≤ 9223372036854775807 := by
  simp only [Value.okWide, ht] at hv
  obtain ⟨cs, rfl, hsz, _⟩ := hv
  rw [hct] at hsz
  obtain ⟨fuel, hf⟩ := h
  obtain ⟨xs, m, _, _, _, hlen, hi⟩ := DataW.trod_array ht hf
  have each : ∀ k, k < 6 → ∃ z : Int, cs[k]? = some (.int .i64 z) ∧ -9223372036854775808 ≤ z ∧ z ≤ 9223372036854775807 := by
    intro k hk
    have h3 := hi k (by omega)
    rw [hce, Nat.mul_one, List.getElem?_eq_getElem (by omega)] at h3
    obtain ⟨z, hz, _, hwf⟩ := DataW.trod_int he h3
    refine ⟨z, ?_, bounds_i64 hwf⟩
    have := congrArg (·[0]?) hz
    simpa [Value.cells] using this
  obtain ⟨z, hz⟩ := choose_lt each
  refine ⟨fun j => if j < 6 then z j else 0, ?_, fun j => ?_⟩
  · unfold six
    congr 1
    apply Array.ext_getElem?
    intro k
    by_cases hk : k < 6
    · rw [(hz k hk).1]
      match k, hk with
      | 0, _ | 1, _ | 2, _ | 3, _ | 4, _ | 5, _ => rfl
    · rw [Array.getElem?_eq_none (by omega), Array.getElem?_eq_none (by simp; omega)]
  · show -9223372036854775808 ≤ (if j < 6 then z j else 0) ∧ (if j < 6 then z j else 0) ≤ 9223372036854775807
    split
    · exact (hz j ‹_›).2
    · omega
end
section
variable {H : Type} {enc : TypeId × Value → H} {W : World} {d : DataW H}
set_option maxRecDepth 100000 in
/-- a fact, by value -/
theorem open_fact {r : Reach} {b0 base : Nat} {sp : Nat → Bool} {hd : Bool} {v : Value} {ps : List MemPlace} (hv : Value.okWide Try.prog W r b0 29 v) (h : DataW.Trod enc Try.prog W base sp hd 29 v d ps) :
    ∃ F : FactV, v = .agg F.cells ∧ FactOk F ∧ Canon F := by
  simp only [Value.okWide, fact_under] at hv
  obtain ⟨cs, rfl, hsz, _⟩ := hv
  rw [fact_cellsOf] at hsz
  obtain ⟨fuel, hf⟩ := h
  obtain ⟨xs, q, _, _, _, hxl, hxs⟩ := DataW.trod_struct fact_under hf
  have hlen : xs.length = 18 := by rw [hxl]; kernel_rfl
  have ints : ∀ k, k < 17 → ∃ z : Int, cs[k]? = some (.int .i64 z) ∧ -9223372036854775808 ≤ z ∧ z ≤ 9223372036854775807 := by
    intro k hk
    obtain ⟨f, hf1, hf2, hf3, hf4⟩ := fact_place k (by omega)
    have h3 := hxs k f hf1
    rw [hf3, hf2, List.getElem?_eq_getElem (by omega)] at h3
    rcases hf4 with ⟨hu, _⟩ | ⟨_, h17⟩
    · obtain ⟨z, hz, _, hwf⟩ := DataW.trod_int hu h3
      refine ⟨z, ?_, bounds_i64 hwf⟩
      have := congrArg (·[0]?) hz
      simpa [Value.cells] using this
    · omega
  have str : ∃ s : ByteArray, cs[17]? = some (.string s) := by
    obtain ⟨f, hf1, hf2, hf3, hf4⟩ := fact_place 17 (by omega)
    have h3 := hxs 17 f hf1
    rw [hf3, hf2, List.getElem?_eq_getElem (by omega)] at h3
    rcases hf4 with ⟨_, h17⟩ | ⟨hu, _⟩
    · omega
    · obtain ⟨s, hz, _⟩ := DataW.trod_string hu h3
      refine ⟨s, ?_⟩
      have := congrArg (·[0]?) hz
      simpa [Value.cells] using this
  obtain ⟨Z, hZ⟩ := choose_lt ints
  obtain ⟨s, hs⟩ := str
  refine ⟨⟨fun k => if k < 17 then Z k else 0, s⟩, ?_, fun k => ?_, fun k h17 => if_neg (show ¬ k < 17 by omega)⟩
  · congr 1
    apply Array.ext_getElem?
    intro k
    by_cases hk : k < 17
    · rw [cells_get _ k hk, (hZ k hk).1]
      simp only [if_pos hk]
    · by_cases h17 : k = 17
      · subst h17; rw [hs]; rfl
      · rw [Array.getElem?_eq_none (by omega), Array.getElem?_eq_none (by rw [FactV.cells_size]; omega)]
  · show -9223372036854775808 ≤ (if k < 17 then Z k else 0) ∧ (if k < 17 then Z k else 0) ≤ 9223372036854775807
    split
    · exact (hZ k ‹_›).2
    · omega
end
end Go.Proofs.Ytgjajhopjcdflaa
