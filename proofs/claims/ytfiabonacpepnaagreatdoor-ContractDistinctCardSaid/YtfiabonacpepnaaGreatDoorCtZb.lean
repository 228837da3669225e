/- An argument that is one term, opened. -/
import Derived.Test.YtfiabonacpepnaaGreatDoorCtZa
import Derived.Test.YtfiabonacpepnaaGreatDoorCtRt
namespace Go.Proofs.YtfiabonacpepnaaGreatDoor
open Go Go.ChangeShapes Go.WideShapes Go.ChangeAt Go.RowKit Go.Deep

section
variable {H : Type} {enc : TypeId × Value → H} {W : World} {v : Value} {fuel : Nat} {d : DataW H} {p : List MemPlace} {r : Reach} {b0 : Nat}
set_option maxRecDepth 100000 in
theorem open_term (hv : Value.okWide Tryz.prog W r b0 28 v) (h : DataW.Trod enc Tryz.prog W 0 (fun _ => true) true 28 v d p) :
    ∃ (t : TermV) (A : Option Addr) (c : Nat), v = .agg (termC t (.slice A t.acc.length c)) ∧ IntsL W (.slice A t.acc.length c) t.acc ∧ t.acc.length ≤ c ∧ (∀ x ∈ t.acc, -9223372036854775808 ≤ x ∧ x ≤ 9223372036854775807) ∧ t.acc.length ≤ maxLen := by
  simp only [Value.okWide, term_under] at hv
  obtain ⟨cs, rfl, hsz, _⟩ := hv
  rw [term_cellsOf] at hsz
  obtain ⟨fuel, hf⟩ := h
  obtain ⟨xs, q, _, _, _, hxl, hxs⟩ := DataW.trod_struct term_under hf
  have hlen : xs.length = 5 := by rw [hxl]; kernel_rfl
  have ints : ∀ k, k < 4 → ∃ z : Int, cs[k]? = some (.int .i64 z) := by
    intro k hk
    obtain ⟨f, hf1, hf2, hf3, hf4⟩ := term_place k (by omega)
    have h3 := hxs k f hf1
    rw [hf3, hf2, List.getElem?_eq_getElem (by omega)] at h3
    rcases hf4 with ⟨_, hu⟩ | ⟨h4, _⟩
    · rw [hu] at h3
      obtain ⟨z, hz, _, hwf⟩ := DataW.trod_int Tryz.underlying3 h3
      refine ⟨z, ?_⟩
      have := congrArg (·[0]?) hz
      simpa [Value.cells] using this
    · omega
  obtain ⟨z0, h0⟩ := ints 0 (by omega)
  obtain ⟨z1, h1⟩ := ints 1 (by omega)
  obtain ⟨z2, h2⟩ := ints 2 (by omega)
  obtain ⟨z3, h3⟩ := ints 3 (by omega)
  obtain ⟨f, hf1, hf2, hf3, hf4⟩ := term_place 4 (by omega)
  have h4 := hxs 4 f hf1
  rw [hf3, hf2, List.getElem?_eq_getElem (by omega)] at h4
  have hu : f.type = 26 := hf4.elim (fun h => absurd h.1 (by omega)) (fun h => h.2)
  rw [hu] at h4
  obtain ⟨v4, hv4⟩ : ∃ v, cs[4]? = some v := ⟨_, Array.getElem?_eq_getElem (by omega)⟩
  have hcs : List.take 1 (List.drop 4 (Value.agg cs).cells.toList) = [v4] := by
    have e : (Value.agg cs).cells.toList[4]? = some v4 := by simpa [Value.cells] using hv4
    obtain ⟨h5, e5⟩ := List.getElem?_eq_some_iff.1 e
    rw [List.drop_eq_getElem_cons h5, e5]
    rfl
  rw [hcs] at h4
  obtain ⟨A', l, c', rfl, hl2, hl3, hl4, hl5⟩ := ints_in h4
  refine ⟨⟨z0, z1, z2, z3, l⟩, A', c', ?_, hl2, hl3, hl5, by dsimp only; omega⟩
  congr 1
  apply Array.ext_getElem?
  intro k
  match k with
  | 0 => exact h0
  | 1 => exact h1
  | 2 => exact h2
  | 3 => exact h3
  | 4 => exact hv4
  | k + 5 => rw [Array.getElem?_eq_none (by omega), Array.getElem?_eq_none (by show 5 ≤ k + 5; omega)]
end
theorem two_in {W : World} {g : Nat} {ta tb : TermV} {Aa Ab : Option Addr} {ca cb c : Nat} (h : RowAt W g 28 (termC ta (.slice Aa ta.acc.length ca) ++ termC tb (.slice Ab tb.acc.length cb)))
    (ia : IntsL W (.slice Aa ta.acc.length ca) ta.acc) (ib : IntsL W (.slice Ab tb.acc.length cb) tb.acc) (ha : ta.acc.length ≤ ca) (hb : tb.acc.length ≤ cb) : TermsIn W (.slice (some ⟨g, 0, none⟩) 2 c) [ta, tb] := by
  refine .inr ⟨g, 0, c, rfl, h.lt, fun i t hi => ?_⟩
  match i, hi with
  | 0, hi =>
    cases hi
    refine ⟨Aa, ca, ia, ha, fun j x hx => ?_⟩
    have hj := (Array.getElem?_eq_some_iff.1 hx).1
    rw [show 0 + 0 * 5 + j = j by omega, h.cell j, Array.getElem?_append_left hj]
    exact hx
  | 1, hi =>
    cases hi
    refine ⟨Ab, cb, ib, hb, fun j x hx => ?_⟩
    rw [show 0 + 1 * 5 + j = 5 + j by omega, h.cell (5 + j), Array.getElem?_append_right (by show 5 ≤ 5 + j; omega)]
    rw [show 5 + j - (termC ta (.slice Aa ta.acc.length ca)).size = j by show 5 + j - 5 = j; omega]
    exact hx
  | k + 2, hi => simp at hi
theorem terms_two {W : World} {A : Option Addr} {n c : Nat} {t u : TermV} (h : TermsAt W (.slice A n c) [t, u]) : n = 2 ∧ ∃ b o, A = some ⟨b, o, none⟩ ∧ ∀ c1 c2, TermsAt W (.slice (some ⟨b, o, none⟩) 1 c1) [t] ∧ TermsAt W (.slice (some ⟨b, o + 5, none⟩) 1 c2) [u] := by
  rcases h with ⟨h, _⟩ | ⟨b, o, c', he, hlt, hc⟩
  · cases h
  · simp only [Value.slice.injEq] at he
    obtain ⟨rfl, rfl, rfl⟩ := he
    refine ⟨rfl, b, o, rfl, fun c1 c2 => ⟨.inr ⟨b, o, c1, rfl, hlt, fun i x hi => ?_⟩, .inr ⟨b, o + 5, c2, rfl, hlt, fun i x hi => ?_⟩⟩⟩
    · match i, hi with
      | 0, hi => cases hi; exact hc 0 t rfl
      | k + 1, hi => simp at hi
    · match i, hi with
      | 0, hi =>
        cases hi
        obtain ⟨va, h1, h2⟩ := hc 1 u rfl
        exact ⟨va, h1, fun j x hx => by have := h2 j x hx; rw [show o + 1 * 5 + j = o + 5 + 0 * 5 + j by omega] at this; exact this⟩
      | k + 1, hi => simp at hi
end Go.Proofs.YtfiabonacpepnaaGreatDoor
