/- Reversing a row, parts of a slice. -/
import Derived.Test.YtgmdjbhclihflaaDoorDgN
namespace Go.Proofs.YtgmdjbhclihflaaDoor
open Go Go.RowKit Go.Lib Go.Shelf
attribute [local go_sem] Oper.semAt_some

theorem SlS.take {w : World} {A : Option Addr} {n c : Nat} {xs : List (List UInt8)} (h : SlS w (.slice A n c) xs) (k : Nat) (hk : k ≤ n) : SlS w (.slice A k c) (xs.take k) := by
  rcases h with ⟨rfl, A', c', he⟩ | ⟨b, o, c', he, hlt, hc⟩
  · simp only [Value.slice.injEq] at he
    obtain rfl : k = 0 := by omega
    exact .inl ⟨rfl, _, _, rfl⟩
  · simp only [Value.slice.injEq] at he
    obtain ⟨rfl, rfl, rfl⟩ := he
    exact .inr ⟨b, o, c, by rw [List.length_take, Nat.min_eq_left hk], hlt, fun i x hx => hc i x (by
      rw [List.getElem?_take] at hx
      split at hx
      · exact hx
      · simp at hx)⟩
theorem SlS.drop {w : World} {b o n c : Nat} {xs : List (List UInt8)} (h : SlS w (.slice (some ⟨b, o, none⟩) n c) xs) (k c' : Nat) : SlS w (.slice (some ⟨b, o + k, none⟩) (n - k) c') (xs.drop k) := by
  rcases h with ⟨rfl, A', c2, he⟩ | ⟨b2, o2, c2, he, hlt, hc⟩
  · simp only [Value.slice.injEq] at he
    obtain ⟨_, rfl, _⟩ := he
    exact .inl ⟨by simp, _, _, by rw [Nat.zero_sub]⟩
  · simp only [Value.slice.injEq, Option.some.injEq, Addr.mk.injEq] at he
    obtain ⟨⟨rfl, rfl, -⟩, rfl, rfl⟩ := he
    exact .inr ⟨b, o + k, c', by rw [List.length_drop], hlt, fun i x hx => by
      rw [List.getElem?_drop] at hx
      rw [Nat.add_assoc]
      exact hc _ x hx⟩
theorem grownBy_setCells (b : Nat) : ∀ (vs : List Value) (o : Nat) (w : World), w.grownBy (w.setCells b o vs) (some b)
  | [], _, w => World.grownBy.refl _ _
  | v :: r, o, w => (show w.grownBy (w.setCell ⟨b, o, none⟩ v) (some b) from ⟨rfl, rfl, rfl, by simp [World.setCell], fun k hk hne => Below.heap_setCell w _ v k (fun e => hne (by rw [e]))⟩).andThen (grownBy_setCells b r (o + 1) _) (fun q e => .inr e)
theorem rev_any (base : Nat) (v : Value) (xs : List (List UInt8)) (w : World) (h : OwnL 9 encS w base v xs) (hn : xs.length ≤ 10000) :
    Calls Tryd.prog 38 #[v] w fun e w' => e = .returned (.tuple #[]) ∧ SlS w' v xs.reverse ∧ w.grownBy w' v.ownBlock := by
  obtain ⟨A, c, rfl, hc⟩ := h.slice
  cases hx : xs with
  | nil =>
    refine (Tryd.slices_Reverse_string_empty A c w).mono ?_
    rintro e w' ⟨rfl, rfl⟩
    exact ⟨rfl, .inl ⟨rfl, _, _, rfl⟩, World.grownBy.refl _ _⟩
  | cons x r =>
    rw [← hx]
    obtain ⟨g, hA, h1, h2, h3, _⟩ := h.get (i := 0) (x := x) (by rw [hx]; rfl)
    subst hA
    obtain ⟨n, hnn⟩ : ∃ n, xs.length = n := ⟨_, rfl⟩
    have hst : strsOf (fun i => ⟨(xs.getD i []).toArray⟩) n = xs := by
      refine List.ext_getElem (by simp [strsOf, hnn]) fun i h1 h2 => ?_
      simp [strsOf, List.getD_eq_getElem?_getD, List.getElem?_eq_getElem h2]
    have hget : ∀ i, i < n → w.cell? ⟨g, i, none⟩ = some (.string ⟨(xs.getD i []).toArray⟩) ∧ w.frozen? ⟨g, i, none⟩ = false := by
      intro i hi
      have hi2 : i < xs.length := by omega
      obtain ⟨g', hA, _, _, h4, h5⟩ := h.get (i := i) (x := xs[i]) (List.getElem?_eq_getElem hi2)
      cases hA
      refine ⟨?_, h5⟩
      rw [h4, List.getD_eq_getElem?_getD, List.getElem?_eq_getElem hi2]
      rfl
    rw [hnn]
    refine (Tryd.slices_Reverse_string_cells g 0 n c (fun i => ⟨(xs.getD i []).toArray⟩) w (by omega) (fun i hi => by rw [Nat.zero_add]; exact (hget i hi).1) (fun i hi => by rw [Nat.zero_add]; exact (hget i hi).2)).mono ?_
    rintro e w' ⟨rfl, q, rfl⟩
    rw [hst]
    have hd : Below w.heap.size w (w.drewN q) := below_drewN (Below.refl _ _) q
    refine ⟨rfl, .inr ⟨g, 0, c, by rw [List.length_reverse, hnn], ?_, fun i y hy => ?_⟩, ?_⟩
    · exact Nat.lt_of_lt_of_le h2 (Nat.le_trans hd.size (grownBy_setCells g _ 0 _).size)
    · have hil : i < (xs.reverse.map encStr).length := by
        have := (List.getElem?_eq_some_iff.1 hy).1
        simpa using this
      rw [World.cell?_setCells_in g (xs.reverse.map encStr) 0 (w.drewN q) (fun j hj => by
        rw [Nat.zero_add]
        have h1 := (hget j (by simpa [hnn] using hj)).1
        have h2 : (w.drewN q).cell? ⟨g, j, none⟩ = w.cell? ⟨g, j, none⟩ := hd.cell (p := ⟨g, j, none⟩) (by assumption)
        rw [h2, h1]
        rfl) i hil, List.getElem_map]
      have := (List.getElem?_eq_some_iff.1 hy).2
      rw [this]
    · exact (grown_of_below hd g).andThen (grownBy_setCells g _ 0 _) (fun q e => .inr e)
end Go.Proofs.YtgmdjbhclihflaaDoor
