/- sane of the statements' package. -/
import Derived.Test.YtejkgnlflhngbaaTmU
import Derived.Test.YtejkgnlflhngbaaTmV
namespace Go.Proofs.Ytejkgnlflhngbaa
open Go Go.RowKit Go.Lib Go.Shelf Go.Maps

theorem terms_lit {W : World} {b c : Nat} (L : List (TermV × Value)) (hr : RowAt W b 52 (tCells L).toArray) (ha : ∀ p ∈ L, IntsL W p.2 p.1.acc) : TermsAt W (.slice (some ⟨b, 0, none⟩) L.length c) (L.map (·.1)) := by
  refine .inr ⟨b, 0, c, by rw [List.length_map], hr.lt, fun i t hi => ?_⟩
  rw [List.getElem?_map] at hi
  cases hl : L[i]? with
  | none => rw [hl] at hi; cases hi
  | some p =>
    rw [hl] at hi
    simp at hi
    subst hi
    refine ⟨p.2, ha p (List.mem_of_getElem? hl), fun j x hx => ?_⟩
    rw [Nat.zero_add, hr.cell, List.getElem?_toArray]
    exact tCells_get L i p hl j x hx
theorem irows_lit {k : Nat} {W : World} {b c : Nat} {T : TypeId} (L : List (List Int)) (hk : ∀ r ∈ L, r.length = k) (hr : RowAt W b T (iCells L).toArray) : IRows k W (.slice (some ⟨b, 0, none⟩) L.length c) L := by
  refine ⟨hk, .inr ⟨b, 0, c, rfl, hr.lt, fun i r hi j x hx => ?_⟩⟩
  rw [Nat.zero_add, hr.cell, List.getElem?_toArray]
  exact iCells_get hk i r hi j x hx
theorem own_at {T : TypeId} {k base : Nat} {w : World} {v : Value} {r : List Int} {L : List (List Int)} (h : OwnI T k w base v (r :: L)) : ∃ g c, v = .slice (some ⟨g, 0, none⟩) (L.length + 1) c ∧ g < w.heap.size ∧ ∀ (i : Nat) s, (r :: L)[i]? = some s → ∀ (j : Nat) x, s[j]? = some x → w.cell? ⟨g, i * k + j, none⟩ = some (.int .i64 x) := by
  have hr := h.rows
  rcases h.2.2 with ⟨_, h0⟩ | ⟨g, cap, cur, e, _, hg, _⟩
  · simp at h0
  · subst e
    refine ⟨g, cap, rfl, (Array.getElem?_eq_some_iff.1 hg).1, fun i s hs j x hx => ?_⟩
    rcases hr.2 with ⟨h2, _⟩ | ⟨b, o, c, he, hlt, hc⟩
    · cases h2
    · simp only [Value.slice.injEq, Option.some.injEq, Addr.mk.injEq] at he
      obtain ⟨⟨rfl, rfl, _⟩, _⟩ := he
      have := hc i s hs j x hx
      rwa [Nat.zero_add] at this
theorem term_ok0 (k n m a : Int) (acc : List Int) (h1 : -9223372036854775808 ≤ k ∧ k ≤ 9223372036854775807) (h2 : -9223372036854775808 ≤ n ∧ n ≤ 9223372036854775807) (h3 : -9223372036854775808 ≤ m ∧ m ≤ 9223372036854775807) (h4 : -9223372036854775808 ≤ a ∧ a ≤ 9223372036854775807) (h5 : ∀ x ∈ acc, -9223372036854775808 ≤ x ∧ x ≤ 9223372036854775807) (h6 : acc.length ≤ 1000000) : TermOk ⟨k, n, m, a, acc⟩ :=
  ⟨by intro x hx; simp at hx; rcases hx with rfl | rfl | rfl | rfl <;> assumption, h5, h6⟩
theorem spec1 : settleSpec [] ⟨5, 3, 1000000, 0, 0, 2345⟩ [] = ⟨0, 0, 0, 0, 1000000, 2345, [], [], []⟩ := by kernel_rfl
theorem sane1 (W : World) : Calls Try.prog 15 #[.slice none 0 0, .agg #[.int .i64 5, .int .i64 3, .int .i64 1000000, .int .i64 0, .int .i64 0, .int .i64 2345, .int .i64 0, .int .i64 0, .int .i64 0, .int .i64 0, .int .i64 0, .int .i64 0], .slice none 0 0] W fun e w' => ∃ vp vr vo, e = .returned (.tuple #[.agg #[.int .i64 5, .int .i64 3, .int .i64 1000000, .int .i64 0, .int .i64 0, .int .i64 2345, .int .i64 0, .int .i64 0, .int .i64 0, .int .i64 0, .int .i64 1000000, .int .i64 2345], vp, vr, vo]) ∧ Below W.heap.size W w' := by
  refine (settle_any [] ⟨5, 3, 1000000, 0, 0, 2345⟩ [] (.slice none 0 0) (.slice none 0 0) 0 0 0 0 0 0 W (.inl ⟨rfl, none, 0, rfl⟩) (fun t ht => by cases ht) (by simp) (by exact ⟨by simp, .inl ⟨rfl, none, 0, rfl⟩⟩) (by simp) (fun b hb => by cases hb) (by dsimp only; omega)).mono ?_
  rintro e w' ⟨vp, vr, vo, rfl, hps, hrs, hbs, hbl⟩
  rw [spec1] at hps hrs hbs ⊢
  exact ⟨vp, vr, vo, rfl, hbl⟩
theorem spec2 : settleSpec [⟨2, 150000, 0, 0, []⟩] ⟨5, 3, 1000000, 0, 0, 2345⟩ [] = ⟨0, 150351, 0, 0, 850000, 1994, [], [], []⟩ := by kernel_rfl
theorem sane2 (W : World) (b : Nat) (hb : RowAt W b 52 #[.int .i64 2, .int .i64 150000, .int .i64 0, .int .i64 0, .slice none 0 0]) : Calls Try.prog 15 #[.slice (some ⟨b, 0, none⟩) 1 1, .agg #[.int .i64 5, .int .i64 3, .int .i64 1000000, .int .i64 0, .int .i64 0, .int .i64 2345, .int .i64 0, .int .i64 0, .int .i64 0, .int .i64 0, .int .i64 0, .int .i64 0], .slice none 0 0] W fun e w' => ∃ vp vr vo, e = .returned (.tuple #[.agg #[.int .i64 5, .int .i64 3, .int .i64 1000000, .int .i64 0, .int .i64 0, .int .i64 2345, .int .i64 0, .int .i64 150351, .int .i64 0, .int .i64 0, .int .i64 850000, .int .i64 1994], vp, vr, vo]) ∧ Below W.heap.size W w' := by
  refine (settle_any [⟨2, 150000, 0, 0, []⟩] ⟨5, 3, 1000000, 0, 0, 2345⟩ [] (.slice (some ⟨b, 0, none⟩) 1 1) (.slice none 0 0) 0 0 0 0 0 0 W (terms_lit (c := 1) [(⟨2, 150000, 0, 0, []⟩, .slice none 0 0)] hb (fun p hp => by simp at hp; subst hp; exact .inl ⟨rfl, none, 0, rfl⟩)) (fun t ht => by simp at ht; subst ht; exact term_ok0 _ _ _ _ _ (by omega) (by omega) (by omega) (by omega) (by simp) (by simp)) (by simp) (by exact ⟨by simp, .inl ⟨rfl, none, 0, rfl⟩⟩) (by simp) (fun b hb => by cases hb) (by dsimp only; omega)).mono ?_
  rintro e w' ⟨vp, vr, vo, rfl, hps, hrs, hbs, hbl⟩
  rw [spec2] at hps hrs hbs ⊢
  exact ⟨vp, vr, vo, rfl, hbl⟩
theorem spec3 : settleSpec [⟨1, 200000, 17, 502345, []⟩, ⟨4, 600000, 0, 0, []⟩] ⟨5, 3, 1000000, 0, 0, 2345⟩ [] = ⟨100000, 0, 0, 0, 600000, 302345, [(17, 100000)], [], []⟩ := by kernel_rfl
theorem sane3 (W : World) (b : Nat) (hb : RowAt W b 52 #[.int .i64 1, .int .i64 200000, .int .i64 17, .int .i64 502345, .slice none 0 0, .int .i64 4, .int .i64 600000, .int .i64 0, .int .i64 0, .slice none 0 0]) : Calls Try.prog 15 #[.slice (some ⟨b, 0, none⟩) 2 2, .agg #[.int .i64 5, .int .i64 3, .int .i64 1000000, .int .i64 0, .int .i64 0, .int .i64 2345, .int .i64 0, .int .i64 0, .int .i64 0, .int .i64 0, .int .i64 0, .int .i64 0], .slice none 0 0] W fun e w' => ∃ g c vr vo, e = .returned (.tuple #[.agg #[.int .i64 5, .int .i64 3, .int .i64 1000000, .int .i64 0, .int .i64 0, .int .i64 2345, .int .i64 100000, .int .i64 0, .int .i64 0, .int .i64 0, .int .i64 600000, .int .i64 302345], .slice (some ⟨g, 0, none⟩) 1 c, vr, vo]) ∧ g < w'.heap.size ∧ w'.cell? ⟨g, 0, none⟩ = some (.int .i64 17) ∧ w'.cell? ⟨g, 1, none⟩ = some (.int .i64 100000) ∧ Below W.heap.size W w' := by
  refine (settle_any [⟨1, 200000, 17, 502345, []⟩, ⟨4, 600000, 0, 0, []⟩] ⟨5, 3, 1000000, 0, 0, 2345⟩ [] (.slice (some ⟨b, 0, none⟩) 2 2) (.slice none 0 0) 0 0 0 0 0 0 W (terms_lit (c := 2) [(⟨1, 200000, 17, 502345, []⟩, .slice none 0 0), (⟨4, 600000, 0, 0, []⟩, .slice none 0 0)] hb (fun p hp => by simp at hp; rcases hp with rfl | rfl <;> exact .inl ⟨rfl, none, 0, rfl⟩)) (fun t ht => by simp at ht; rcases ht with rfl | rfl <;> exact term_ok0 _ _ _ _ _ (by omega) (by omega) (by omega) (by omega) (by simp) (by simp)) (by simp) (by exact ⟨by simp, .inl ⟨rfl, none, 0, rfl⟩⟩) (by simp) (fun b hb => by cases hb) (by dsimp only; omega)).mono ?_
  rintro e w' ⟨vp, vr, vo, rfl, hps, hrs, hbs, hbl⟩
  rw [spec3] at hps hrs hbs ⊢
  obtain ⟨g, c, rfl, hlt, hc⟩ := own_at hps
  exact ⟨g, c, vr, vo, rfl, hlt, hc 0 _ rfl 0 17 rfl, hc 0 _ rfl 1 100000 rfl, hbl⟩
theorem spec4 : settleSpec [⟨3, 100000, 2, 0, []⟩] ⟨5, 3, 1000000, 0, 0, 2345⟩ [] = ⟨0, 0, 100234, 0, 900000, 2111, [], [(5, 5, 100234)], []⟩ := by kernel_rfl
theorem sane4 (W : World) (b : Nat) (hb : RowAt W b 52 #[.int .i64 3, .int .i64 100000, .int .i64 2, .int .i64 0, .slice none 0 0]) : Calls Try.prog 15 #[.slice (some ⟨b, 0, none⟩) 1 1, .agg #[.int .i64 5, .int .i64 3, .int .i64 1000000, .int .i64 0, .int .i64 0, .int .i64 2345, .int .i64 0, .int .i64 0, .int .i64 0, .int .i64 0, .int .i64 0, .int .i64 0], .slice none 0 0] W fun e w' => ∃ vp g c vo, e = .returned (.tuple #[.agg #[.int .i64 5, .int .i64 3, .int .i64 1000000, .int .i64 0, .int .i64 0, .int .i64 2345, .int .i64 0, .int .i64 0, .int .i64 100234, .int .i64 0, .int .i64 900000, .int .i64 2111], vp, .slice (some ⟨g, 0, none⟩) 1 c, vo]) ∧ g < w'.heap.size ∧ w'.cell? ⟨g, 0, none⟩ = some (.int .i64 5) ∧ w'.cell? ⟨g, 1, none⟩ = some (.int .i64 5) ∧ w'.cell? ⟨g, 2, none⟩ = some (.int .i64 100234) ∧ Below W.heap.size W w' := by
  refine (settle_any [⟨3, 100000, 2, 0, []⟩] ⟨5, 3, 1000000, 0, 0, 2345⟩ [] (.slice (some ⟨b, 0, none⟩) 1 1) (.slice none 0 0) 0 0 0 0 0 0 W (terms_lit (c := 1) [(⟨3, 100000, 2, 0, []⟩, .slice none 0 0)] hb (fun p hp => by simp at hp; subst hp; exact .inl ⟨rfl, none, 0, rfl⟩)) (fun t ht => by simp at ht; subst ht; exact term_ok0 _ _ _ _ _ (by omega) (by omega) (by omega) (by omega) (by simp) (by simp)) (by simp) (by exact ⟨by simp, .inl ⟨rfl, none, 0, rfl⟩⟩) (by simp) (fun b hb => by cases hb) (by dsimp only; omega)).mono ?_
  rintro e w' ⟨vp, vr, vo, rfl, hps, hrs, hbs, hbl⟩
  rw [spec4] at hps hrs hbs ⊢
  obtain ⟨g, c, rfl, hlt, hc⟩ := own_at hrs
  exact ⟨vp, g, c, vo, rfl, hlt, hc 0 _ rfl 0 5 rfl, hc 0 _ rfl 1 5 rfl, hc 0 _ rfl 2 100234 rfl, hbl⟩
theorem spec5 : settleSpec [⟨5, 0, 0, 0, [4, 5]⟩] ⟨5, 3, 1000000, 0, 0, 2345⟩ [(4, 300000), (5, 900000)] = ⟨0, 0, 0, 1002345, 0, 0, [], [], [(4, 0), (5, 197655)]⟩ := by kernel_rfl
theorem sane5 (W : World) (ba : Nat) (hba : RowAt W ba 3 #[.int .i64 4, .int .i64 5])  (b : Nat) (hb : RowAt W b 52 #[.int .i64 5, .int .i64 0, .int .i64 0, .int .i64 0, .slice (some ⟨ba, 0, none⟩) 2 2]) (bb : Nat) (hbb : RowAt W bb 46 #[.int .i64 4, .int .i64 300000, .int .i64 5, .int .i64 900000]) : Calls Try.prog 15 #[.slice (some ⟨b, 0, none⟩) 1 1, .agg #[.int .i64 5, .int .i64 3, .int .i64 1000000, .int .i64 0, .int .i64 0, .int .i64 2345, .int .i64 0, .int .i64 0, .int .i64 0, .int .i64 0, .int .i64 0, .int .i64 0], .slice (some ⟨bb, 0, none⟩) 2 2] W fun e w' => ∃ vp vr g c, e = .returned (.tuple #[.agg #[.int .i64 5, .int .i64 3, .int .i64 1000000, .int .i64 0, .int .i64 0, .int .i64 2345, .int .i64 0, .int .i64 0, .int .i64 0, .int .i64 1002345, .int .i64 0, .int .i64 0], vp, vr, .slice (some ⟨g, 0, none⟩) 2 c]) ∧ g < w'.heap.size ∧ w'.cell? ⟨g, 1, none⟩ = some (.int .i64 0) ∧ w'.cell? ⟨g, 3, none⟩ = some (.int .i64 197655) ∧ Below W.heap.size W w' := by
  refine (settle_any [⟨5, 0, 0, 0, [4, 5]⟩] ⟨5, 3, 1000000, 0, 0, 2345⟩ [(4, 300000), (5, 900000)] (.slice (some ⟨b, 0, none⟩) 1 1) (.slice (some ⟨bb, 0, none⟩) 2 2) 0 0 0 0 0 0 W (terms_lit (c := 1) [(⟨5, 0, 0, 0, [4, 5]⟩, .slice (some ⟨ba, 0, none⟩) 2 2)] hb (fun p hp => by simp at hp; subst hp; exact .inr ⟨ba, 0, 2, rfl, hba.lt, fun i x hx => by rw [Nat.zero_add, hba.cell]; match i, hx with | 0, hx | 1, hx => simp at hx; subst hx; rfl | i + 2, hx => simp at hx⟩)) (fun t ht => by simp at ht; subst ht; exact term_ok0 _ _ _ _ _ (by omega) (by omega) (by omega) (by omega) (by intro x hx; simp at hx; omega) (by simp)) (by simp) (irows_lit (c := 2) [[4, 300000], [5, 900000]] (by simp) hbb) (by simp) (fun b hb => by simp at hb; rcases hb with rfl | rfl <;> dsimp only <;> omega) (by dsimp only; omega)).mono ?_
  rintro e w' ⟨vp, vr, vo, rfl, hps, hrs, hbs, hbl⟩
  rw [spec5] at hps hrs hbs ⊢
  obtain ⟨g, c, rfl, hlt, hc⟩ := own_at hbs
  exact ⟨vp, vr, g, c, rfl, hlt, hc 0 _ rfl 1 0 rfl, hc 1 _ rfl 1 197655 rfl, hbl⟩
theorem saneB3 (W : World) : Calls Try.prog 20 #[.agg #[.int .i64 5, .int .i64 3, .int .i64 1000000, .int .i64 0, .int .i64 0, .int .i64 2345, .int .i64 100000, .int .i64 0, .int .i64 0, .int .i64 0, .int .i64 600000, .int .i64 302345]] W fun e w' => e = .returned (.bool true) ∧ Below W.heap.size W w' := by
  refine (balanced_any ⟨5, 3, 1000000, 0, 0, 2345⟩ 100000 0 0 0 600000 302345 W).mono ?_
  rintro e w' ⟨rfl, hb⟩
  exact ⟨by rw [show balB ⟨5, 3, 1000000, 0, 0, 2345⟩ 100000 0 0 0 600000 302345 = true by kernel_rfl], hb⟩
theorem saneB1 (W : World) : Calls Try.prog 20 #[.agg #[.int .i64 5, .int .i64 3, .int .i64 1000000, .int .i64 0, .int .i64 0, .int .i64 2345, .int .i64 0, .int .i64 0, .int .i64 0, .int .i64 0, .int .i64 0, .int .i64 0]] W fun e w' => e = .returned (.bool false) ∧ Below W.heap.size W w' := by
  refine (balanced_any ⟨5, 3, 1000000, 0, 0, 2345⟩ 0 0 0 0 0 0 W).mono ?_
  rintro e w' ⟨rfl, hb⟩
  exact ⟨by rw [show balB ⟨5, 3, 1000000, 0, 0, 2345⟩ 0 0 0 0 0 0 = false by kernel_rfl], hb⟩
theorem pass_eq (W : World) : (Go.binOp .eql 42 (.agg #[.int .i64 17, .int .i64 100000]) (.agg #[.int .i64 17, .int .i64 100000])).run Try.prog W = .ok (.bool true) W := by kernel_rfl
theorem res_eq (W : World) : (Go.binOp .eql 44 (.agg #[.int .i64 5, .int .i64 5, .int .i64 100234]) (.agg #[.int .i64 5, .int .i64 5, .int .i64 100234])).run Try.prog W = .ok (.bool true) W := by kernel_rfl
set_option maxRecDepth 100000 in
set_option maxHeartbeats 8000000 in
theorem sane_yes (w : World) : Calls Try.prog 10 #[] w fun e w' => e = .returned (.bool true) ∧ Below w.heap.size w w' := by
  go_enter Try.func10, Try.ntmps10
  have hbase : Below w.heap.size w w := Below.refl _ _
  go_wp2_with (first | ((with_reducible refine wpList_stop (o := ⟨some 27, _, _, _, _, _⟩) ?_)) | ((with_reducible refine wpList_store_new (o := ⟨none, .store _ _ _, _, _, _, _⟩) ?_ 24 (.tmp 1) (.tmp 25) ?_ ?_ _ #[.int .i64 5, .int .i64 3, .int .i64 1000000, .int .i64 0, .int .i64 0, .int .i64 2345, .int .i64 0, .int .i64 0, .int .i64 0, .int .i64 0, .int .i64 0, .int .i64 0] ?_ ?_ ?_ ?_ ?_); rfl; rfl; rfl; rfl; kernel_rfl; rfl; kernel_rfl))
  unfold Stop
  obtain ⟨W1, hW1⟩ : ∃ z, w.alloc (.cells #[.int .i64 5, .int .i64 3, .int .i64 1000000, .int .i64 0, .int .i64 0, .int .i64 2345, .int .i64 0, .int .i64 0, .int .i64 0, .int .i64 0, .int .i64 0, .int .i64 0] 24) = z := ⟨_, rfl⟩
  have hnW1 : Below w.heap.size w W1 := by rw [← hW1]; exact (Below.refl _ _).alloc (Nat.le_refl _) _
  have r1 : RowAt W1 w.heap.size 24 #[.int .i64 5, .int .i64 3, .int .i64 1000000, .int .i64 0, .int .i64 0, .int .i64 2345, .int .i64 0, .int .i64 0, .int .i64 0, .int .i64 0, .int .i64 0, .int .i64 0] := by rw [← hW1]; exact RowAt.new _ _ _
  rw [hW1]
  clear hW1
  have hbase : Below w.heap.size w W1 := hbase.trans (hnW1.mono hbase.size)
  obtain ⟨n1, hbn1⟩ : ∃ z, w.heap.size = z := ⟨_, rfl⟩
  rw [hbn1] at r1 ⊢
  clear hbn1 hnW1
  have HL1 := Lib.hid (row_cells (show W1.heap[n1]? = _ from r1))
  go_wp2_with (first | ((with_reducible refine wpList_load_at (o := ⟨some 27, _, _, _, _, _⟩) ?_ 24 (.tmp 1) ?_ n1 0 ?_ _ _ HL1.out Try.underlying24 ?_ ?_ ?_); rfl; rfl; rfl; rfl; kernel_rfl))
  refine (sane1 W1).mono ?_
  rintro e w2 ⟨vp1, vr1, vo1, rfl, hx⟩
  clear HL1
  have r1 : RowAt w2 n1 24 #[.int .i64 5, .int .i64 3, .int .i64 1000000, .int .i64 0, .int .i64 0, .int .i64 2345, .int .i64 0, .int .i64 0, .int .i64 0, .int .i64 0, .int .i64 0, .int .i64 0] := r1.below hx r1.lt
  have hbase : Below w.heap.size w w2 := hbase.trans (hx.mono hbase.size)
  clear hx
  go_wp2_with (first | ((with_reducible refine wpList_stop (o := ⟨some 35, _, _, _, _, _⟩) ?_)) | ((with_reducible refine wpList_store_new (o := ⟨none, .store _ _ _, _, _, _, _⟩) ?_ 24 (.tmp 2) (.tmp 29) ?_ ?_ _ #[.int .i64 5, .int .i64 3, .int .i64 1000000, .int .i64 0, .int .i64 0, .int .i64 2345, .int .i64 0, .int .i64 0, .int .i64 0, .int .i64 0, .int .i64 1000000, .int .i64 2345] ?_ ?_ ?_ ?_ ?_); rfl; rfl; rfl; rfl; kernel_rfl; rfl; kernel_rfl))
  unfold Stop
  obtain ⟨W2, hW2⟩ : ∃ z, w2.alloc (.cells #[.int .i64 5, .int .i64 3, .int .i64 1000000, .int .i64 0, .int .i64 0, .int .i64 2345, .int .i64 0, .int .i64 0, .int .i64 0, .int .i64 0, .int .i64 1000000, .int .i64 2345] 24) = z := ⟨_, rfl⟩
  have hnW2 : Below w2.heap.size w2 W2 := by rw [← hW2]; exact (Below.refl _ _).alloc (Nat.le_refl _) _
  have r2 : RowAt W2 w2.heap.size 24 #[.int .i64 5, .int .i64 3, .int .i64 1000000, .int .i64 0, .int .i64 0, .int .i64 2345, .int .i64 0, .int .i64 0, .int .i64 0, .int .i64 0, .int .i64 1000000, .int .i64 2345] := by rw [← hW2]; exact RowAt.new _ _ _
  rw [hW2]
  clear hW2
  have r1 : RowAt W2 n1 24 #[.int .i64 5, .int .i64 3, .int .i64 1000000, .int .i64 0, .int .i64 0, .int .i64 2345, .int .i64 0, .int .i64 0, .int .i64 0, .int .i64 0, .int .i64 0, .int .i64 0] := r1.below hnW2 r1.lt
  have hbase : Below w.heap.size w W2 := hbase.trans (hnW2.mono hbase.size)
  obtain ⟨n2, hbn2⟩ : ∃ z, w2.heap.size = z := ⟨_, rfl⟩
  rw [hbn2] at r2 ⊢
  clear hbn2 hnW2
  go_wp2_with (first | ((with_reducible refine wpList_stop (o := ⟨some 36, _, _, _, _, _⟩) ?_)))
  unfold Stop
  obtain ⟨W2b, hW2b⟩ : ∃ z, W2.alloc (.cells #[.int .i64 2, .int .i64 150000, .int .i64 0, .int .i64 0, .slice none 0 0] 52) = z := ⟨_, rfl⟩
  have hnW2b : Below W2.heap.size W2 W2b := by rw [← hW2b]; exact (Below.refl _ _).alloc (Nat.le_refl _) _
  have rt2 : RowAt W2b W2.heap.size 52 #[.int .i64 2, .int .i64 150000, .int .i64 0, .int .i64 0, .slice none 0 0] := by rw [← hW2b]; exact RowAt.new _ _ _
  rw [hW2b]
  clear hW2b
  have r1 : RowAt W2b n1 24 #[.int .i64 5, .int .i64 3, .int .i64 1000000, .int .i64 0, .int .i64 0, .int .i64 2345, .int .i64 0, .int .i64 0, .int .i64 0, .int .i64 0, .int .i64 0, .int .i64 0] := r1.below hnW2b r1.lt
  have r2 : RowAt W2b n2 24 #[.int .i64 5, .int .i64 3, .int .i64 1000000, .int .i64 0, .int .i64 0, .int .i64 2345, .int .i64 0, .int .i64 0, .int .i64 0, .int .i64 0, .int .i64 1000000, .int .i64 2345] := r2.below hnW2b r2.lt
  have hbase : Below w.heap.size w W2b := hbase.trans (hnW2b.mono hbase.size)
  obtain ⟨b2, hbb2⟩ : ∃ z, W2.heap.size = z := ⟨_, rfl⟩
  rw [hbb2] at rt2 ⊢
  clear hbb2 hnW2b
  have HL2 := Lib.hid (row_cells (show W2b.heap[n1]? = _ from r1))
  go_wp2_with (first | ((with_reducible refine wpList_load_at (o := ⟨some 36, _, _, _, _, _⟩) ?_ 24 (.tmp 1) ?_ n1 0 ?_ _ _ HL2.out Try.underlying24 ?_ ?_ ?_); rfl; rfl; rfl; rfl; kernel_rfl))
  refine (sane2 W2b b2 rt2).mono ?_
  rintro e w3 ⟨vp2, vr2, vo2, rfl, hx⟩
  clear HL2
  have r1 : RowAt w3 n1 24 #[.int .i64 5, .int .i64 3, .int .i64 1000000, .int .i64 0, .int .i64 0, .int .i64 2345, .int .i64 0, .int .i64 0, .int .i64 0, .int .i64 0, .int .i64 0, .int .i64 0] := r1.below hx r1.lt
  have r2 : RowAt w3 n2 24 #[.int .i64 5, .int .i64 3, .int .i64 1000000, .int .i64 0, .int .i64 0, .int .i64 2345, .int .i64 0, .int .i64 0, .int .i64 0, .int .i64 0, .int .i64 1000000, .int .i64 2345] := r2.below hx r2.lt
  have rt2 : RowAt w3 b2 52 #[.int .i64 2, .int .i64 150000, .int .i64 0, .int .i64 0, .slice none 0 0] := rt2.below hx rt2.lt
  have hbase : Below w.heap.size w w3 := hbase.trans (hx.mono hbase.size)
  clear hx
  go_wp2_with (first | ((with_reducible refine wpList_stop (o := ⟨some 45, _, _, _, _, _⟩) ?_)) | ((with_reducible refine wpList_store_new (o := ⟨none, .store _ _ _, _, _, _, _⟩) ?_ 24 (.tmp 6) (.tmp 38) ?_ ?_ _ #[.int .i64 5, .int .i64 3, .int .i64 1000000, .int .i64 0, .int .i64 0, .int .i64 2345, .int .i64 0, .int .i64 150351, .int .i64 0, .int .i64 0, .int .i64 850000, .int .i64 1994] ?_ ?_ ?_ ?_ ?_); rfl; rfl; rfl; rfl; kernel_rfl; rfl; kernel_rfl))
  unfold Stop
  obtain ⟨W3, hW3⟩ : ∃ z, w3.alloc (.cells #[.int .i64 5, .int .i64 3, .int .i64 1000000, .int .i64 0, .int .i64 0, .int .i64 2345, .int .i64 0, .int .i64 150351, .int .i64 0, .int .i64 0, .int .i64 850000, .int .i64 1994] 24) = z := ⟨_, rfl⟩
  have hnW3 : Below w3.heap.size w3 W3 := by rw [← hW3]; exact (Below.refl _ _).alloc (Nat.le_refl _) _
  have r6 : RowAt W3 w3.heap.size 24 #[.int .i64 5, .int .i64 3, .int .i64 1000000, .int .i64 0, .int .i64 0, .int .i64 2345, .int .i64 0, .int .i64 150351, .int .i64 0, .int .i64 0, .int .i64 850000, .int .i64 1994] := by rw [← hW3]; exact RowAt.new _ _ _
  rw [hW3]
  clear hW3
  have r1 : RowAt W3 n1 24 #[.int .i64 5, .int .i64 3, .int .i64 1000000, .int .i64 0, .int .i64 0, .int .i64 2345, .int .i64 0, .int .i64 0, .int .i64 0, .int .i64 0, .int .i64 0, .int .i64 0] := r1.below hnW3 r1.lt
  have r2 : RowAt W3 n2 24 #[.int .i64 5, .int .i64 3, .int .i64 1000000, .int .i64 0, .int .i64 0, .int .i64 2345, .int .i64 0, .int .i64 0, .int .i64 0, .int .i64 0, .int .i64 1000000, .int .i64 2345] := r2.below hnW3 r2.lt
  have rt2 : RowAt W3 b2 52 #[.int .i64 2, .int .i64 150000, .int .i64 0, .int .i64 0, .slice none 0 0] := rt2.below hnW3 rt2.lt
  have hbase : Below w.heap.size w W3 := hbase.trans (hnW3.mono hbase.size)
  obtain ⟨n6, hbn6⟩ : ∃ z, w3.heap.size = z := ⟨_, rfl⟩
  rw [hbn6] at r6 ⊢
  clear hbn6 hnW3
  go_wp2_with (first | ((with_reducible refine wpList_stop (o := ⟨some 46, _, _, _, _, _⟩) ?_)))
  unfold Stop
  obtain ⟨W3b, hW3b⟩ : ∃ z, W3.alloc (.cells #[.int .i64 1, .int .i64 200000, .int .i64 17, .int .i64 502345, .slice none 0 0, .int .i64 4, .int .i64 600000, .int .i64 0, .int .i64 0, .slice none 0 0] 52) = z := ⟨_, rfl⟩
  have hnW3b : Below W3.heap.size W3 W3b := by rw [← hW3b]; exact (Below.refl _ _).alloc (Nat.le_refl _) _
  have rt3 : RowAt W3b W3.heap.size 52 #[.int .i64 1, .int .i64 200000, .int .i64 17, .int .i64 502345, .slice none 0 0, .int .i64 4, .int .i64 600000, .int .i64 0, .int .i64 0, .slice none 0 0] := by rw [← hW3b]; exact RowAt.new _ _ _
  rw [hW3b]
  clear hW3b
  have r1 : RowAt W3b n1 24 #[.int .i64 5, .int .i64 3, .int .i64 1000000, .int .i64 0, .int .i64 0, .int .i64 2345, .int .i64 0, .int .i64 0, .int .i64 0, .int .i64 0, .int .i64 0, .int .i64 0] := r1.below hnW3b r1.lt
  have r2 : RowAt W3b n2 24 #[.int .i64 5, .int .i64 3, .int .i64 1000000, .int .i64 0, .int .i64 0, .int .i64 2345, .int .i64 0, .int .i64 0, .int .i64 0, .int .i64 0, .int .i64 1000000, .int .i64 2345] := r2.below hnW3b r2.lt
  have rt2 : RowAt W3b b2 52 #[.int .i64 2, .int .i64 150000, .int .i64 0, .int .i64 0, .slice none 0 0] := rt2.below hnW3b rt2.lt
  have r6 : RowAt W3b n6 24 #[.int .i64 5, .int .i64 3, .int .i64 1000000, .int .i64 0, .int .i64 0, .int .i64 2345, .int .i64 0, .int .i64 150351, .int .i64 0, .int .i64 0, .int .i64 850000, .int .i64 1994] := r6.below hnW3b r6.lt
  have hbase : Below w.heap.size w W3b := hbase.trans (hnW3b.mono hbase.size)
  obtain ⟨b3, hbb3⟩ : ∃ z, W3.heap.size = z := ⟨_, rfl⟩
  rw [hbb3] at rt3 ⊢
  clear hbb3 hnW3b
  have HL3 := Lib.hid (row_cells (show W3b.heap[n1]? = _ from r1))
  go_wp2_with (first | ((with_reducible refine wpList_load_at (o := ⟨some 46, _, _, _, _, _⟩) ?_ 24 (.tmp 1) ?_ n1 0 ?_ _ _ HL3.out Try.underlying24 ?_ ?_ ?_); rfl; rfl; rfl; rfl; kernel_rfl))
  refine (sane3 W3b b3 rt3).mono ?_
  rintro e w4 ⟨gp, cp, vr3, vo3, rfl, hgp, hp0, hp1, hx⟩
  clear HL3
  have r1 : RowAt w4 n1 24 #[.int .i64 5, .int .i64 3, .int .i64 1000000, .int .i64 0, .int .i64 0, .int .i64 2345, .int .i64 0, .int .i64 0, .int .i64 0, .int .i64 0, .int .i64 0, .int .i64 0] := r1.below hx r1.lt
  have r2 : RowAt w4 n2 24 #[.int .i64 5, .int .i64 3, .int .i64 1000000, .int .i64 0, .int .i64 0, .int .i64 2345, .int .i64 0, .int .i64 0, .int .i64 0, .int .i64 0, .int .i64 1000000, .int .i64 2345] := r2.below hx r2.lt
  have rt2 : RowAt w4 b2 52 #[.int .i64 2, .int .i64 150000, .int .i64 0, .int .i64 0, .slice none 0 0] := rt2.below hx rt2.lt
  have r6 : RowAt w4 n6 24 #[.int .i64 5, .int .i64 3, .int .i64 1000000, .int .i64 0, .int .i64 0, .int .i64 2345, .int .i64 0, .int .i64 150351, .int .i64 0, .int .i64 0, .int .i64 850000, .int .i64 1994] := r6.below hx r6.lt
  have rt3 : RowAt w4 b3 52 #[.int .i64 1, .int .i64 200000, .int .i64 17, .int .i64 502345, .slice none 0 0, .int .i64 4, .int .i64 600000, .int .i64 0, .int .i64 0, .slice none 0 0] := rt3.below hx rt3.lt
  have hbase : Below w.heap.size w w4 := hbase.trans (hx.mono hbase.size)
  clear hx
  go_wp2_with (first | ((with_reducible refine wpList_stop (o := ⟨some 54, _, _, _, _, _⟩) ?_)) | ((with_reducible refine wpList_store_new (o := ⟨none, .store _ _ _, _, _, _, _⟩) ?_ 24 (.tmp 10) (.tmp 48) ?_ ?_ _ #[.int .i64 5, .int .i64 3, .int .i64 1000000, .int .i64 0, .int .i64 0, .int .i64 2345, .int .i64 100000, .int .i64 0, .int .i64 0, .int .i64 0, .int .i64 600000, .int .i64 302345] ?_ ?_ ?_ ?_ ?_); rfl; rfl; rfl; rfl; kernel_rfl; rfl; kernel_rfl))
  unfold Stop
  obtain ⟨W4, hW4⟩ : ∃ z, w4.alloc (.cells #[.int .i64 5, .int .i64 3, .int .i64 1000000, .int .i64 0, .int .i64 0, .int .i64 2345, .int .i64 100000, .int .i64 0, .int .i64 0, .int .i64 0, .int .i64 600000, .int .i64 302345] 24) = z := ⟨_, rfl⟩
  have hnW4 : Below w4.heap.size w4 W4 := by rw [← hW4]; exact (Below.refl _ _).alloc (Nat.le_refl _) _
  have r10 : RowAt W4 w4.heap.size 24 #[.int .i64 5, .int .i64 3, .int .i64 1000000, .int .i64 0, .int .i64 0, .int .i64 2345, .int .i64 100000, .int .i64 0, .int .i64 0, .int .i64 0, .int .i64 600000, .int .i64 302345] := by rw [← hW4]; exact RowAt.new _ _ _
  rw [hW4]
  clear hW4
  have r1 : RowAt W4 n1 24 #[.int .i64 5, .int .i64 3, .int .i64 1000000, .int .i64 0, .int .i64 0, .int .i64 2345, .int .i64 0, .int .i64 0, .int .i64 0, .int .i64 0, .int .i64 0, .int .i64 0] := r1.below hnW4 r1.lt
  have r2 : RowAt W4 n2 24 #[.int .i64 5, .int .i64 3, .int .i64 1000000, .int .i64 0, .int .i64 0, .int .i64 2345, .int .i64 0, .int .i64 0, .int .i64 0, .int .i64 0, .int .i64 1000000, .int .i64 2345] := r2.below hnW4 r2.lt
  have rt2 : RowAt W4 b2 52 #[.int .i64 2, .int .i64 150000, .int .i64 0, .int .i64 0, .slice none 0 0] := rt2.below hnW4 rt2.lt
  have r6 : RowAt W4 n6 24 #[.int .i64 5, .int .i64 3, .int .i64 1000000, .int .i64 0, .int .i64 0, .int .i64 2345, .int .i64 0, .int .i64 150351, .int .i64 0, .int .i64 0, .int .i64 850000, .int .i64 1994] := r6.below hnW4 r6.lt
  have rt3 : RowAt W4 b3 52 #[.int .i64 1, .int .i64 200000, .int .i64 17, .int .i64 502345, .slice none 0 0, .int .i64 4, .int .i64 600000, .int .i64 0, .int .i64 0, .slice none 0 0] := rt3.below hnW4 rt3.lt
  have hp0 : W4.cell? ⟨gp, 0, none⟩ = some (.int .i64 17) := (hnW4.cell (p := ⟨gp, 0, none⟩) hgp).trans hp0
  have hp1 : W4.cell? ⟨gp, 1, none⟩ = some (.int .i64 100000) := (hnW4.cell (p := ⟨gp, 1, none⟩) hgp).trans hp1
  have hgp : gp < W4.heap.size := Nat.lt_of_lt_of_le hgp hnW4.size
  have hbase : Below w.heap.size w W4 := hbase.trans (hnW4.mono hbase.size)
  obtain ⟨n10, hbn10⟩ : ∃ z, w4.heap.size = z := ⟨_, rfl⟩
  rw [hbn10] at r10 ⊢
  clear hbn10 hnW4
  go_wp2_with (first | ((with_reducible refine wpList_stop (o := ⟨some 55, _, _, _, _, _⟩) ?_)))
  unfold Stop
  obtain ⟨W4b, hW4b⟩ : ∃ z, W4.alloc (.cells #[.int .i64 3, .int .i64 100000, .int .i64 2, .int .i64 0, .slice none 0 0] 52) = z := ⟨_, rfl⟩
  have hnW4b : Below W4.heap.size W4 W4b := by rw [← hW4b]; exact (Below.refl _ _).alloc (Nat.le_refl _) _
  have rt4 : RowAt W4b W4.heap.size 52 #[.int .i64 3, .int .i64 100000, .int .i64 2, .int .i64 0, .slice none 0 0] := by rw [← hW4b]; exact RowAt.new _ _ _
  rw [hW4b]
  clear hW4b
  have r1 : RowAt W4b n1 24 #[.int .i64 5, .int .i64 3, .int .i64 1000000, .int .i64 0, .int .i64 0, .int .i64 2345, .int .i64 0, .int .i64 0, .int .i64 0, .int .i64 0, .int .i64 0, .int .i64 0] := r1.below hnW4b r1.lt
  have r2 : RowAt W4b n2 24 #[.int .i64 5, .int .i64 3, .int .i64 1000000, .int .i64 0, .int .i64 0, .int .i64 2345, .int .i64 0, .int .i64 0, .int .i64 0, .int .i64 0, .int .i64 1000000, .int .i64 2345] := r2.below hnW4b r2.lt
  have rt2 : RowAt W4b b2 52 #[.int .i64 2, .int .i64 150000, .int .i64 0, .int .i64 0, .slice none 0 0] := rt2.below hnW4b rt2.lt
  have r6 : RowAt W4b n6 24 #[.int .i64 5, .int .i64 3, .int .i64 1000000, .int .i64 0, .int .i64 0, .int .i64 2345, .int .i64 0, .int .i64 150351, .int .i64 0, .int .i64 0, .int .i64 850000, .int .i64 1994] := r6.below hnW4b r6.lt
  have rt3 : RowAt W4b b3 52 #[.int .i64 1, .int .i64 200000, .int .i64 17, .int .i64 502345, .slice none 0 0, .int .i64 4, .int .i64 600000, .int .i64 0, .int .i64 0, .slice none 0 0] := rt3.below hnW4b rt3.lt
  have r10 : RowAt W4b n10 24 #[.int .i64 5, .int .i64 3, .int .i64 1000000, .int .i64 0, .int .i64 0, .int .i64 2345, .int .i64 100000, .int .i64 0, .int .i64 0, .int .i64 0, .int .i64 600000, .int .i64 302345] := r10.below hnW4b r10.lt
  have hp0 : W4b.cell? ⟨gp, 0, none⟩ = some (.int .i64 17) := (hnW4b.cell (p := ⟨gp, 0, none⟩) hgp).trans hp0
  have hp1 : W4b.cell? ⟨gp, 1, none⟩ = some (.int .i64 100000) := (hnW4b.cell (p := ⟨gp, 1, none⟩) hgp).trans hp1
  have hgp : gp < W4b.heap.size := Nat.lt_of_lt_of_le hgp hnW4b.size
  have hbase : Below w.heap.size w W4b := hbase.trans (hnW4b.mono hbase.size)
  obtain ⟨b4, hbb4⟩ : ∃ z, W4.heap.size = z := ⟨_, rfl⟩
  rw [hbb4] at rt4 ⊢
  clear hbb4 hnW4b
  have HL4 := Lib.hid (row_cells (show W4b.heap[n1]? = _ from r1))
  go_wp2_with (first | ((with_reducible refine wpList_load_at (o := ⟨some 55, _, _, _, _, _⟩) ?_ 24 (.tmp 1) ?_ n1 0 ?_ _ _ HL4.out Try.underlying24 ?_ ?_ ?_); rfl; rfl; rfl; rfl; kernel_rfl))
  refine (sane4 W4b b4 rt4).mono ?_
  rintro e w5 ⟨vp4, gq, cq, vo4, rfl, hgq, hq0, hq1, hq2, hx⟩
  clear HL4
  have r1 : RowAt w5 n1 24 #[.int .i64 5, .int .i64 3, .int .i64 1000000, .int .i64 0, .int .i64 0, .int .i64 2345, .int .i64 0, .int .i64 0, .int .i64 0, .int .i64 0, .int .i64 0, .int .i64 0] := r1.below hx r1.lt
  have r2 : RowAt w5 n2 24 #[.int .i64 5, .int .i64 3, .int .i64 1000000, .int .i64 0, .int .i64 0, .int .i64 2345, .int .i64 0, .int .i64 0, .int .i64 0, .int .i64 0, .int .i64 1000000, .int .i64 2345] := r2.below hx r2.lt
  have rt2 : RowAt w5 b2 52 #[.int .i64 2, .int .i64 150000, .int .i64 0, .int .i64 0, .slice none 0 0] := rt2.below hx rt2.lt
  have r6 : RowAt w5 n6 24 #[.int .i64 5, .int .i64 3, .int .i64 1000000, .int .i64 0, .int .i64 0, .int .i64 2345, .int .i64 0, .int .i64 150351, .int .i64 0, .int .i64 0, .int .i64 850000, .int .i64 1994] := r6.below hx r6.lt
  have rt3 : RowAt w5 b3 52 #[.int .i64 1, .int .i64 200000, .int .i64 17, .int .i64 502345, .slice none 0 0, .int .i64 4, .int .i64 600000, .int .i64 0, .int .i64 0, .slice none 0 0] := rt3.below hx rt3.lt
  have r10 : RowAt w5 n10 24 #[.int .i64 5, .int .i64 3, .int .i64 1000000, .int .i64 0, .int .i64 0, .int .i64 2345, .int .i64 100000, .int .i64 0, .int .i64 0, .int .i64 0, .int .i64 600000, .int .i64 302345] := r10.below hx r10.lt
  have rt4 : RowAt w5 b4 52 #[.int .i64 3, .int .i64 100000, .int .i64 2, .int .i64 0, .slice none 0 0] := rt4.below hx rt4.lt
  have hp0 : w5.cell? ⟨gp, 0, none⟩ = some (.int .i64 17) := (hx.cell (p := ⟨gp, 0, none⟩) hgp).trans hp0
  have hp1 : w5.cell? ⟨gp, 1, none⟩ = some (.int .i64 100000) := (hx.cell (p := ⟨gp, 1, none⟩) hgp).trans hp1
  have hgp : gp < w5.heap.size := Nat.lt_of_lt_of_le hgp hx.size
  have hbase : Below w.heap.size w w5 := hbase.trans (hx.mono hbase.size)
  clear hx
  go_wp2_with (first | ((with_reducible refine wpList_stop (o := ⟨some 62, _, _, _, _, _⟩) ?_)) | ((with_reducible refine wpList_store_new (o := ⟨none, .store _ _ _, _, _, _, _⟩) ?_ 24 (.tmp 14) (.tmp 57) ?_ ?_ _ #[.int .i64 5, .int .i64 3, .int .i64 1000000, .int .i64 0, .int .i64 0, .int .i64 2345, .int .i64 0, .int .i64 0, .int .i64 100234, .int .i64 0, .int .i64 900000, .int .i64 2111] ?_ ?_ ?_ ?_ ?_); rfl; rfl; rfl; rfl; kernel_rfl; rfl; kernel_rfl))
  unfold Stop
  obtain ⟨W5, hW5⟩ : ∃ z, w5.alloc (.cells #[.int .i64 5, .int .i64 3, .int .i64 1000000, .int .i64 0, .int .i64 0, .int .i64 2345, .int .i64 0, .int .i64 0, .int .i64 100234, .int .i64 0, .int .i64 900000, .int .i64 2111] 24) = z := ⟨_, rfl⟩
  have hnW5 : Below w5.heap.size w5 W5 := by rw [← hW5]; exact (Below.refl _ _).alloc (Nat.le_refl _) _
  have r14 : RowAt W5 w5.heap.size 24 #[.int .i64 5, .int .i64 3, .int .i64 1000000, .int .i64 0, .int .i64 0, .int .i64 2345, .int .i64 0, .int .i64 0, .int .i64 100234, .int .i64 0, .int .i64 900000, .int .i64 2111] := by rw [← hW5]; exact RowAt.new _ _ _
  rw [hW5]
  clear hW5
  have r1 : RowAt W5 n1 24 #[.int .i64 5, .int .i64 3, .int .i64 1000000, .int .i64 0, .int .i64 0, .int .i64 2345, .int .i64 0, .int .i64 0, .int .i64 0, .int .i64 0, .int .i64 0, .int .i64 0] := r1.below hnW5 r1.lt
  have r2 : RowAt W5 n2 24 #[.int .i64 5, .int .i64 3, .int .i64 1000000, .int .i64 0, .int .i64 0, .int .i64 2345, .int .i64 0, .int .i64 0, .int .i64 0, .int .i64 0, .int .i64 1000000, .int .i64 2345] := r2.below hnW5 r2.lt
  have rt2 : RowAt W5 b2 52 #[.int .i64 2, .int .i64 150000, .int .i64 0, .int .i64 0, .slice none 0 0] := rt2.below hnW5 rt2.lt
  have r6 : RowAt W5 n6 24 #[.int .i64 5, .int .i64 3, .int .i64 1000000, .int .i64 0, .int .i64 0, .int .i64 2345, .int .i64 0, .int .i64 150351, .int .i64 0, .int .i64 0, .int .i64 850000, .int .i64 1994] := r6.below hnW5 r6.lt
  have rt3 : RowAt W5 b3 52 #[.int .i64 1, .int .i64 200000, .int .i64 17, .int .i64 502345, .slice none 0 0, .int .i64 4, .int .i64 600000, .int .i64 0, .int .i64 0, .slice none 0 0] := rt3.below hnW5 rt3.lt
  have r10 : RowAt W5 n10 24 #[.int .i64 5, .int .i64 3, .int .i64 1000000, .int .i64 0, .int .i64 0, .int .i64 2345, .int .i64 100000, .int .i64 0, .int .i64 0, .int .i64 0, .int .i64 600000, .int .i64 302345] := r10.below hnW5 r10.lt
  have rt4 : RowAt W5 b4 52 #[.int .i64 3, .int .i64 100000, .int .i64 2, .int .i64 0, .slice none 0 0] := rt4.below hnW5 rt4.lt
  have hp0 : W5.cell? ⟨gp, 0, none⟩ = some (.int .i64 17) := (hnW5.cell (p := ⟨gp, 0, none⟩) hgp).trans hp0
  have hp1 : W5.cell? ⟨gp, 1, none⟩ = some (.int .i64 100000) := (hnW5.cell (p := ⟨gp, 1, none⟩) hgp).trans hp1
  have hq0 : W5.cell? ⟨gq, 0, none⟩ = some (.int .i64 5) := (hnW5.cell (p := ⟨gq, 0, none⟩) hgq).trans hq0
  have hq1 : W5.cell? ⟨gq, 1, none⟩ = some (.int .i64 5) := (hnW5.cell (p := ⟨gq, 1, none⟩) hgq).trans hq1
  have hq2 : W5.cell? ⟨gq, 2, none⟩ = some (.int .i64 100234) := (hnW5.cell (p := ⟨gq, 2, none⟩) hgq).trans hq2
  have hgp : gp < W5.heap.size := Nat.lt_of_lt_of_le hgp hnW5.size
  have hgq : gq < W5.heap.size := Nat.lt_of_lt_of_le hgq hnW5.size
  have hbase : Below w.heap.size w W5 := hbase.trans (hnW5.mono hbase.size)
  obtain ⟨n14, hbn14⟩ : ∃ z, w5.heap.size = z := ⟨_, rfl⟩
  rw [hbn14] at r14 ⊢
  clear hbn14 hnW5
  go_wp2_with (first | ((with_reducible refine wpList_stop (o := ⟨some 64, _, _, _, _, _⟩) ?_)))
  unfold Stop
  obtain ⟨W5a, hW5a⟩ : ∃ z, W5.alloc (.cells #[.int .i64 4, .int .i64 5] 3) = z := ⟨_, rfl⟩
  have hnW5a : Below W5.heap.size W5 W5a := by rw [← hW5a]; exact (Below.refl _ _).alloc (Nat.le_refl _) _
  have ra : RowAt W5a W5.heap.size 3 #[.int .i64 4, .int .i64 5] := by rw [← hW5a]; exact RowAt.new _ _ _
  rw [hW5a]
  clear hW5a
  have r1 : RowAt W5a n1 24 #[.int .i64 5, .int .i64 3, .int .i64 1000000, .int .i64 0, .int .i64 0, .int .i64 2345, .int .i64 0, .int .i64 0, .int .i64 0, .int .i64 0, .int .i64 0, .int .i64 0] := r1.below hnW5a r1.lt
  have r2 : RowAt W5a n2 24 #[.int .i64 5, .int .i64 3, .int .i64 1000000, .int .i64 0, .int .i64 0, .int .i64 2345, .int .i64 0, .int .i64 0, .int .i64 0, .int .i64 0, .int .i64 1000000, .int .i64 2345] := r2.below hnW5a r2.lt
  have rt2 : RowAt W5a b2 52 #[.int .i64 2, .int .i64 150000, .int .i64 0, .int .i64 0, .slice none 0 0] := rt2.below hnW5a rt2.lt
  have r6 : RowAt W5a n6 24 #[.int .i64 5, .int .i64 3, .int .i64 1000000, .int .i64 0, .int .i64 0, .int .i64 2345, .int .i64 0, .int .i64 150351, .int .i64 0, .int .i64 0, .int .i64 850000, .int .i64 1994] := r6.below hnW5a r6.lt
  have rt3 : RowAt W5a b3 52 #[.int .i64 1, .int .i64 200000, .int .i64 17, .int .i64 502345, .slice none 0 0, .int .i64 4, .int .i64 600000, .int .i64 0, .int .i64 0, .slice none 0 0] := rt3.below hnW5a rt3.lt
  have r10 : RowAt W5a n10 24 #[.int .i64 5, .int .i64 3, .int .i64 1000000, .int .i64 0, .int .i64 0, .int .i64 2345, .int .i64 100000, .int .i64 0, .int .i64 0, .int .i64 0, .int .i64 600000, .int .i64 302345] := r10.below hnW5a r10.lt
  have rt4 : RowAt W5a b4 52 #[.int .i64 3, .int .i64 100000, .int .i64 2, .int .i64 0, .slice none 0 0] := rt4.below hnW5a rt4.lt
  have r14 : RowAt W5a n14 24 #[.int .i64 5, .int .i64 3, .int .i64 1000000, .int .i64 0, .int .i64 0, .int .i64 2345, .int .i64 0, .int .i64 0, .int .i64 100234, .int .i64 0, .int .i64 900000, .int .i64 2111] := r14.below hnW5a r14.lt
  have hp0 : W5a.cell? ⟨gp, 0, none⟩ = some (.int .i64 17) := (hnW5a.cell (p := ⟨gp, 0, none⟩) hgp).trans hp0
  have hp1 : W5a.cell? ⟨gp, 1, none⟩ = some (.int .i64 100000) := (hnW5a.cell (p := ⟨gp, 1, none⟩) hgp).trans hp1
  have hq0 : W5a.cell? ⟨gq, 0, none⟩ = some (.int .i64 5) := (hnW5a.cell (p := ⟨gq, 0, none⟩) hgq).trans hq0
  have hq1 : W5a.cell? ⟨gq, 1, none⟩ = some (.int .i64 5) := (hnW5a.cell (p := ⟨gq, 1, none⟩) hgq).trans hq1
  have hq2 : W5a.cell? ⟨gq, 2, none⟩ = some (.int .i64 100234) := (hnW5a.cell (p := ⟨gq, 2, none⟩) hgq).trans hq2
  have hgp : gp < W5a.heap.size := Nat.lt_of_lt_of_le hgp hnW5a.size
  have hgq : gq < W5a.heap.size := Nat.lt_of_lt_of_le hgq hnW5a.size
  have hbase : Below w.heap.size w W5a := hbase.trans (hnW5a.mono hbase.size)
  obtain ⟨ba, hbba⟩ : ∃ z, W5.heap.size = z := ⟨_, rfl⟩
  rw [hbba] at ra ⊢
  clear hbba hnW5a
  go_wp2_with (first | ((with_reducible refine wpList_stop (o := ⟨some 65, _, _, _, _, _⟩) ?_)))
  unfold Stop
  obtain ⟨W5b, hW5b⟩ : ∃ z, W5a.alloc (.cells #[.int .i64 5, .int .i64 0, .int .i64 0, .int .i64 0, .slice (some ⟨ba, 0, none⟩) 2 2] 52) = z := ⟨_, rfl⟩
  have hnW5b : Below W5a.heap.size W5a W5b := by rw [← hW5b]; exact (Below.refl _ _).alloc (Nat.le_refl _) _
  have rt5 : RowAt W5b W5a.heap.size 52 #[.int .i64 5, .int .i64 0, .int .i64 0, .int .i64 0, .slice (some ⟨ba, 0, none⟩) 2 2] := by rw [← hW5b]; exact RowAt.new _ _ _
  rw [hW5b]
  clear hW5b
  have r1 : RowAt W5b n1 24 #[.int .i64 5, .int .i64 3, .int .i64 1000000, .int .i64 0, .int .i64 0, .int .i64 2345, .int .i64 0, .int .i64 0, .int .i64 0, .int .i64 0, .int .i64 0, .int .i64 0] := r1.below hnW5b r1.lt
  have r2 : RowAt W5b n2 24 #[.int .i64 5, .int .i64 3, .int .i64 1000000, .int .i64 0, .int .i64 0, .int .i64 2345, .int .i64 0, .int .i64 0, .int .i64 0, .int .i64 0, .int .i64 1000000, .int .i64 2345] := r2.below hnW5b r2.lt
  have rt2 : RowAt W5b b2 52 #[.int .i64 2, .int .i64 150000, .int .i64 0, .int .i64 0, .slice none 0 0] := rt2.below hnW5b rt2.lt
  have r6 : RowAt W5b n6 24 #[.int .i64 5, .int .i64 3, .int .i64 1000000, .int .i64 0, .int .i64 0, .int .i64 2345, .int .i64 0, .int .i64 150351, .int .i64 0, .int .i64 0, .int .i64 850000, .int .i64 1994] := r6.below hnW5b r6.lt
  have rt3 : RowAt W5b b3 52 #[.int .i64 1, .int .i64 200000, .int .i64 17, .int .i64 502345, .slice none 0 0, .int .i64 4, .int .i64 600000, .int .i64 0, .int .i64 0, .slice none 0 0] := rt3.below hnW5b rt3.lt
  have r10 : RowAt W5b n10 24 #[.int .i64 5, .int .i64 3, .int .i64 1000000, .int .i64 0, .int .i64 0, .int .i64 2345, .int .i64 100000, .int .i64 0, .int .i64 0, .int .i64 0, .int .i64 600000, .int .i64 302345] := r10.below hnW5b r10.lt
  have rt4 : RowAt W5b b4 52 #[.int .i64 3, .int .i64 100000, .int .i64 2, .int .i64 0, .slice none 0 0] := rt4.below hnW5b rt4.lt
  have r14 : RowAt W5b n14 24 #[.int .i64 5, .int .i64 3, .int .i64 1000000, .int .i64 0, .int .i64 0, .int .i64 2345, .int .i64 0, .int .i64 0, .int .i64 100234, .int .i64 0, .int .i64 900000, .int .i64 2111] := r14.below hnW5b r14.lt
  have ra : RowAt W5b ba 3 #[.int .i64 4, .int .i64 5] := ra.below hnW5b ra.lt
  have hp0 : W5b.cell? ⟨gp, 0, none⟩ = some (.int .i64 17) := (hnW5b.cell (p := ⟨gp, 0, none⟩) hgp).trans hp0
  have hp1 : W5b.cell? ⟨gp, 1, none⟩ = some (.int .i64 100000) := (hnW5b.cell (p := ⟨gp, 1, none⟩) hgp).trans hp1
  have hq0 : W5b.cell? ⟨gq, 0, none⟩ = some (.int .i64 5) := (hnW5b.cell (p := ⟨gq, 0, none⟩) hgq).trans hq0
  have hq1 : W5b.cell? ⟨gq, 1, none⟩ = some (.int .i64 5) := (hnW5b.cell (p := ⟨gq, 1, none⟩) hgq).trans hq1
  have hq2 : W5b.cell? ⟨gq, 2, none⟩ = some (.int .i64 100234) := (hnW5b.cell (p := ⟨gq, 2, none⟩) hgq).trans hq2
  have hgp : gp < W5b.heap.size := Nat.lt_of_lt_of_le hgp hnW5b.size
  have hgq : gq < W5b.heap.size := Nat.lt_of_lt_of_le hgq hnW5b.size
  have hbase : Below w.heap.size w W5b := hbase.trans (hnW5b.mono hbase.size)
  obtain ⟨b5, hbb5⟩ : ∃ z, W5a.heap.size = z := ⟨_, rfl⟩
  rw [hbb5] at rt5 ⊢
  clear hbb5 hnW5b
  have HL5 := Lib.hid (row_cells (show W5b.heap[n1]? = _ from r1))
  go_wp2_with (first | ((with_reducible refine wpList_load_at (o := ⟨some 65, _, _, _, _, _⟩) ?_ 24 (.tmp 1) ?_ n1 0 ?_ _ _ HL5.out Try.underlying24 ?_ ?_ ?_); rfl; rfl; rfl; rfl; kernel_rfl))
  have hn5 : Below W5b.heap.size W5b (W5b.alloc (.cells #[.int .i64 4, .int .i64 300000, .int .i64 5, .int .i64 900000] 46)) := (Below.refl _ _).alloc (Nat.le_refl _) _
  refine (sane5 (W5b.alloc (.cells #[.int .i64 4, .int .i64 300000, .int .i64 5, .int .i64 900000] 46)) ba (ra.below hn5 ra.lt) b5 (rt5.below hn5 rt5.lt) W5b.heap.size (RowAt.new _ _ _)).mono ?_
  rintro e w6 ⟨vp5, vr5, gk, ck, rfl, hgk, hk1, hk3, hx6⟩
  have hx := hn5.trans (hx6.mono hn5.size)
  clear HL5 hn5 hx6
  have r1 : RowAt w6 n1 24 #[.int .i64 5, .int .i64 3, .int .i64 1000000, .int .i64 0, .int .i64 0, .int .i64 2345, .int .i64 0, .int .i64 0, .int .i64 0, .int .i64 0, .int .i64 0, .int .i64 0] := r1.below hx r1.lt
  have r2 : RowAt w6 n2 24 #[.int .i64 5, .int .i64 3, .int .i64 1000000, .int .i64 0, .int .i64 0, .int .i64 2345, .int .i64 0, .int .i64 0, .int .i64 0, .int .i64 0, .int .i64 1000000, .int .i64 2345] := r2.below hx r2.lt
  have rt2 : RowAt w6 b2 52 #[.int .i64 2, .int .i64 150000, .int .i64 0, .int .i64 0, .slice none 0 0] := rt2.below hx rt2.lt
  have r6 : RowAt w6 n6 24 #[.int .i64 5, .int .i64 3, .int .i64 1000000, .int .i64 0, .int .i64 0, .int .i64 2345, .int .i64 0, .int .i64 150351, .int .i64 0, .int .i64 0, .int .i64 850000, .int .i64 1994] := r6.below hx r6.lt
  have rt3 : RowAt w6 b3 52 #[.int .i64 1, .int .i64 200000, .int .i64 17, .int .i64 502345, .slice none 0 0, .int .i64 4, .int .i64 600000, .int .i64 0, .int .i64 0, .slice none 0 0] := rt3.below hx rt3.lt
  have r10 : RowAt w6 n10 24 #[.int .i64 5, .int .i64 3, .int .i64 1000000, .int .i64 0, .int .i64 0, .int .i64 2345, .int .i64 100000, .int .i64 0, .int .i64 0, .int .i64 0, .int .i64 600000, .int .i64 302345] := r10.below hx r10.lt
  have rt4 : RowAt w6 b4 52 #[.int .i64 3, .int .i64 100000, .int .i64 2, .int .i64 0, .slice none 0 0] := rt4.below hx rt4.lt
  have r14 : RowAt w6 n14 24 #[.int .i64 5, .int .i64 3, .int .i64 1000000, .int .i64 0, .int .i64 0, .int .i64 2345, .int .i64 0, .int .i64 0, .int .i64 100234, .int .i64 0, .int .i64 900000, .int .i64 2111] := r14.below hx r14.lt
  have ra : RowAt w6 ba 3 #[.int .i64 4, .int .i64 5] := ra.below hx ra.lt
  have rt5 : RowAt w6 b5 52 #[.int .i64 5, .int .i64 0, .int .i64 0, .int .i64 0, .slice (some ⟨ba, 0, none⟩) 2 2] := rt5.below hx rt5.lt
  have hp0 : w6.cell? ⟨gp, 0, none⟩ = some (.int .i64 17) := (hx.cell (p := ⟨gp, 0, none⟩) hgp).trans hp0
  have hp1 : w6.cell? ⟨gp, 1, none⟩ = some (.int .i64 100000) := (hx.cell (p := ⟨gp, 1, none⟩) hgp).trans hp1
  have hq0 : w6.cell? ⟨gq, 0, none⟩ = some (.int .i64 5) := (hx.cell (p := ⟨gq, 0, none⟩) hgq).trans hq0
  have hq1 : w6.cell? ⟨gq, 1, none⟩ = some (.int .i64 5) := (hx.cell (p := ⟨gq, 1, none⟩) hgq).trans hq1
  have hq2 : w6.cell? ⟨gq, 2, none⟩ = some (.int .i64 100234) := (hx.cell (p := ⟨gq, 2, none⟩) hgq).trans hq2
  have hgp : gp < w6.heap.size := Nat.lt_of_lt_of_le hgp hx.size
  have hgq : gq < w6.heap.size := Nat.lt_of_lt_of_le hgq hx.size
  have hbase : Below w.heap.size w w6 := hbase.trans (hx.mono hbase.size)
  clear hx
  go_wp2_with (first | ((with_reducible refine wpList_stop (o := ⟨some 75, _, _, _, _, _⟩) ?_)) | ((with_reducible refine wpList_store_new (o := ⟨none, .store _ _ _, _, _, _, _⟩) ?_ 24 (.tmp 18) (.tmp 70) ?_ ?_ _ #[.int .i64 5, .int .i64 3, .int .i64 1000000, .int .i64 0, .int .i64 0, .int .i64 2345, .int .i64 0, .int .i64 0, .int .i64 0, .int .i64 1002345, .int .i64 0, .int .i64 0] ?_ ?_ ?_ ?_ ?_); rfl; rfl; rfl; rfl; kernel_rfl; rfl; kernel_rfl))
  unfold Stop
  obtain ⟨W7, hW7⟩ : ∃ z, w6.alloc (.cells #[.int .i64 5, .int .i64 3, .int .i64 1000000, .int .i64 0, .int .i64 0, .int .i64 2345, .int .i64 0, .int .i64 0, .int .i64 0, .int .i64 1002345, .int .i64 0, .int .i64 0] 24) = z := ⟨_, rfl⟩
  have hnW7 : Below w6.heap.size w6 W7 := by rw [← hW7]; exact (Below.refl _ _).alloc (Nat.le_refl _) _
  have r18 : RowAt W7 w6.heap.size 24 #[.int .i64 5, .int .i64 3, .int .i64 1000000, .int .i64 0, .int .i64 0, .int .i64 2345, .int .i64 0, .int .i64 0, .int .i64 0, .int .i64 1002345, .int .i64 0, .int .i64 0] := by rw [← hW7]; exact RowAt.new _ _ _
  rw [hW7]
  clear hW7
  have r1 : RowAt W7 n1 24 #[.int .i64 5, .int .i64 3, .int .i64 1000000, .int .i64 0, .int .i64 0, .int .i64 2345, .int .i64 0, .int .i64 0, .int .i64 0, .int .i64 0, .int .i64 0, .int .i64 0] := r1.below hnW7 r1.lt
  have r2 : RowAt W7 n2 24 #[.int .i64 5, .int .i64 3, .int .i64 1000000, .int .i64 0, .int .i64 0, .int .i64 2345, .int .i64 0, .int .i64 0, .int .i64 0, .int .i64 0, .int .i64 1000000, .int .i64 2345] := r2.below hnW7 r2.lt
  have rt2 : RowAt W7 b2 52 #[.int .i64 2, .int .i64 150000, .int .i64 0, .int .i64 0, .slice none 0 0] := rt2.below hnW7 rt2.lt
  have r6 : RowAt W7 n6 24 #[.int .i64 5, .int .i64 3, .int .i64 1000000, .int .i64 0, .int .i64 0, .int .i64 2345, .int .i64 0, .int .i64 150351, .int .i64 0, .int .i64 0, .int .i64 850000, .int .i64 1994] := r6.below hnW7 r6.lt
  have rt3 : RowAt W7 b3 52 #[.int .i64 1, .int .i64 200000, .int .i64 17, .int .i64 502345, .slice none 0 0, .int .i64 4, .int .i64 600000, .int .i64 0, .int .i64 0, .slice none 0 0] := rt3.below hnW7 rt3.lt
  have r10 : RowAt W7 n10 24 #[.int .i64 5, .int .i64 3, .int .i64 1000000, .int .i64 0, .int .i64 0, .int .i64 2345, .int .i64 100000, .int .i64 0, .int .i64 0, .int .i64 0, .int .i64 600000, .int .i64 302345] := r10.below hnW7 r10.lt
  have rt4 : RowAt W7 b4 52 #[.int .i64 3, .int .i64 100000, .int .i64 2, .int .i64 0, .slice none 0 0] := rt4.below hnW7 rt4.lt
  have r14 : RowAt W7 n14 24 #[.int .i64 5, .int .i64 3, .int .i64 1000000, .int .i64 0, .int .i64 0, .int .i64 2345, .int .i64 0, .int .i64 0, .int .i64 100234, .int .i64 0, .int .i64 900000, .int .i64 2111] := r14.below hnW7 r14.lt
  have ra : RowAt W7 ba 3 #[.int .i64 4, .int .i64 5] := ra.below hnW7 ra.lt
  have rt5 : RowAt W7 b5 52 #[.int .i64 5, .int .i64 0, .int .i64 0, .int .i64 0, .slice (some ⟨ba, 0, none⟩) 2 2] := rt5.below hnW7 rt5.lt
  have hp0 : W7.cell? ⟨gp, 0, none⟩ = some (.int .i64 17) := (hnW7.cell (p := ⟨gp, 0, none⟩) hgp).trans hp0
  have hp1 : W7.cell? ⟨gp, 1, none⟩ = some (.int .i64 100000) := (hnW7.cell (p := ⟨gp, 1, none⟩) hgp).trans hp1
  have hq0 : W7.cell? ⟨gq, 0, none⟩ = some (.int .i64 5) := (hnW7.cell (p := ⟨gq, 0, none⟩) hgq).trans hq0
  have hq1 : W7.cell? ⟨gq, 1, none⟩ = some (.int .i64 5) := (hnW7.cell (p := ⟨gq, 1, none⟩) hgq).trans hq1
  have hq2 : W7.cell? ⟨gq, 2, none⟩ = some (.int .i64 100234) := (hnW7.cell (p := ⟨gq, 2, none⟩) hgq).trans hq2
  have hk1 : W7.cell? ⟨gk, 1, none⟩ = some (.int .i64 0) := (hnW7.cell (p := ⟨gk, 1, none⟩) hgk).trans hk1
  have hk3 : W7.cell? ⟨gk, 3, none⟩ = some (.int .i64 197655) := (hnW7.cell (p := ⟨gk, 3, none⟩) hgk).trans hk3
  have hgk : gk < W7.heap.size := Nat.lt_of_lt_of_le hgk hnW7.size
  have hgp : gp < W7.heap.size := Nat.lt_of_lt_of_le hgp hnW7.size
  have hgq : gq < W7.heap.size := Nat.lt_of_lt_of_le hgq hnW7.size
  have hbase : Below w.heap.size w W7 := hbase.trans (hnW7.mono hbase.size)
  obtain ⟨n18, hbn18⟩ : ∃ z, w6.heap.size = z := ⟨_, rfl⟩
  rw [hbn18] at r18 ⊢
  clear hbn18 hnW7
  have cr2_0 : W7.cell? ⟨n2, 0, none⟩ = some (.int .i64 5) := r2.cell 0
  have cr2_10 : W7.cell? ⟨n2, 10, none⟩ = some (.int .i64 1000000) := r2.cell 10
  have cr2_11 : W7.cell? ⟨n2, 11, none⟩ = some (.int .i64 2345) := r2.cell 11
  have cr6_7 : W7.cell? ⟨n6, 7, none⟩ = some (.int .i64 150351) := r6.cell 7
  have cr6_10 : W7.cell? ⟨n6, 10, none⟩ = some (.int .i64 850000) := r6.cell 10
  have cr6_11 : W7.cell? ⟨n6, 11, none⟩ = some (.int .i64 1994) := r6.cell 11
  have cr10_0 : W7.cell? ⟨n10, 0, none⟩ = some (.int .i64 5) := r10.cell 0
  have cr10_1 : W7.cell? ⟨n10, 1, none⟩ = some (.int .i64 3) := r10.cell 1
  have cr10_2 : W7.cell? ⟨n10, 2, none⟩ = some (.int .i64 1000000) := r10.cell 2
  have cr10_3 : W7.cell? ⟨n10, 3, none⟩ = some (.int .i64 0) := r10.cell 3
  have cr10_4 : W7.cell? ⟨n10, 4, none⟩ = some (.int .i64 0) := r10.cell 4
  have cr10_5 : W7.cell? ⟨n10, 5, none⟩ = some (.int .i64 2345) := r10.cell 5
  have cr10_6 : W7.cell? ⟨n10, 6, none⟩ = some (.int .i64 100000) := r10.cell 6
  have cr10_7 : W7.cell? ⟨n10, 7, none⟩ = some (.int .i64 0) := r10.cell 7
  have cr10_8 : W7.cell? ⟨n10, 8, none⟩ = some (.int .i64 0) := r10.cell 8
  have cr10_9 : W7.cell? ⟨n10, 9, none⟩ = some (.int .i64 0) := r10.cell 9
  have cr10_10 : W7.cell? ⟨n10, 10, none⟩ = some (.int .i64 600000) := r10.cell 10
  have cr10_11 : W7.cell? ⟨n10, 11, none⟩ = some (.int .i64 302345) := r10.cell 11
  have cr14_10 : W7.cell? ⟨n14, 10, none⟩ = some (.int .i64 900000) := r14.cell 10
  have cr14_11 : W7.cell? ⟨n14, 11, none⟩ = some (.int .i64 2111) := r14.cell 11
  have cr18_9 : W7.cell? ⟨n18, 9, none⟩ = some (.int .i64 1002345) := r18.cell 9
  have cr18_10 : W7.cell? ⟨n18, 10, none⟩ = some (.int .i64 0) := r18.cell 10
  have pe := pass_eq W7
  have re := res_eq W7
  clear r2
  clear rt2
  clear r6
  clear rt3
  clear r10
  clear rt4
  clear r14
  clear ra
  clear rt5
  clear r18
  have HR1 := Lib.hid r1
  have HBS := Lib.hid hbase
  clear r1 hbase
  go_wp2_with fail
  refine (saneB3 W7).mono ?_
  rintro e w8 ⟨rfl, hx⟩
  have r1 := HR1.out.below hx HR1.out.lt
  have cr1_0 : w8.cell? ⟨n1, 0, none⟩ = some (.int .i64 5) := r1.cell 0
  have cr1_1 : w8.cell? ⟨n1, 1, none⟩ = some (.int .i64 3) := r1.cell 1
  have cr1_2 : w8.cell? ⟨n1, 2, none⟩ = some (.int .i64 1000000) := r1.cell 2
  have cr1_3 : w8.cell? ⟨n1, 3, none⟩ = some (.int .i64 0) := r1.cell 3
  have cr1_4 : w8.cell? ⟨n1, 4, none⟩ = some (.int .i64 0) := r1.cell 4
  have cr1_5 : w8.cell? ⟨n1, 5, none⟩ = some (.int .i64 2345) := r1.cell 5
  have cr1_6 : w8.cell? ⟨n1, 6, none⟩ = some (.int .i64 0) := r1.cell 6
  have cr1_7 : w8.cell? ⟨n1, 7, none⟩ = some (.int .i64 0) := r1.cell 7
  have cr1_8 : w8.cell? ⟨n1, 8, none⟩ = some (.int .i64 0) := r1.cell 8
  have cr1_9 : w8.cell? ⟨n1, 9, none⟩ = some (.int .i64 0) := r1.cell 9
  have cr1_10 : w8.cell? ⟨n1, 10, none⟩ = some (.int .i64 0) := r1.cell 10
  have cr1_11 : w8.cell? ⟨n1, 11, none⟩ = some (.int .i64 0) := r1.cell 11
  have HBS8 := Lib.hid (HBS.out.trans (hx.mono HBS.out.size))
  clear r1 hx
  go_wp2_with fail
  refine (saneB1 w8).mono ?_
  rintro e w9 ⟨rfl, hx⟩
  have HBS9 := Lib.hid (HBS8.out.trans (hx.mono HBS8.out.size))
  clear hx
  go_wp2_with fail
  go_ret
  exact ⟨rfl, HBS9.out⟩
end Go.Proofs.Ytejkgnlflhngbaa
