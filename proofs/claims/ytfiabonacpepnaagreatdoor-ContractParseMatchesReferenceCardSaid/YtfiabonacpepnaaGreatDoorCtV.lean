/- The reference's SameTerm, Same, Lines. -/
import Derived.Test.YtfiabonacpepnaaGreatDoorCtU
namespace Go.Proofs.YtfiabonacpepnaaGreatDoor
open Go Go.RowKit Go.Lib Go.Shelf Go.Maps

theorem idrop_at {l : List Int} {j : Nat} {f : Int} (h : l[j]? = some f) : l.drop j = f :: l.drop (j + 1) := by
  have hj := (List.getElem?_eq_some_iff.1 h).1
  rw [List.drop_eq_getElem_cons hj, (List.getElem?_eq_some_iff.1 h).2]
set_option maxRecDepth 100000 in
set_option maxHeartbeats 4000000 in
theorem rsameTerm_any (t u : TermV) (va vb : Value) (w : World) (hv : IntsL w va t.acc) (hu : IntsL w vb u.acc) (hl : t.acc.length ≤ 1000000) (hm : u.acc.length ≤ 1000000) :
    Calls Tryz.prog 40 #[.agg (termC t va), .agg (termC u vb)] w fun e w' => e = .returned (.bool (sameT t u)) ∧ Below w.heap.size w w' := by
  obtain ⟨k, n, m, a, l⟩ := t
  obtain ⟨k', n', m', a', l'⟩ := u
  dsimp only at hv hu hl hm
  have HV := Lib.hid hv
  have HU := Lib.hid hu
  obtain ⟨A, c, rfl⟩ := hv.slice
  obtain ⟨B, d, rfl⟩ := hu.slice
  have HST : Hid (sameT ⟨k, n, m, a, l⟩ ⟨k', n', m', a', l'⟩ = (k == k' && (n == n' && (m == m' && (a == a' && l == l'))))) := Lib.hid rfl
  have HB := Lib.hid (show Below w.heap.size w ((w.alloc (.cells (termC ⟨k, n, m, a, l⟩ (.slice A l.length c)) 28)).alloc (.cells (termC ⟨k', n', m', a', l'⟩ (.slice B l'.length d)) 28)) from ((Below.refl _ _).alloc (Nat.le_refl _) _).alloc (by simp) _)
  have hr1 := (RowAt.new w 28 (termC ⟨k, n, m, a, l⟩ (.slice A l.length c))).alloc (.cells (termC ⟨k', n', m', a', l'⟩ (.slice B l'.length d)) 28)
  have hr2 := RowAt.new (w.alloc (.cells (termC ⟨k, n, m, a, l⟩ (.slice A l.length c)) 28)) 28 (termC ⟨k', n', m', a', l'⟩ (.slice B l'.length d))
  rw [World.size_alloc] at hr2
  obtain ⟨S, hS⟩ : ∃ S, sameT ⟨k, n, m, a, l⟩ ⟨k', n', m', a', l'⟩ = S := ⟨_, rfl⟩
  rw [hS] at HST ⊢
  obtain ⟨c1, h1⟩ : ∃ q, (k == k') = q := ⟨_, rfl⟩
  obtain ⟨c2, h2⟩ : ∃ q, (n == n') = q := ⟨_, rfl⟩
  obtain ⟨c3, h3⟩ : ∃ q, (m == m') = q := ⟨_, rfl⟩
  obtain ⟨c4, h4⟩ : ∃ q, (a == a') = q := ⟨_, rfl⟩
  have g1 : (k != k') = !c1 := by rw [← h1]; rfl
  have g2 : (n != n') = !c2 := by rw [← h2]; rfl
  have g3 : (m != m') = !c3 := by rw [← h3]; rfl
  have g4 : (a != a') = !c4 := by rw [← h4]; rfl
  rw [h1, h2, h3, h4] at HST
  obtain ⟨nl, hnl⟩ : ∃ z, l.length = z := ⟨_, rfl⟩
  obtain ⟨nl', hnl'⟩ : ∃ z, l'.length = z := ⟨_, rfl⟩
  rw [hnl] at HB hr1 hr2 hl HV ⊢
  rw [hnl'] at HB hr1 hr2 hm HU ⊢
  have HN := Lib.hid (And.intro hnl hnl')
  have HR := Lib.hid (And.intro hr1 hr2)
  clear hv hu hS hnl hnl' h1 h2 h3 h4 hr1 hr2
  unfold termC at HB HR ⊢
  dsimp only at HB HR ⊢
  by_cases hall : c1 = true ∧ c2 = true ∧ c3 = true ∧ c4 = true ∧ nl = nl'
  rotate_left
  · have HS0 : Hid (S = false) := Lib.hid (by
      rw [HST.out]
      cases c1 <;> cases c2 <;> cases c3 <;> cases c4 <;> simp at hall ⊢
      intro e
      exact hall (by rw [← HN.out.1, ← HN.out.2, e]))
    cases c1 with
    | false =>
      clear hall
      go_enter Tryz.func40, Tryz.ntmps40
      go_wp2_with fail
      go_ret
      exact ⟨by rw [HS0.out]; rfl, HB.out⟩
    | true =>
      cases c2 with
      | false =>
        clear hall
        go_enter Tryz.func40, Tryz.ntmps40
        go_wp2_with fail
        go_ret
        exact ⟨by rw [HS0.out]; rfl, HB.out⟩
      | true =>
        cases c3 with
        | false =>
          clear hall
          go_enter Tryz.func40, Tryz.ntmps40
          go_wp2_with fail
          go_ret
          exact ⟨by rw [HS0.out]; rfl, HB.out⟩
        | true =>
          cases c4 with
          | false =>
            clear hall
            go_enter Tryz.func40, Tryz.ntmps40
            go_wp2_with fail
            go_ret
            exact ⟨by rw [HS0.out]; rfl, HB.out⟩
          | true =>
            have g5 : ((nl : Int) != (nl' : Int)) = true := by simp at hall ⊢; omega
            have g6 : decide (nl = nl') = false := by simp at hall ⊢; omega
            have g7 : (nl != nl') = true := by simp at hall ⊢; omega
            clear hall
            go_enter Tryz.func40, Tryz.ntmps40
            go_wp2_with fail
            go_ret
            exact ⟨by rw [HS0.out]; rfl, HB.out⟩
  · obtain ⟨rfl, rfl, rfl, rfl, rfl⟩ := hall
    have HS1 : Hid (S = (l == l')) := Lib.hid (by rw [HST.out]; simp)
    have g5 : ((nl : Int) != (nl : Int)) = false := by simp
    go_enter Tryz.func40, Tryz.ntmps40
    go_wp2_with fail
    go_loopw [5] (fun iv wr => ∃ j : Nat, iv = .int .i64 j ∧ j ≤ nl ∧ Hid ((l == l') = (l.drop j == l'.drop j) ∧ Below (w.heap.size + 2) ((w.alloc (.cells #[.int .i64 k, .int .i64 n, .int .i64 m, .int .i64 a, .slice A nl c] 28)).alloc (.cells #[.int .i64 k', .int .i64 n', .int .i64 m', .int .i64 a', .slice B nl d] 28)) wr)) (fun iv _ => nl - (intOf iv).toNat)
    case atStart => exact ⟨0, rfl, Nat.zero_le _, Lib.hid ⟨by simp, Below.refl _ _⟩⟩
    case round =>
      obtain ⟨j, rfl, hj, HS⟩ := hrel
      have hbw := HS.out.2
      have HBW := Lib.hid (HB.out.trans (hbw.mono (by omega)))
      have cA : wr.cell? ⟨w.heap.size, 4, none⟩ = some (.slice A nl c) := (hbw.cell (p := ⟨w.heap.size, 4, none⟩) (by show w.heap.size < w.heap.size + 2; omega)).trans (HR.out.1.cell 4)
      have cB : wr.cell? ⟨w.heap.size + 1, 4, none⟩ = some (.slice B nl d) := (hbw.cell (p := ⟨w.heap.size + 1, 4, none⟩) (by show w.heap.size + 1 < w.heap.size + 2; omega)).trans (HR.out.2.cell 4)
      have HBE := Lib.hid hbw
      clear hbw
      by_cases hj2 : j < nl
      · obtain ⟨x, hx⟩ : ∃ x, l[j]? = some x := ⟨_, List.getElem?_eq_getElem (by have := HN.out.1; omega)⟩
        obtain ⟨y, hy⟩ : ∃ x, l'[j]? = some x := ⟨_, List.getElem?_eq_getElem (by have := HN.out.2; omega)⟩
        obtain ⟨b1, o1, rfl, cx⟩ : ∃ b o, A = some ⟨b, o, none⟩ ∧ wr.cell? ⟨b, o + j, none⟩ = some (.int .i64 x) := by
          rcases HV.out with ⟨h, _⟩ | ⟨b, o, c', he, hlt, hc⟩
          · rw [h] at hx; simp at hx
          · simp only [Value.slice.injEq] at he
            exact ⟨b, o, he.1, (HBW.out.cell (p := ⟨b, o + j, none⟩) hlt).trans (hc j x hx)⟩
        obtain ⟨b2, o2, rfl, cy⟩ : ∃ b o, B = some ⟨b, o, none⟩ ∧ wr.cell? ⟨b, o + j, none⟩ = some (.int .i64 y) := by
          rcases HU.out with ⟨h, _⟩ | ⟨b, o, c', he, hlt, hc⟩
          · rw [h] at hy; simp at hy
          · simp only [Value.slice.injEq] at he
            exact ⟨b, o, he.1, (HBW.out.cell (p := ⟨b, o + j, none⟩) hlt).trans (hc j y hy)⟩
        have HD : Hid ((l.drop j == l'.drop j) = (x == y && l.drop (j + 1) == l'.drop (j + 1))) := Lib.hid (by rw [idrop_at hx, idrop_at hy]; rfl)
        obtain ⟨q, hq⟩ : ∃ q, (x == y) = q := ⟨_, rfl⟩
        rw [hq] at HD
        have gq : (x != y) = !q := by rw [← hq]; rfl
        clear hx hy hq
        cases q
        · go_wp2_with fail
          go_quiet (fail)
          go_wp2_with fail
          go_ret
          exact ⟨by rw [HS1.out, HS.out.1, HD.out]; rfl, below_drewN HBW.out _⟩
        · go_wp2_with fail
          go_quiet (fail)
          go_wp2_with fail
          go_roundw
          case rel => exact ⟨j + 1, by go_num, by omega, Lib.hid ⟨by rw [HS.out.1, HD.out]; rfl, below_drewN HBE.out _⟩⟩
          case measure => simp [intOf]; omega
      · obtain rfl : j = nl := by omega
        go_wp2_with fail
        go_ret
        refine ⟨?_, HBW.out⟩
        rw [HS1.out, HS.out.1, List.drop_eq_nil_of_le (by have := HN.out.1; omega), List.drop_eq_nil_of_le (by have := HN.out.2; omega)]
        rfl
end Go.Proofs.YtfiabonacpepnaaGreatDoor
