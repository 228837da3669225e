/- The law's collide. -/
import Derived.Test.YtgmdjbhclihflaaDoorDgPd
import Derived.Test.YtgmdjbhclihflaaDoorDgSp
namespace Go.Proofs.YtgmdjbhclihflaaDoor
open Go Go.RowKit Go.Lib Go.Shelf
attribute [local go_sem] Oper.semAt_some

theorem collB_stop {a b : List (List UInt8)} {i : Nat} (h : a.length ≤ i ∨ b.length ≤ i) : collB (a.drop i) (b.drop i) = false := by
  rcases h with h | h
  · rw [List.drop_eq_nil_of_le h]; rfl
  · rw [List.drop_eq_nil_of_le h]; cases a.drop i <;> rfl
theorem collB_next {a b : List (List UInt8)} {i : Nat} {x y : List UInt8} (hx : a[i]? = some x) (hy : b[i]? = some y) : collB (a.drop i) (b.drop i) = ((x != y && shaB x == shaB y) || collB (a.drop (i + 1)) (b.drop (i + 1))) := by
  obtain ⟨h1, rfl⟩ := List.getElem?_eq_some_iff.1 hx
  obtain ⟨h2, rfl⟩ := List.getElem?_eq_some_iff.1 hy
  rw [List.drop_eq_getElem_cons h1, List.drop_eq_getElem_cons h2]
  rfl
set_option maxRecDepth 100000 in
set_option maxHeartbeats 4000000 in
theorem collide_any (va vb : Value) (a b : List (List UInt8)) (w : World) (ha : SlS w va a) (hb : SlS w vb b) (hal : ∀ x ∈ a, x.length ≤ 10000) (hbl : ∀ x ∈ b, x.length ≤ 10000) (hn1 : a.length ≤ 10000) (hn2 : b.length ≤ 10000) (hK : KAt w) :
    Calls Tryd.prog 24 #[va, vb] w fun e w' => e = .returned (.bool (collB a b)) ∧ Below w.heap.size w w' := by
  obtain ⟨A, c, rfl⟩ := ha.slice
  obtain ⟨A', c', rfl⟩ := hb.slice
  obtain ⟨n, hn⟩ : ∃ n, a.length = n := ⟨_, rfl⟩
  obtain ⟨m, hm⟩ : ∃ n, b.length = n := ⟨_, rfl⟩
  rw [hn] at ha hn1 ⊢
  rw [hm] at hb hn2 ⊢
  obtain ⟨R, hR⟩ : ∃ R, collB a b = R := ⟨_, rfl⟩
  rw [hR]
  have HR := Lib.hid hR
  have HA := Lib.hid ha
  have HB := Lib.hid hb
  have HL := Lib.hid (And.intro hal hbl)
  have HN := Lib.hid (And.intro hn hm)
  have HK : Hid (∀ W, Below w.heap.size w W → KAt W) := Lib.hid (fun W hb => hK.below hb)
  clear hR ha hb hal hbl hn hm hK
  obtain ⟨B, hB⟩ : ∃ B, w.heap.size = B := ⟨_, rfl⟩
  rw [hB] at HK ⊢
  have HBB := Lib.hid hB
  clear hB
  go_enter Tryd.func24, Tryd.ntmps24
  go_wp2_with fail
  go_loopw [5] (fun v5 wr => ∃ i : Nat, v5 = .int .i64 i ∧ i ≤ n ∧ i ≤ m ∧ Hid (collB (a.drop i) (b.drop i) = R ∧ Below B w wr)) (fun v5 _ => n - (RowKit.intOf v5).toNat)
  case atStart => exact ⟨0, rfl, by omega, by omega, Lib.hid ⟨by rw [List.drop_zero, List.drop_zero]; exact HR.out, by rw [← HBB.out]; exact Below.refl _ _⟩⟩
  case round =>
    obtain ⟨i, rfl, hi, hi2, HS⟩ := hrel
    by_cases h1 : i < n
    · by_cases h2 : i < m
      · have h1d : decide (i < n) = true := by simp; omega
        have h2d : decide (i < m) = true := by simp; omega
        obtain ⟨x, hx⟩ : ∃ x, a[i]? = some x := ⟨_, List.getElem?_eq_getElem (by rw [HN.out.1]; exact h1)⟩
        obtain ⟨y, hy⟩ : ∃ x, b[i]? = some x := ⟨_, List.getElem?_eq_getElem (by rw [HN.out.2]; exact h2)⟩
        obtain ⟨b1, o1, hA1, hlt1, hc1⟩ := HA.out.get hx
        obtain ⟨b2, o2, hA2, hlt2, hc2⟩ := HB.out.get hy
        subst hA1 hA2
        have CC : Hid (∀ W, Below B w W → Below B w W ∧ W.cell? ⟨b1, o1 + i, none⟩ = some (.string ⟨x.toArray⟩) ∧ W.cell? ⟨b2, o2 + i, none⟩ = some (.string ⟨y.toArray⟩)) := Lib.hid (fun W hb => by
          refine ⟨hb, ?_, ?_⟩
          · rw [← HBB.out] at hb; exact (hb.cell (p := ⟨b1, o1 + i, none⟩) hlt1).trans hc1
          · rw [← HBB.out] at hb; exact (hb.cell (p := ⟨b2, o2 + i, none⟩) hlt2).trans hc2)
        have HNX := Lib.hid (collB_next hx hy)
        have SX : Hid (∀ W, Below B w W → Calls Tryd.prog 27 #[.string ⟨x.toArray⟩] W fun e w' => e = .returned (.string ⟨(shaB x).toArray⟩) ∧ Below B w w') := Lib.hid (fun W hb => by
          refine (sum_any x W (by have := HL.out.1 x (List.mem_of_getElem? hx); omega) (HK.out W hb)).mono ?_
          rintro e w' ⟨rfl, h4⟩
          exact ⟨rfl, hb.trans (h4.mono (by rw [← HBB.out]; exact hb.size))⟩)
        have SY : Hid (∀ W, Below B w W → Calls Tryd.prog 27 #[.string ⟨y.toArray⟩] W fun e w' => e = .returned (.string ⟨(shaB y).toArray⟩) ∧ Below B w w') := Lib.hid (fun W hb => by
          refine (sum_any y W (by have := HL.out.2 y (List.mem_of_getElem? hy); omega) (HK.out W hb)).mono ?_
          rintro e w' ⟨rfl, h4⟩
          exact ⟨rfl, hb.trans (h4.mono (by rw [← HBB.out]; exact hb.size))⟩)
        obtain ⟨_, hq1, hq2⟩ := CC.out wr HS.out.2
        clear hx hy hlt1 hlt2 hc1 hc2
        by_cases hxy : x = y
        · subst hxy
          have HEND : Hid (collB (a.drop (i + 1)) (b.drop (i + 1)) = R) := Lib.hid (by rw [← HS.out.1, HNX.out]; simp)
          clear SX SY
          go_wp2_with fail
          go_quiet (fail)
          go_wp2_with fail
          go_roundw
          case rel => exact ⟨i + 1, by go_num, by omega, by omega, Lib.hid ⟨HEND.out, by have h := HS.out.2; exact ⟨h.os, h.tape, h.output, h.size, h.block⟩⟩⟩
          case measure => simp [RowKit.intOf]; omega
        · have hxyb : (x == y) = false := beq_eq_false_iff_ne.2 hxy
          obtain ⟨sx, hsx⟩ : ∃ z, shaB x = z := ⟨_, rfl⟩
          obtain ⟨sy, hsy⟩ : ∃ z, shaB y = z := ⟨_, rfl⟩
          have hnx := HNX.out
          rw [hsx, hsy] at hnx
          rw [hsx] at SX
          rw [hsy] at SY
          have hsxy : collB (a.drop i) (b.drop i) = (sx == sy || collB (a.drop (i + 1)) (b.drop (i + 1))) := by rw [hnx, show (x != y) = true from bne_iff_ne.2 hxy, Bool.true_and]
          have HSX := Lib.hid hsxy
          have hwb := HS.out.2
          clear hsx hsy hnx hsxy hxy
          by_cases hs : sx = sy
          · subst hs
            have hRt : R = true := by rw [← HS.out.1, HSX.out]; simp
            subst hRt
            go_wp2_with fail
            go_region_held3 (fun W => Below B w W ∧ W.cell? ⟨b1, o1 + i, none⟩ = some (.string ⟨x.toArray⟩) ∧ W.cell? ⟨b2, o2 + i, none⟩ = some (.string ⟨y.toArray⟩)) (first | exact CC.out _ (by first | assumption | exact Below.drew (by assumption))) (first | (go_at_call 27; (first | (with_reducible refine (SX.out _ ?_).mono ?_) | (with_reducible refine (SY.out _ ?_).mono ?_)); (first | with_reducible assumption | exact Below.drew (by assumption)); rintro e Z ⟨rfl, hZ⟩))
            go_wp2_with fail
            go_ret
            exact ⟨rfl, by assumption⟩
          · have hsb : (sx == sy) = false := beq_eq_false_iff_ne.2 hs
            have HEND : Hid (collB (a.drop (i + 1)) (b.drop (i + 1)) = R) := Lib.hid (by rw [← HS.out.1, HSX.out, hsb]; rfl)
            go_wp2_with fail
            go_region_held3 (fun W => Below B w W ∧ W.cell? ⟨b1, o1 + i, none⟩ = some (.string ⟨x.toArray⟩) ∧ W.cell? ⟨b2, o2 + i, none⟩ = some (.string ⟨y.toArray⟩)) (first | exact CC.out _ (by first | assumption | exact Below.drew (by assumption))) (first | (go_at_call 27; (first | (with_reducible refine (SX.out _ ?_).mono ?_) | (with_reducible refine (SY.out _ ?_).mono ?_)); (first | with_reducible assumption | exact Below.drew (by assumption)); rintro e Z ⟨rfl, hZ⟩))
            go_wp2_with fail
            go_roundw
            case rel => exact ⟨i + 1, by go_num, by omega, by omega, Lib.hid ⟨HEND.out, by assumption⟩⟩
            case measure => simp [RowKit.intOf]; omega
      · have h1d : decide (i < n) = true := by simp; omega
        have h2d : decide (i < m) = false := by simp; omega
        have hRf : R = false := by rw [← HS.out.1]; exact collB_stop (.inr (by rw [HN.out.2]; omega))
        subst hRf
        go_wp2_with fail
        go_ret
        exact ⟨rfl, HS.out.2⟩
    · have h1d : decide (i < n) = false := by simp; omega
      have hRf : R = false := by rw [← HS.out.1]; exact collB_stop (.inl (by rw [HN.out.1]; omega))
      subst hRf
      go_wp2_with fail
      go_ret
      exact ⟨rfl, HS.out.2⟩
end Go.Proofs.YtgmdjbhclihflaaDoor
