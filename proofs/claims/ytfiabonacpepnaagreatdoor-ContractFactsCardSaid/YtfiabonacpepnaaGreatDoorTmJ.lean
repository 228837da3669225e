/- Valid of package contract. -/
import Derived.Test.YtfiabonacpepnaaGreatDoorTmI
namespace Go.Proofs.YtfiabonacpepnaaGreatDoor
open Go Go.RowKit Go.Lib Go.Shelf Go.Maps

set_option maxRecDepth 100000 in
set_option maxHeartbeats 8000000 in
theorem validC_any (t : TermV) (va : Value) (w : World) (hl : t.acc.length ≤ 1000000) (hv : IntsL w va t.acc) (hab : ∀ a ∈ t.acc, -9223372036854775808 ≤ a ∧ a ≤ 9223372036854775807) :
    Calls Tryz.prog 14 #[.agg (termC t va)] w fun e w' => e = .returned (.bool (validT t)) ∧ Below w.heap.size w w' := by
  obtain ⟨xk, xn, xm, xa, acc⟩ := t
  dsimp only at hl hv hab
  unfold termC
  dsimp only
  have AC1 : Hid (∀ W, Below w.heap.size w W → Calls Tryz.prog 30 #[va] W fun e w' => e = .returned (.bool (accOk acc)) ∧ Below W.heap.size W w') := Lib.hid fun W h => isAccounts_any acc va W hl (hv.below h) hab
  have HV := Lib.hid hv
  obtain ⟨AC, cc, rfl⟩ := hv.slice
  have BA := Lib.hid (show Below w.heap.size w (w.alloc (.cells #[.int .i64 xk, .int .i64 xn, .int .i64 xm, .int .i64 xa, .slice AC acc.length cc] 28)) from (Below.refl _ _).alloc (Nat.le_refl _) _)
  clear hv hab
  by_cases he : acc = []
  · subst he
    simp only [List.length_nil] at AC1 BA ⊢
    by_cases k1 : xk = 1
    · subst k1
      obtain ⟨n1, hn1⟩ : ∃ z, inR xn 1 1000000 = z := ⟨_, rfl⟩
      obtain ⟨m1, hm1⟩ : ∃ z, inR xm 1 1000000 = z := ⟨_, rfl⟩
      obtain ⟨a1, ha1⟩ : ∃ z, inR xa 0 1000000000000000 = z := ⟨_, rfl⟩
      have hvt : validT ⟨1, xn, xm, xa, []⟩ = (n1 && true && m1 && a1) := by
        rw [← hn1, ← hm1, ← ha1]
        rfl
      rw [hvt]
      clear hvt
      cases n1 <;> cases m1 <;> cases a1
      all_goals
        go_enter Tryz.func14, Tryz.ntmps14
        go_wp2_with fail
        repeat (refine (withinC_any _ _ _ _).mono ?_; rintro e w2 ⟨rfl, rfl⟩; go_wp2_with fail)
        go_ret
        exact ⟨by first | rfl | (rw [HVT.out]; rfl), by first | exact BA.out | exact (Below.refl _ _).alloc (Nat.le_refl _) _ | exact BA.out.trans (HB2.out.mono BA.out.size)⟩
    · have q1 : (xk == 1) = false := by rw [beq_eq_false_iff_ne]; exact k1
      by_cases k3 : xk = 3
      · subst k3
        obtain ⟨n1, hn1⟩ : ∃ z, inR xn 1 1000000 = z := ⟨_, rfl⟩
        obtain ⟨m3, hm3⟩ : ∃ z, inR xm 1 24 = z := ⟨_, rfl⟩
        obtain ⟨a0, ha0⟩ : ∃ z, (xa == 0) = z := ⟨_, rfl⟩
        have hvt : validT ⟨3, xn, xm, xa, []⟩ = (n1 && true && m3 && a0) := by
          rw [← hn1, ← hm3, ← ha0]
          rfl
        rw [hvt]
        clear hvt
        cases n1 <;> cases m3 <;> cases a0
        all_goals
          go_enter Tryz.func14, Tryz.ntmps14
          go_wp2_with fail
          repeat (refine (withinC_any _ _ _ _).mono ?_; rintro e w2 ⟨rfl, rfl⟩; go_wp2_with fail)
          go_ret
          exact ⟨by first | rfl | (rw [HVT.out]; rfl), by first | exact BA.out | exact (Below.refl _ _).alloc (Nat.le_refl _) _ | exact BA.out.trans (HB2.out.mono BA.out.size)⟩
      · have q3 : (xk == 3) = false := by rw [beq_eq_false_iff_ne]; exact k3
        by_cases k2 : xk = 2
        · subst k2
          obtain ⟨n1, hn1⟩ : ∃ z, inR xn 1 1000000 = z := ⟨_, rfl⟩
          obtain ⟨m0, hm0⟩ : ∃ z, (xm == 0) = z := ⟨_, rfl⟩
          obtain ⟨a0, ha0⟩ : ∃ z, (xa == 0) = z := ⟨_, rfl⟩
          have hvt : validT ⟨2, xn, xm, xa, []⟩ = (n1 && true && m0 && a0) := by
            rw [← hn1, ← hm0, ← ha0]
            rfl
          rw [hvt]
          clear hvt
          cases n1 <;> cases m0 <;> cases a0
          all_goals
            go_enter Tryz.func14, Tryz.ntmps14
            go_wp2_with fail
            repeat (refine (withinC_any _ _ _ _).mono ?_; rintro e w2 ⟨rfl, rfl⟩; go_wp2_with fail)
            go_ret
            exact ⟨by first | rfl | (rw [HVT.out]; rfl), by first | exact BA.out | exact (Below.refl _ _).alloc (Nat.le_refl _) _ | exact BA.out.trans (HB2.out.mono BA.out.size)⟩
        · have q2 : (xk == 2) = false := by rw [beq_eq_false_iff_ne]; exact k2
          by_cases k4 : xk = 4
          · subst k4
            obtain ⟨n1, hn1⟩ : ∃ z, inR xn 1 1000000 = z := ⟨_, rfl⟩
            obtain ⟨n4, hn4⟩ : ∃ z, inR xn 0 1000000000000000 = z := ⟨_, rfl⟩
            obtain ⟨m0, hm0⟩ : ∃ z, (xm == 0) = z := ⟨_, rfl⟩
            obtain ⟨a0, ha0⟩ : ∃ z, (xa == 0) = z := ⟨_, rfl⟩
            have hvt : validT ⟨4, xn, xm, xa, []⟩ = (n4 && m0 && a0 && true) := by
              rw [← hn4, ← hm0, ← ha0]
              rfl
            rw [hvt]
            clear hvt
            cases n1 <;> cases n4 <;> cases m0 <;> cases a0
            all_goals
              go_enter Tryz.func14, Tryz.ntmps14
              go_wp2_with fail
              repeat (refine (withinC_any _ _ _ _).mono ?_; rintro e w2 ⟨rfl, rfl⟩; go_wp2_with fail)
              go_ret
              exact ⟨by first | rfl | (rw [HVT.out]; rfl), by first | exact BA.out | exact (Below.refl _ _).alloc (Nat.le_refl _) _ | exact BA.out.trans (HB2.out.mono BA.out.size)⟩
          · have q4 : (xk == 4) = false := by rw [beq_eq_false_iff_ne]; exact k4
            by_cases k5 : xk = 5
            · subst k5
              obtain ⟨n1, hn1⟩ : ∃ z, inR xn 1 1000000 = z := ⟨_, rfl⟩
              obtain ⟨ac, hac⟩ : ∃ z, accOk [] = z := ⟨_, rfl⟩
              obtain ⟨n0, hn0⟩ : ∃ z, (xn == 0) = z := ⟨_, rfl⟩
              obtain ⟨m0, hm0⟩ : ∃ z, (xm == 0) = z := ⟨_, rfl⟩
              obtain ⟨a0, ha0⟩ : ∃ z, (xa == 0) = z := ⟨_, rfl⟩
              have hvt : validT ⟨5, xn, xm, xa, []⟩ = (ac && n0 && m0 && a0) := by
                rw [← hac, ← hn0, ← hm0, ← ha0]
                rfl
              rw [hvt]
              clear hvt
              rw [hac] at AC1
              clear hac
              cases n1 <;> cases ac <;> cases n0 <;> cases m0 <;> cases a0
              all_goals
                go_enter Tryz.func14, Tryz.ntmps14
                go_wp2_with fail
                repeat (refine (withinC_any _ _ _ _).mono ?_; rintro e w2 ⟨rfl, rfl⟩; go_wp2_with fail)
                refine (AC1.out _ BA.out).mono ?_
                rintro e w2 ⟨rfl, hb2⟩
                have c1 : w2.cell? ⟨w.heap.size, 1, none⟩ = some (.int .i64 xn) := by rw [hb2.cell (p := ⟨w.heap.size, 1, none⟩) (by simp)]; simp
                have c2 : w2.cell? ⟨w.heap.size, 2, none⟩ = some (.int .i64 xm) := by rw [hb2.cell (p := ⟨w.heap.size, 2, none⟩) (by simp)]; simp
                have c3 : w2.cell? ⟨w.heap.size, 3, none⟩ = some (.int .i64 xa) := by rw [hb2.cell (p := ⟨w.heap.size, 3, none⟩) (by simp)]; simp
                have HB2 := Lib.hid hb2
                clear hb2
                go_wp2_with fail
                go_ret
                exact ⟨by first | rfl | (rw [HVT.out]; rfl), by first | exact BA.out | exact (Below.refl _ _).alloc (Nat.le_refl _) _ | exact BA.out.trans (HB2.out.mono BA.out.size)⟩
            · have q5 : (xk == 5) = false := by rw [beq_eq_false_iff_ne]; exact k5
              obtain ⟨n1, hn1⟩ : ∃ z, inR xn 1 1000000 = z := ⟨_, rfl⟩
              have hvt : validT ⟨xk, xn, xm, xa, []⟩ = (false) := by
                unfold validT
                rw [if_neg k1, if_neg k2, if_neg k3, if_neg k4, if_neg k5]
              rw [hvt]
              clear hvt
              cases n1
              all_goals
                go_enter Tryz.func14, Tryz.ntmps14
                go_wp2_with fail
                repeat (refine (withinC_any _ _ _ _).mono ?_; rintro e w2 ⟨rfl, rfl⟩; go_wp2_with fail)
                go_ret
                exact ⟨by first | rfl | (rw [HVT.out]; rfl), by first | exact BA.out | exact (Below.refl _ _).alloc (Nat.le_refl _) _ | exact BA.out.trans (HB2.out.mono BA.out.size)⟩

  · have hem : acc.isEmpty = false := by simpa using he
    obtain ⟨m, hm⟩ : ∃ m, acc.length = m := ⟨_, rfl⟩
    have hm0 : m ≠ 0 := by rw [← hm]; simpa using he
    have e0 : (m == 0) = false := by simpa using hm0
    have e1 : ((m : Int) == 0) = false := by simpa using hm0
    rw [hm] at hl AC1 BA ⊢
    clear he hm hm0
    by_cases k1 : xk = 1
    · subst k1
      obtain ⟨n1, hn1⟩ : ∃ z, inR xn 1 1000000 = z := ⟨_, rfl⟩
      obtain ⟨m1, hm1⟩ : ∃ z, inR xm 1 1000000 = z := ⟨_, rfl⟩
      obtain ⟨a1, ha1⟩ : ∃ z, inR xa 0 1000000000000000 = z := ⟨_, rfl⟩
      have hvt : validT ⟨1, xn, xm, xa, acc⟩ = (n1 && acc.isEmpty && m1 && a1) := by
        rw [← hn1, ← hm1, ← ha1]
        rfl
      rw [hem] at hvt
      rw [hvt]
      clear hvt
      cases n1 <;> cases m1 <;> cases a1
      all_goals
        go_enter Tryz.func14, Tryz.ntmps14
        go_wp2_with fail
        repeat (refine (withinC_any _ _ _ _).mono ?_; rintro e w2 ⟨rfl, rfl⟩; go_wp2_with fail)
        go_ret
        exact ⟨by first | rfl | (rw [HVT.out]; rfl), by first | exact BA.out | exact (Below.refl _ _).alloc (Nat.le_refl _) _ | exact BA.out.trans (HB2.out.mono BA.out.size)⟩
    · have q1 : (xk == 1) = false := by rw [beq_eq_false_iff_ne]; exact k1
      by_cases k3 : xk = 3
      · subst k3
        obtain ⟨n1, hn1⟩ : ∃ z, inR xn 1 1000000 = z := ⟨_, rfl⟩
        obtain ⟨m3, hm3⟩ : ∃ z, inR xm 1 24 = z := ⟨_, rfl⟩
        obtain ⟨a0, ha0⟩ : ∃ z, (xa == 0) = z := ⟨_, rfl⟩
        have hvt : validT ⟨3, xn, xm, xa, acc⟩ = (n1 && acc.isEmpty && m3 && a0) := by
          rw [← hn1, ← hm3, ← ha0]
          rfl
        rw [hem] at hvt
        rw [hvt]
        clear hvt
        cases n1 <;> cases m3 <;> cases a0
        all_goals
          go_enter Tryz.func14, Tryz.ntmps14
          go_wp2_with fail
          repeat (refine (withinC_any _ _ _ _).mono ?_; rintro e w2 ⟨rfl, rfl⟩; go_wp2_with fail)
          go_ret
          exact ⟨by first | rfl | (rw [HVT.out]; rfl), by first | exact BA.out | exact (Below.refl _ _).alloc (Nat.le_refl _) _ | exact BA.out.trans (HB2.out.mono BA.out.size)⟩
      · have q3 : (xk == 3) = false := by rw [beq_eq_false_iff_ne]; exact k3
        by_cases k2 : xk = 2
        · subst k2
          obtain ⟨n1, hn1⟩ : ∃ z, inR xn 1 1000000 = z := ⟨_, rfl⟩
          obtain ⟨m0, hm0⟩ : ∃ z, (xm == 0) = z := ⟨_, rfl⟩
          obtain ⟨a0, ha0⟩ : ∃ z, (xa == 0) = z := ⟨_, rfl⟩
          have hvt : validT ⟨2, xn, xm, xa, acc⟩ = (n1 && acc.isEmpty && m0 && a0) := by
            rw [← hn1, ← hm0, ← ha0]
            rfl
          rw [hem] at hvt
          rw [hvt]
          clear hvt
          cases n1 <;> cases m0 <;> cases a0
          all_goals
            go_enter Tryz.func14, Tryz.ntmps14
            go_wp2_with fail
            repeat (refine (withinC_any _ _ _ _).mono ?_; rintro e w2 ⟨rfl, rfl⟩; go_wp2_with fail)
            go_ret
            exact ⟨by first | rfl | (rw [HVT.out]; rfl), by first | exact BA.out | exact (Below.refl _ _).alloc (Nat.le_refl _) _ | exact BA.out.trans (HB2.out.mono BA.out.size)⟩
        · have q2 : (xk == 2) = false := by rw [beq_eq_false_iff_ne]; exact k2
          by_cases k4 : xk = 4
          · subst k4
            obtain ⟨n1, hn1⟩ : ∃ z, inR xn 1 1000000 = z := ⟨_, rfl⟩
            obtain ⟨n4, hn4⟩ : ∃ z, inR xn 0 1000000000000000 = z := ⟨_, rfl⟩
            obtain ⟨m0, hm0⟩ : ∃ z, (xm == 0) = z := ⟨_, rfl⟩
            obtain ⟨a0, ha0⟩ : ∃ z, (xa == 0) = z := ⟨_, rfl⟩
            have hvt : validT ⟨4, xn, xm, xa, acc⟩ = (n4 && m0 && a0 && acc.isEmpty) := by
              rw [← hn4, ← hm0, ← ha0]
              rfl
            rw [hem] at hvt
            rw [hvt]
            clear hvt
            cases n1 <;> cases n4 <;> cases m0 <;> cases a0
            all_goals
              go_enter Tryz.func14, Tryz.ntmps14
              go_wp2_with fail
              repeat (refine (withinC_any _ _ _ _).mono ?_; rintro e w2 ⟨rfl, rfl⟩; go_wp2_with fail)
              go_ret
              exact ⟨by first | rfl | (rw [HVT.out]; rfl), by first | exact BA.out | exact (Below.refl _ _).alloc (Nat.le_refl _) _ | exact BA.out.trans (HB2.out.mono BA.out.size)⟩
          · have q4 : (xk == 4) = false := by rw [beq_eq_false_iff_ne]; exact k4
            by_cases k5 : xk = 5
            · subst k5
              obtain ⟨n1, hn1⟩ : ∃ z, inR xn 1 1000000 = z := ⟨_, rfl⟩
              obtain ⟨ac, hac⟩ : ∃ z, accOk acc = z := ⟨_, rfl⟩
              obtain ⟨n0, hn0⟩ : ∃ z, (xn == 0) = z := ⟨_, rfl⟩
              obtain ⟨m0, hm0⟩ : ∃ z, (xm == 0) = z := ⟨_, rfl⟩
              obtain ⟨a0, ha0⟩ : ∃ z, (xa == 0) = z := ⟨_, rfl⟩
              have hvt : validT ⟨5, xn, xm, xa, acc⟩ = (ac && n0 && m0 && a0) := by
                rw [← hac, ← hn0, ← hm0, ← ha0]
                rfl
              rw [hvt]
              clear hvt
              rw [hac] at AC1
              clear hac
              cases n1 <;> cases ac <;> cases n0 <;> cases m0 <;> cases a0
              all_goals
                go_enter Tryz.func14, Tryz.ntmps14
                go_wp2_with fail
                repeat (refine (withinC_any _ _ _ _).mono ?_; rintro e w2 ⟨rfl, rfl⟩; go_wp2_with fail)
                refine (AC1.out _ BA.out).mono ?_
                rintro e w2 ⟨rfl, hb2⟩
                have c1 : w2.cell? ⟨w.heap.size, 1, none⟩ = some (.int .i64 xn) := by rw [hb2.cell (p := ⟨w.heap.size, 1, none⟩) (by simp)]; simp
                have c2 : w2.cell? ⟨w.heap.size, 2, none⟩ = some (.int .i64 xm) := by rw [hb2.cell (p := ⟨w.heap.size, 2, none⟩) (by simp)]; simp
                have c3 : w2.cell? ⟨w.heap.size, 3, none⟩ = some (.int .i64 xa) := by rw [hb2.cell (p := ⟨w.heap.size, 3, none⟩) (by simp)]; simp
                have HB2 := Lib.hid hb2
                clear hb2
                go_wp2_with fail
                go_ret
                exact ⟨by first | rfl | (rw [HVT.out]; rfl), by first | exact BA.out | exact (Below.refl _ _).alloc (Nat.le_refl _) _ | exact BA.out.trans (HB2.out.mono BA.out.size)⟩
            · have q5 : (xk == 5) = false := by rw [beq_eq_false_iff_ne]; exact k5
              obtain ⟨n1, hn1⟩ : ∃ z, inR xn 1 1000000 = z := ⟨_, rfl⟩
              have hvt : validT ⟨xk, xn, xm, xa, acc⟩ = (false) := by
                unfold validT
                rw [if_neg k1, if_neg k2, if_neg k3, if_neg k4, if_neg k5]
              rw [hvt]
              clear hvt
              cases n1
              all_goals
                go_enter Tryz.func14, Tryz.ntmps14
                go_wp2_with fail
                repeat (refine (withinC_any _ _ _ _).mono ?_; rintro e w2 ⟨rfl, rfl⟩; go_wp2_with fail)
                go_ret
                exact ⟨by first | rfl | (rw [HVT.out]; rfl), by first | exact BA.out | exact (Below.refl _ _).alloc (Nat.le_refl _) _ | exact BA.out.trans (HB2.out.mono BA.out.size)⟩

end Go.Proofs.YtfiabonacpepnaaGreatDoor
