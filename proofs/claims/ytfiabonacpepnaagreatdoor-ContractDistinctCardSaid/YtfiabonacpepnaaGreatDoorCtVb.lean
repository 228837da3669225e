/- Valid of a term with any number of accounts. -/
import Derived.Test.YtfiabonacpepnaaGreatDoorCtPa
namespace Go.Proofs.YtfiabonacpepnaaGreatDoor
open Go Go.RowKit Go.Lib Go.Shelf Go.Maps

theorem pig : ∀ (n : Nat) (l : List Int), (∀ x ∈ l, 1 ≤ x ∧ x ≤ (n : Int)) → l.Nodup → l.length ≤ n := by
  intro n
  induction n with
  | zero =>
    intro l h _
    cases l with
    | nil => simp
    | cons x r => have := h x (by simp); omega
  | succ n ih =>
    intro l h hd
    by_cases hm : ((n + 1 : Nat) : Int) ∈ l
    · have h1 := ih (l.erase ((n + 1 : Nat) : Int)) (fun x hx => by
        obtain ⟨h2, h3⟩ := (List.Nodup.mem_erase_iff hd).1 hx
        have := h x h3
        omega) (hd.erase _)
      rw [List.length_erase_of_mem hm] at h1
      omega
    · have h1 := ih l (fun x hx => by
        have h2 := h x hx
        have : x ≠ ((n + 1 : Nat) : Int) := fun e => hm (e ▸ hx)
        omega) hd
      omega
theorem pig_accs {l : List Int} (h : ∀ x ∈ l, inR x 1 1000 = true) (hd : l.Nodup) : l.length ≤ 1000 :=
  pig 1000 l (fun x hx => by have := h x hx; unfold inR at this; simp at this; exact this) hd
set_option maxRecDepth 100000 in
set_option maxHeartbeats 8000000 in
theorem isAccounts_big (acc : List Int) (va : Value) (w : World) (hl : acc.length ≤ 9223372036854775807) (hv : IntsL w va acc) (hab : ∀ a ∈ acc, -9223372036854775808 ≤ a ∧ a ≤ 9223372036854775807) :
    Calls Tryz.prog 30 #[va] w fun e w' => e = .returned (.bool (accOk acc)) ∧ Below w.heap.size w w' := by
  obtain ⟨AC, cc, rfl⟩ := hv.slice
  have HV := Lib.hid hv
  have HAB := Lib.hid hab
  obtain ⟨m, hm⟩ : ∃ m, acc.length = m := ⟨_, rfl⟩
  rw [hm] at hl ⊢
  have HM := Lib.hid hm
  have hmm := @run_makeMap Tryz.prog
  have S0 := Lib.hid (show SeenAt (w.alloc (.map #[] 0)) w.heap.size [] from ⟨0, _, by simp, World.ownsMap_made _ _ _ _, fun a _ => rfl⟩)
  have B0 := Lib.hid (show Below w.heap.size w (w.alloc (.map #[] 0)) from (Below.refl _ _).alloc (Nat.le_refl _) _)
  obtain ⟨mb, hmb⟩ : ∃ z, w.heap.size = z := ⟨_, rfl⟩
  obtain ⟨W, hW⟩ : ∃ z, w.alloc (.map #[] 0) = z := ⟨_, rfl⟩
  rw [hmb, hW] at S0 B0
  have WN := Lib.hid (fun W => withinC_any (m : Int) 1 10 W)
  obtain ⟨wn, hwn⟩ : ∃ z, inR (m : Int) 1 10 = z := ⟨_, rfl⟩
  rw [hwn] at WN
  have HWN := Lib.hid hwn
  rw [hmb]
  have HMB := Lib.hid hmb
  clear hv hab hm hwn
  go_enter Tryz.func30, Tryz.ntmps30
  go_wp2_with fail
  clear hW hmb
  go_loopw [9] (fun iv wr => ∃ k : Nat, k ≤ m ∧ iv = .int .i64 k ∧ Hid (SeenAt wr mb (acc.take k) ∧ (∀ x ∈ acc.take k, inR x 1 1000 = true) ∧ (acc.take k).Nodup ∧ Below mb w wr)) (fun i _ => m - (intOf i).toNat)
  case atStart => exact ⟨0, by omega, rfl, Lib.hid ⟨S0.out, by simp, by simp, B0.out⟩⟩
  case round =>
    obtain ⟨k, hk, rfl, HR⟩ := hrel
    obtain ⟨hs, ha, hd, hb⟩ := HR.out
    by_cases hk2 : k < m
    · obtain ⟨a, hak⟩ : ∃ a, acc[k]? = some a := ⟨_, List.getElem?_eq_getElem (by rw [HM.out]; exact hk2)⟩
      have hts : acc.take (k + 1) = acc.take k ++ [a] := by rw [List.take_add_one, hak]; rfl
      obtain ⟨ab, ao, hA, hca⟩ : ∃ b o, AC = some ⟨b, o, none⟩ ∧ wr.cell? ⟨b, o + k, none⟩ = some (.int .i64 a) := by
        rcases HV.out with ⟨hnil, _⟩ | ⟨b, o, c, he, hlt, hc⟩
        · rw [hnil] at hak; simp at hak
        · simp only [Value.slice.injEq] at he
          exact ⟨b, o, he.1, (hb.cell (p := ⟨b, o + k, none⟩) (by rw [← HMB.out]; exact hlt)).trans (hc k a hak)⟩
      subst hA
      have hba := HAB.out a (List.mem_of_getElem? hak)
      have hsl := seen_look hs hba.1 hba.2
      obtain ⟨w2, hup, hs2, hg2⟩ := seen_put hs (by have := pig_accs ha hd; omega) hba.1 hba.2
      have W1 := Lib.hid (fun W => withinC_any a 1 1000 W)
      obtain ⟨r, hr⟩ : ∃ z, inR a 1 1000 = z := ⟨_, rfl⟩
      rw [hr] at W1
      obtain ⟨c, hc⟩ : ∃ z, (acc.take k).contains a = z := ⟨_, rfl⟩
      rw [hc] at hsl
      have hmem : a ∈ acc := List.mem_of_getElem? hak
      cases r
      · have hno : accOk acc = false := by
          unfold accOk
          have : acc.all (fun x => inR x 1 1000) = false := by rw [List.all_eq_false]; exact ⟨a, hmem, by simp [hr]⟩
          simp [this]
        have HNO := Lib.hid hno
        have HB := Lib.hid hb
        clear hs ha hd hb hak hts hba hs2 hg2 hr hc hmem hno hup hsl
        go_wp2_with fail
        refine (W1.out _).mono ?_
        rintro e w' ⟨rfl, rfl⟩
        go_wp2_with fail
        go_ret
        exact ⟨by rw [HNO.out]; rfl, HB.out⟩
      · cases c
        · have hb2 : Below mb w w2 := hb.grown hg2 (by have := hb.size; rw [HMB.out] at this; exact this) (fun j e => by cases e; exact Nat.le_refl _)
          have HN := Lib.hid (show SeenAt w2 mb (acc.take (k + 1)) ∧ (∀ x ∈ acc.take (k + 1), inR x 1 1000 = true) ∧ (acc.take (k + 1)).Nodup ∧ Below mb w w2 from by
            rw [hts]
            refine ⟨hs2, fun x hx => ?_, ?_, hb2⟩
            · rcases List.mem_append.1 hx with h | h
              · exact ha x h
              · rw [List.mem_singleton.1 h]; exact hr
            · rw [List.nodup_append]
              refine ⟨hd, by simp, fun x hx y hy => ?_⟩
              rw [List.mem_singleton.1 hy]
              intro e
              subst e
              have : (acc.take k).contains x = true := by simpa using hx
              rw [this] at hc
              cases hc)
          clear hs ha hd hb hak hts hba hs2 hg2 hr hc hmem hb2
          go_wp2_with fail
          refine (W1.out _).mono ?_
          rintro e w' ⟨rfl, rfl⟩
          go_wp2_with fail
          go_roundw
          case rel => exact ⟨k + 1, by omega, by go_num, HN⟩
          case measure => simp [intOf]; omega
        · have hno : accOk acc = false := by
            unfold accOk
            have : ¬ acc.Nodup := by
              intro h
              rw [← List.take_append_drop (k + 1) acc, hts, List.nodup_append, List.nodup_append] at h
              exact h.1.2.2 a (by simpa using hc) a (by simp) rfl
            simp [this]
          have HNO := Lib.hid hno
          have HB := Lib.hid hb
          clear hs ha hd hb hak hts hba hs2 hg2 hr hc hmem hno hup
          go_wp2_with fail
          refine (W1.out _).mono ?_
          rintro e w' ⟨rfl, rfl⟩
          go_wp2_with fail
          go_ret
          exact ⟨by rw [HNO.out]; rfl, HB.out⟩
    · have hkm : k = m := by omega
      have hyes : accOk acc = wn := by
        rw [hkm, ← HM.out, List.take_length] at ha hd
        unfold accOk
        rw [HM.out, HWN.out]
        have : acc.all (fun x => inR x 1 1000) = true := by rw [List.all_eq_true]; exact ha
        simp [this, hd]
      have HY := Lib.hid hyes
      have HB := Lib.hid hb
      clear hs ha hd hb hyes hkm
      go_wp2_with fail
      refine (WN.out _).mono ?_
      rintro e w' ⟨rfl, rfl⟩
      go_wp2_with fail
      go_ret
      exact ⟨by rw [HY.out]; rfl, HB.out⟩
set_option maxRecDepth 100000 in
set_option maxHeartbeats 8000000 in
theorem validC_big (t : TermV) (va : Value) (w : World) (he : t.acc ≠ []) (hl : t.acc.length ≤ 9223372036854775807) (hv : IntsL w va t.acc) (hab : ∀ a ∈ t.acc, -9223372036854775808 ≤ a ∧ a ≤ 9223372036854775807) :
    Calls Tryz.prog 14 #[.agg (termC t va)] w fun e w' => e = .returned (.bool (validT t)) ∧ Below w.heap.size w w' := by
  obtain ⟨xk, xn, xm, xa, acc⟩ := t
  dsimp only at he hl hv hab
  unfold termC
  dsimp only
  have AC1 : Hid (∀ W, Below w.heap.size w W → Calls Tryz.prog 30 #[va] W fun e w' => e = .returned (.bool (accOk acc)) ∧ Below W.heap.size W w') := Lib.hid fun W h => isAccounts_big acc va W hl (hv.below h) hab
  have HV := Lib.hid hv
  obtain ⟨AC, cc, rfl⟩ := hv.slice
  have BA := Lib.hid (show Below w.heap.size w (w.alloc (.cells #[.int .i64 xk, .int .i64 xn, .int .i64 xm, .int .i64 xa, .slice AC acc.length cc] 28)) from (Below.refl _ _).alloc (Nat.le_refl _) _)
  clear hv hab
  have hem : acc.isEmpty = false := by simpa using he
  obtain ⟨m, hm⟩ : ∃ m, acc.length = m := ⟨_, rfl⟩
  have hm0 : m ≠ 0 := by rw [← hm]; simpa using he
  have e0 : (m == 0) = false := by simpa using hm0
  have e1 : ((m : Int) == 0) = false := by simpa using hm0
  rw [hm] at hl AC1 BA ⊢
  clear he hm hm0
  by_cases k1 : xk = 1
  · subst k1
    obtain ⟨n1, hn1⟩ : ∃ z, inR xn 1 1000000 = z := ⟨_, rfl⟩
    obtain ⟨m1, hm1⟩ : ∃ z, inR xm 1 1000000 = z := ⟨_, rfl⟩
    obtain ⟨a1, ha1⟩ : ∃ z, inR xa 0 1000000000000000 = z := ⟨_, rfl⟩
    have hvt : validT ⟨1, xn, xm, xa, acc⟩ = (n1 && acc.isEmpty && m1 && a1) := by
      rw [← hn1, ← hm1, ← ha1]
      rfl
    rw [hem] at hvt
    rw [hvt]
    clear hvt
    cases n1 <;> cases m1 <;> cases a1
    all_goals
      go_enter Tryz.func14, Tryz.ntmps14
      go_wp2_with fail
      repeat (refine (withinC_any _ _ _ _).mono ?_; rintro e w2 ⟨rfl, rfl⟩; go_wp2_with fail)
      go_ret
      exact ⟨by first | rfl | (rw [HVT.out]; rfl), by first | exact BA.out | exact (Below.refl _ _).alloc (Nat.le_refl _) _ | exact BA.out.trans (HB2.out.mono BA.out.size)⟩
  · have q1 : (xk == 1) = false := by rw [beq_eq_false_iff_ne]; exact k1
    by_cases k3 : xk = 3
    · subst k3
      obtain ⟨n1, hn1⟩ : ∃ z, inR xn 1 1000000 = z := ⟨_, rfl⟩
      obtain ⟨m3, hm3⟩ : ∃ z, inR xm 1 24 = z := ⟨_, rfl⟩
      obtain ⟨a0, ha0⟩ : ∃ z, (xa == 0) = z := ⟨_, rfl⟩
      have hvt : validT ⟨3, xn, xm, xa, acc⟩ = (n1 && acc.isEmpty && m3 && a0) := by
        rw [← hn1, ← hm3, ← ha0]
        rfl
      rw [hem] at hvt
      rw [hvt]
      clear hvt
      cases n1 <;> cases m3 <;> cases a0
      all_goals
        go_enter Tryz.func14, Tryz.ntmps14
        go_wp2_with fail
        repeat (refine (withinC_any _ _ _ _).mono ?_; rintro e w2 ⟨rfl, rfl⟩; go_wp2_with fail)
        go_ret
        exact ⟨by first | rfl | (rw [HVT.out]; rfl), by first | exact BA.out | exact (Below.refl _ _).alloc (Nat.le_refl _) _ | exact BA.out.trans (HB2.out.mono BA.out.size)⟩
    · have q3 : (xk == 3) = false := by rw [beq_eq_false_iff_ne]; exact k3
      by_cases k2 : xk = 2
      · subst k2
        obtain ⟨n1, hn1⟩ : ∃ z, inR xn 1 1000000 = z := ⟨_, rfl⟩
        obtain ⟨m0, hm0⟩ : ∃ z, (xm == 0) = z := ⟨_, rfl⟩
        obtain ⟨a0, ha0⟩ : ∃ z, (xa == 0) = z := ⟨_, rfl⟩
        have hvt : validT ⟨2, xn, xm, xa, acc⟩ = (n1 && acc.isEmpty && m0 && a0) := by
          rw [← hn1, ← hm0, ← ha0]
          rfl
        rw [hem] at hvt
        rw [hvt]
        clear hvt
        cases n1 <;> cases m0 <;> cases a0
        all_goals
          go_enter Tryz.func14, Tryz.ntmps14
          go_wp2_with fail
          repeat (refine (withinC_any _ _ _ _).mono ?_; rintro e w2 ⟨rfl, rfl⟩; go_wp2_with fail)
          go_ret
          exact ⟨by first | rfl | (rw [HVT.out]; rfl), by first | exact BA.out | exact (Below.refl _ _).alloc (Nat.le_refl _) _ | exact BA.out.trans (HB2.out.mono BA.out.size)⟩
      · have q2 : (xk == 2) = false := by rw [beq_eq_false_iff_ne]; exact k2
        by_cases k4 : xk = 4
        · subst k4
          obtain ⟨n1, hn1⟩ : ∃ z, inR xn 1 1000000 = z := ⟨_, rfl⟩
          obtain ⟨n4, hn4⟩ : ∃ z, inR xn 0 1000000000000000 = z := ⟨_, rfl⟩
          obtain ⟨m0, hm0⟩ : ∃ z, (xm == 0) = z := ⟨_, rfl⟩
          obtain ⟨a0, ha0⟩ : ∃ z, (xa == 0) = z := ⟨_, rfl⟩
          have hvt : validT ⟨4, xn, xm, xa, acc⟩ = (n4 && m0 && a0 && acc.isEmpty) := by
            rw [← hn4, ← hm0, ← ha0]
            rfl
          rw [hem] at hvt
          rw [hvt]
          clear hvt
          cases n1 <;> cases n4 <;> cases m0 <;> cases a0
          all_goals
            go_enter Tryz.func14, Tryz.ntmps14
            go_wp2_with fail
            repeat (refine (withinC_any _ _ _ _).mono ?_; rintro e w2 ⟨rfl, rfl⟩; go_wp2_with fail)
            go_ret
            exact ⟨by first | rfl | (rw [HVT.out]; rfl), by first | exact BA.out | exact (Below.refl _ _).alloc (Nat.le_refl _) _ | exact BA.out.trans (HB2.out.mono BA.out.size)⟩
        · have q4 : (xk == 4) = false := by rw [beq_eq_false_iff_ne]; exact k4
          by_cases k5 : xk = 5
          · subst k5
            obtain ⟨n1, hn1⟩ : ∃ z, inR xn 1 1000000 = z := ⟨_, rfl⟩
            obtain ⟨ac, hac⟩ : ∃ z, accOk acc = z := ⟨_, rfl⟩
            obtain ⟨n0, hn0⟩ : ∃ z, (xn == 0) = z := ⟨_, rfl⟩
            obtain ⟨m0, hm0⟩ : ∃ z, (xm == 0) = z := ⟨_, rfl⟩
            obtain ⟨a0, ha0⟩ : ∃ z, (xa == 0) = z := ⟨_, rfl⟩
            have hvt : validT ⟨5, xn, xm, xa, acc⟩ = (ac && n0 && m0 && a0) := by
              rw [← hac, ← hn0, ← hm0, ← ha0]
              rfl
            rw [hvt]
            clear hvt
            rw [hac] at AC1
            clear hac
            cases n1 <;> cases ac <;> cases n0 <;> cases m0 <;> cases a0
            all_goals
              go_enter Tryz.func14, Tryz.ntmps14
              go_wp2_with fail
              repeat (refine (withinC_any _ _ _ _).mono ?_; rintro e w2 ⟨rfl, rfl⟩; go_wp2_with fail)
              refine (AC1.out _ BA.out).mono ?_
              rintro e w2 ⟨rfl, hb2⟩
              have c1 : w2.cell? ⟨w.heap.size, 1, none⟩ = some (.int .i64 xn) := by rw [hb2.cell (p := ⟨w.heap.size, 1, none⟩) (by simp)]; simp
              have c2 : w2.cell? ⟨w.heap.size, 2, none⟩ = some (.int .i64 xm) := by rw [hb2.cell (p := ⟨w.heap.size, 2, none⟩) (by simp)]; simp
              have c3 : w2.cell? ⟨w.heap.size, 3, none⟩ = some (.int .i64 xa) := by rw [hb2.cell (p := ⟨w.heap.size, 3, none⟩) (by simp)]; simp
              have HB2 := Lib.hid hb2
              clear hb2
              go_wp2_with fail
              go_ret
              exact ⟨by first | rfl | (rw [HVT.out]; rfl), by first | exact BA.out | exact (Below.refl _ _).alloc (Nat.le_refl _) _ | exact BA.out.trans (HB2.out.mono BA.out.size)⟩
          · have q5 : (xk == 5) = false := by rw [beq_eq_false_iff_ne]; exact k5
            obtain ⟨n1, hn1⟩ : ∃ z, inR xn 1 1000000 = z := ⟨_, rfl⟩
            have hvt : validT ⟨xk, xn, xm, xa, acc⟩ = (false) := by
              unfold validT
              rw [if_neg k1, if_neg k2, if_neg k3, if_neg k4, if_neg k5]
            rw [hvt]
            clear hvt
            cases n1
            all_goals
              go_enter Tryz.func14, Tryz.ntmps14
              go_wp2_with fail
              repeat (refine (withinC_any _ _ _ _).mono ?_; rintro e w2 ⟨rfl, rfl⟩; go_wp2_with fail)
              go_ret
              exact ⟨by first | rfl | (rw [HVT.out]; rfl), by first | exact BA.out | exact (Below.refl _ _).alloc (Nat.le_refl _) _ | exact BA.out.trans (HB2.out.mono BA.out.size)⟩


theorem validC_all (t : TermV) (va : Value) (w : World) (hl : t.acc.length ≤ 9223372036854775807) (hv : IntsL w va t.acc) (hab : ∀ a ∈ t.acc, -9223372036854775808 ≤ a ∧ a ≤ 9223372036854775807) :
    Calls Tryz.prog 14 #[.agg (termC t va)] w fun e w' => e = .returned (.bool (validT t)) ∧ Below w.heap.size w w' := by
  by_cases he : t.acc = []
  · exact validC_any t va w (by rw [he]; simp) hv hab
  · exact validC_big t va w he hl hv hab
end Go.Proofs.YtfiabonacpepnaaGreatDoor
