/- DigestExtensionAccepted. -/
import Derived.Test.YtgmdjbhclihflaaDoorDgPc
import Derived.Test.YtgmdjbhclihflaaDoorDgSp
namespace Go.Proofs.YtgmdjbhclihflaaDoor
open Go Go.RowKit Go.Lib Go.Shelf
attribute [local go_sem] Oper.semAt_some

set_option maxRecDepth 100000 in
set_option maxHeartbeats 4000000 in
theorem eacc_yes (v : Value) (xs : List (List UInt8)) (i : Int) (w : World) (hv : SlS w v xs) (hn : xs.length ≤ 9223372036854775807) (hK : KAt w) :
    Calls Tryd.prog 5 #[v, .int .i64 i] w fun e w' => e = .returned (.bool true) ∧ Below w.heap.size w w' := by
  have HK := Lib.hid hK
  have SN := Lib.hid (sane_any w hK)
  have FW := Lib.hid (fun W (hb : Below w.heap.size w W) => few_any v xs 25 W (hv.below hb) hn (by omega))
  clear hK hv
  obtain ⟨l, hl⟩ : ∃ l, (xs.take 25).map (·.take 60) = l := ⟨_, rfl⟩
  rw [hl] at FW
  have hll : l.length ≤ 25 := by rw [← hl, List.length_map, List.length_take]; omega
  have HLX : Hid (∀ x ∈ l, x.length ≤ 60) := Lib.hid (by
    rw [← hl]; intro x hx; obtain ⟨y, _, rfl⟩ := List.mem_map.1 hx; rw [List.length_take]; omega)
  clear hl
  go_enter Tryd.func5, Tryd.ntmps5
  go_wp2_with fail
  refine SN.out.mono ?_
  rintro e W1 ⟨rfl, hb1⟩
  have H1 := Lib.hid hb1
  have F1 := Lib.hid (FW.out W1 hb1)
  clear hb1 FW
  go_wp2_with fail
  refine F1.out.mono ?_
  rintro e W2 ⟨v2, rfl, ho2, hb2⟩
  obtain ⟨A2, c2, hv2, hc2⟩ := ho2.slice
  obtain ⟨n, hnl⟩ : ∃ n, l.length = n := ⟨_, rfl⟩
  rw [hnl] at hv2 hc2 hll
  subst hv2
  have H2 := Lib.hid (And.intro ho2.sls (And.intro (H1.out.trans (hb2.mono H1.out.size)) (And.intro hnl hc2)))
  clear ho2 hb2 hnl
  obtain ⟨B, hB⟩ : ∃ B, W2.heap.size = B := ⟨_, rfl⟩
  have HB := Lib.hid hB
  have HW : Hid (∀ W, Below B W2 W → SlS W (.slice A2 n c2) l ∧ KAt W ∧ Below w.heap.size w W ∧ B ≤ W.heap.size) := Lib.hid (fun W hb => by
    rw [← HB.out] at hb
    exact ⟨H2.out.1.below hb, HK.out.below (H2.out.2.1.trans (hb.mono H2.out.2.1.size)), H2.out.2.1.trans (hb.mono H2.out.2.1.size), by rw [← HB.out]; exact hb.size⟩)
  have hB2 : Below B W2 W2 := by rw [← hB]; exact Below.refl _ _
  clear hB
  obtain ⟨rt, hrt⟩ : ∃ z, rootB l = z := ⟨_, rfl⟩
  obtain ⟨R, hR⟩ : ∃ R, binL n n = R := ⟨_, rfl⟩
  have HRT := Lib.hid hrt
  have RT : Hid (∀ W, Below B W2 W → ∀ k, k ≤ n → Calls Tryd.prog 18 #[.slice A2 k c2] W fun e w' => e = .returned (.string ⟨(rootB (l.take k)).toArray⟩) ∧ Below B W2 w' ∧ Below W.heap.size W w') := Lib.hid (fun W hb k hk => by
    have hh := HW.out W hb
    refine (root_any _ (l.take k) W (hh.1.take k hk) (by have := H2.out.2.2.1; rw [List.length_take]; omega) (fun x hx => by have := HLX.out x (List.mem_of_mem_take hx); omega) hh.2.1).mono ?_
    rintro e w' ⟨rfl, h4⟩
    exact ⟨rfl, hb.trans (h4.mono hh.2.2.2), h4⟩)
  have RT0 : Hid (Calls Tryd.prog 18 #[.slice A2 n c2] W2 fun e w' => e = .returned (.string ⟨rt.toArray⟩) ∧ Below B W2 w') := Lib.hid (by
    have h := RT.out W2 hB2 n (Nat.le_refl _)
    rw [List.take_of_length_le (by rw [H2.out.2.2.1]; omega), hrt] at h
    exact h.mono (fun e w' hh => ⟨hh.1, hh.2.1⟩))
  have EI : Hid (∀ W, Below B W2 W → ∀ j : Nat, j ≤ n → Calls Tryd.prog 15 #[.slice A2 n c2, .int .i64 j] W fun e w' => ∃ A' n' c', e = .returned (.tuple #[.slice A' n' c', .int .i64 0]) ∧ (n' ≤ c' ∧ SlS w' (.slice A' n' c') (extB l j) ∧ (extB l j).length = n' ∧ n' ≤ 2 * R) ∧ Below B W2 w') := Lib.hid (fun W hb j hj => by
    have hh := HW.out W hb
    refine (ext_any A2 n c2 j l W hh.1 H2.out.2.2.1 H2.out.2.2.2 (by omega) hj (fun x hx => by have := HLX.out x hx; omega) hh.2.1).mono ?_
    rintro e w' ⟨A', n', c', rfl, h1, h2, h3, h4⟩
    refine ⟨A', n', c', rfl, ⟨h1, h2, h3, ?_⟩, hb.trans (h4.mono hh.2.2.2)⟩
    have := extB_two l j (by rw [H2.out.2.2.1]; omega) (by rw [H2.out.2.2.1]; omega)
    rw [H2.out.2.2.1, hR] at this
    omega)
  have BN := Lib.hid (fun W => binary_any n W (by omega))
  rw [hR] at BN
  have hRn : R ≤ 25 := by rw [← hR]; have := binL_le n n; omega
  have VI : Hid (∀ W, Below B W2 W → ∀ (j : Nat) (A' : Option Addr) (n' c' : Nat), j ≤ n → n' ≤ c' → n' ≤ 2 * R → SlS W (.slice A' n' c') (extB l j) → (extB l j).length = n' → Calls Tryd.prog 22 #[.string ⟨(rootB (l.take j)).toArray⟩, .int .i64 j, .string ⟨rt.toArray⟩, .int .i64 n, .slice A' n' c'] W fun e w' => e = .returned (.bool true) ∧ Below B W2 w') := Lib.hid (fun W hb j A' n' c' hj h1 h2 h3 h4 => by
    have hh := HW.out W hb
    have h := vext_made l j A' n' c' W (by rw [H2.out.2.2.1]; omega) (by rw [H2.out.2.2.1]; omega) h3 h4 h1 (by omega) hh.2.1
    rw [H2.out.2.2.1, HRT.out] at h
    refine h.mono ?_
    rintro e w' ⟨rfl, h4⟩
    exact ⟨rfl, hb.trans (h4.mono hh.2.2.2)⟩)
  clear hR hrt hB2
  go_wp2_with fail
  refine RT0.out.mono ?_
  rintro e W3 ⟨rfl, hb3⟩
  have HB3 := Lib.hid hb3
  clear hb3
  go_wp2_with fail
  go_loopw [7, 8, 9] (fun v7 v8 v9 wr => ∃ k : Nat, v7 = .int .i64 k ∧ k ≤ n + 1 ∧ Hid (Below B W2 wr)) (fun v7 _ _ _ => n + 1 - (RowKit.intOf v7).toNat)
  case atStart => exact ⟨0, rfl, by omega, HB3⟩
  case round =>
    obtain ⟨k, rfl, hk, HS⟩ := hrel
    by_cases hk2 : k ≤ n
    · have hk2d : decide (k ≤ n) = true := by simp; omega
      have hkc : k ≤ c2 := by omega
      obtain ⟨rk, hrk⟩ : ∃ z, rootB (l.take k) = z := ⟨_, rfl⟩
      have hRT := RT.out
      have RK : Hid (∀ W, Below B W2 W → Calls Tryd.prog 18 #[.slice A2 k c2] W fun e w' => e = .returned (.string ⟨rk.toArray⟩) ∧ Below B W2 w' ∧ Below W.heap.size W w') := Lib.hid (fun W hb => by
        rw [← hrk]; exact hRT W hb k hk2)
      clear hRT
      have HRK := Lib.hid hrk
      clear hrk
      go_wp2_with fail
      refine (EI.out wr HS.out k hk2).mono ?_
      rintro e Y1 ⟨A', n', c', rfl, hp, hy1⟩
      have HY1 := Lib.hid hy1
      have HP := Lib.hid hp
      have hsh : decide (2 * (R : Int) < (n' : Int)) = false := by have := hp.2.2.2; simp; omega
      have VK : Hid (∀ W, Below B W2 W → Below Y1.heap.size Y1 W → Calls Tryd.prog 22 #[.string ⟨rk.toArray⟩, .int .i64 k, .string ⟨rt.toArray⟩, .int .i64 n, .slice A' n' c'] W fun e w' => e = .returned (.bool true) ∧ Below B W2 w') := Lib.hid (fun W hb hb2 => by
        rw [← HRK.out]
        exact VI.out W hb k A' n' c' hk2 HP.out.1 HP.out.2.2.2 (HP.out.2.1.below hb2) HP.out.2.2.1)
      clear hp hy1
      go_wp2_with fail
      refine (BN.out Y1).mono ?_
      rintro e w' ⟨rfl, rfl⟩
      go_wp2_with fail
      refine (RK.out Y1 HY1.out).mono ?_
      rintro e Y2 ⟨rfl, hy2⟩
      have HY2 := Lib.hid hy2
      clear hy2
      go_wp2_with fail
      refine (VK.out Y2 HY2.out.1 HY2.out.2).mono ?_
      rintro e Y3 ⟨rfl, hy3⟩
      have HY3 := Lib.hid hy3
      clear hy3
      go_wp2_with fail
      go_roundw
      case rel => exact ⟨k + 1, by go_num, by omega, HY3⟩
      case measure => simp [RowKit.intOf]; omega
    · have hk2d : decide (k ≤ n) = false := by simp; omega
      by_cases hin : 0 ≤ i ∧ i ≤ n
      · obtain ⟨j, rfl⟩ : ∃ j : Nat, i = (j : Int) := ⟨i.toNat, by omega⟩
        have hjn : j ≤ n := by omega
        have hj1d : decide (j ≤ n) = true := by simp; omega
        go_wp2_with fail
        refine (EI.out wr HS.out j hjn).mono ?_
        rintro e Y1 ⟨A', n', c', rfl, hp, hy1⟩
        have HY1 := Lib.hid hy1
        clear hp hy1
        go_wp2_with fail
        go_ret
        exact ⟨rfl, (HW.out _ HY1.out).2.2.1⟩
      · go_wp2_with fail
        refine (ext_out A2 n c2 i wr (by omega)).mono ?_
        rintro e w' ⟨rfl, rfl⟩
        by_cases hi0 : 0 ≤ i
        · have hi0d : decide (0 ≤ i) = true := decide_eq_true hi0
          have hind : decide (i ≤ (n : Int)) = false := decide_eq_false (by omega)
          go_wp2_with fail
          refine (vext_out rt rt i n (.slice none 0 0) wr (by omega)).mono ?_
          rintro e w' ⟨rfl, rfl⟩
          go_wp2_with fail
          go_ret
          exact ⟨rfl, (HW.out _ HS.out).2.2.1⟩
        · have hi0d : decide (0 ≤ i) = false := decide_eq_false hi0
          go_wp2_with fail
          refine (vext_out rt rt i n (.slice none 0 0) wr (by omega)).mono ?_
          rintro e w' ⟨rfl, rfl⟩
          go_wp2_with fail
          go_ret
          exact ⟨rfl, (HW.out _ HS.out).2.2.1⟩
end Go.Proofs.YtgmdjbhclihflaaDoor
