/- Make, kind by kind (printed by gen_fle.py). -/
import Derived.Test.YtgjajhopjcdflaaGreatFlE
namespace Go.Proofs.YtgjajhopjcdflaaGreat
open Go Go.RowKit Go.Lib Go.Shelf Go.Maps
set_option maxRecDepth 100000 in
set_option maxHeartbeats 8000000 in
theorem make_k3r3 (x : Nat → Int) (w : World) (hx : ∀ j, -9223372036854775808 ≤ x j ∧ x j ≤ 9223372036854775807) (hk : pickN (x 0) 10 = 3) (hr : pickN (x 4) 1000 % 4 = 3) :
    Calls Tryz.prog 27 #[six x] w fun e w' => e = .returned (.agg (makeX x).cells) ∧ Below w.heap.size w w' := by
  have P1 := Lib.hid (fun W => pick_any (x 1) 4 W (hx 1).1 (hx 1).2 (by omega) (by omega))
  have P2 := Lib.hid (fun W => pick_any (x 2) 3 W (hx 2).1 (hx 2).2 (by omega) (by omega))
  have P3 := Lib.hid (fun W => pick_any (x 3) 4 W (hx 3).1 (hx 3).2 (by omega) (by omega))
  have P4 := Lib.hid (fun W => pick_any (x 4) 1000 W (hx 4).1 (hx 4).2 (by omega) (by omega))
  have P5 := Lib.hid (fun W => pick_any (x 5) 4 W (hx 5).1 (hx 5).2 (by omega) (by omega))
  have P0 := Lib.hid (fun W => pick_any (x 0) 10 W (hx 0).1 (hx 0).2 (by omega) (by omega))
  have b1 := pickN_bd (x 1) 4 (by omega)
  have b2 := pickN_bd (x 2) 3 (by omega)
  have b3 := pickN_bd (x 3) 4 (by omega)
  have b4 := pickN_bd (x 4) 1000 (by omega)
  have b5 := pickN_bd (x 5) 4 (by omega)
  obtain ⟨a, ha⟩ : ∃ z : Nat, pickN (x 1) 4 = (z : Int) := ⟨(pickN (x 1) 4).toNat, by omega⟩
  obtain ⟨b, hb⟩ : ∃ z : Nat, pickN (x 2) 3 = (z : Int) := ⟨(pickN (x 2) 3).toNat, by omega⟩
  obtain ⟨v, hv⟩ : ∃ z : Nat, pickN (x 3) 4 = (z : Int) := ⟨(pickN (x 3) 4).toNat, by omega⟩
  obtain ⟨n, hn⟩ : ∃ z : Nat, pickN (x 4) 1000 = (z : Int) := ⟨(pickN (x 4) 1000).toNat, by omega⟩
  obtain ⟨p, hp⟩ : ∃ z : Nat, pickN (x 5) 4 = (z : Int) := ⟨(pickN (x 5) 4).toNat, by omega⟩
  rw [hn] at hr
  have hri : (n : Int) % 4 = 3 := hr
  have HRR : Hid (n % 4 = 3) := Lib.hid (by omega)
  clear hr
  have HM : Hid (makeX x = makeF 4 (1 + a) (1 + b) (1 + v) n p) := Lib.hid (by unfold makeX; rw [hk, ha, hb, hv, hn, hp]; rfl)
  rw [hk] at P0
  rw [ha] at P1 b1
  rw [hb] at P2 b2
  rw [hv] at P3 b3
  rw [hn] at P4 b4
  rw [hp] at P5 b5
  obtain ⟨x0, e0⟩ : ∃ z, x 0 = z := ⟨_, rfl⟩
  obtain ⟨x1, e1⟩ : ∃ z, x 1 = z := ⟨_, rfl⟩
  obtain ⟨x2, e2⟩ : ∃ z, x 2 = z := ⟨_, rfl⟩
  obtain ⟨x3, e3⟩ : ∃ z, x 3 = z := ⟨_, rfl⟩
  obtain ⟨x4, e4⟩ : ∃ z, x 4 = z := ⟨_, rfl⟩
  obtain ⟨x5, e5⟩ : ∃ z, x 5 = z := ⟨_, rfl⟩
  unfold six
  rw [e0] at P0 ⊢
  rw [e1] at P1 ⊢
  rw [e2] at P2 ⊢
  rw [e3] at P3 ⊢
  rw [e4] at P4 ⊢
  rw [e5] at P5 ⊢
  clear hx hk ha hb hv hn hp e0 e1 e2 e3 e4 e5
  have ha4 : a < 4 := by omega
  have hb3 : b < 3 := by omega
  have hv4 : v < 4 := by omega
  have hn1 : n < 1000 := by omega
  have hp4 : p < 4 := by omega
  clear b1 b2 b3 b4 b5
  go_enter Tryz.func27, Tryz.ntmps27
  go_wp2_with fail
  refine (P1.out _).mono ?_
  rintro e w1 ⟨rfl, rfl⟩
  go_wp2_with fail
  refine (P2.out _).mono ?_
  rintro e w1 ⟨rfl, rfl⟩
  go_wp2_with fail
  refine (P3.out _).mono ?_
  rintro e w1 ⟨rfl, rfl⟩
  go_wp2_with fail
  refine (P4.out _).mono ?_
  rintro e w1 ⟨rfl, rfl⟩
  go_wp2_with fail
  refine (P5.out _).mono ?_
  rintro e w1 ⟨rfl, rfl⟩
  go_wp2_with fail
  refine (P0.out _).mono ?_
  rintro e w1 ⟨rfl, rfl⟩
  go_wp2_with fail
  refine make_end2 rfl rfl ?_
  rw [HM.out]
  simp [makeF, mkF, FactV.cells, HRR.out]
set_option maxRecDepth 100000 in
set_option maxHeartbeats 8000000 in
theorem make_k4 (x : Nat → Int) (w : World) (hx : ∀ j, -9223372036854775808 ≤ x j ∧ x j ≤ 9223372036854775807) (hk : pickN (x 0) 10 = 4) :
    Calls Tryz.prog 27 #[six x] w fun e w' => e = .returned (.agg (makeX x).cells) ∧ Below w.heap.size w w' := by
  have P1 := Lib.hid (fun W => pick_any (x 1) 4 W (hx 1).1 (hx 1).2 (by omega) (by omega))
  have P2 := Lib.hid (fun W => pick_any (x 2) 3 W (hx 2).1 (hx 2).2 (by omega) (by omega))
  have P3 := Lib.hid (fun W => pick_any (x 3) 4 W (hx 3).1 (hx 3).2 (by omega) (by omega))
  have P4 := Lib.hid (fun W => pick_any (x 4) 1000 W (hx 4).1 (hx 4).2 (by omega) (by omega))
  have P5 := Lib.hid (fun W => pick_any (x 5) 4 W (hx 5).1 (hx 5).2 (by omega) (by omega))
  have P0 := Lib.hid (fun W => pick_any (x 0) 10 W (hx 0).1 (hx 0).2 (by omega) (by omega))
  have b1 := pickN_bd (x 1) 4 (by omega)
  have b2 := pickN_bd (x 2) 3 (by omega)
  have b3 := pickN_bd (x 3) 4 (by omega)
  have b4 := pickN_bd (x 4) 1000 (by omega)
  have b5 := pickN_bd (x 5) 4 (by omega)
  obtain ⟨a, ha⟩ : ∃ z : Nat, pickN (x 1) 4 = (z : Int) := ⟨(pickN (x 1) 4).toNat, by omega⟩
  obtain ⟨b, hb⟩ : ∃ z : Nat, pickN (x 2) 3 = (z : Int) := ⟨(pickN (x 2) 3).toNat, by omega⟩
  obtain ⟨v, hv⟩ : ∃ z : Nat, pickN (x 3) 4 = (z : Int) := ⟨(pickN (x 3) 4).toNat, by omega⟩
  obtain ⟨n, hn⟩ : ∃ z : Nat, pickN (x 4) 1000 = (z : Int) := ⟨(pickN (x 4) 1000).toNat, by omega⟩
  obtain ⟨p, hp⟩ : ∃ z : Nat, pickN (x 5) 4 = (z : Int) := ⟨(pickN (x 5) 4).toNat, by omega⟩
  have HM : Hid (makeX x = makeF 5 (1 + a) (1 + b) (1 + v) n p) := Lib.hid (by unfold makeX; rw [hk, ha, hb, hv, hn, hp]; rfl)
  rw [hk] at P0
  rw [ha] at P1 b1
  rw [hb] at P2 b2
  rw [hv] at P3 b3
  rw [hn] at P4 b4
  rw [hp] at P5 b5
  obtain ⟨x0, e0⟩ : ∃ z, x 0 = z := ⟨_, rfl⟩
  obtain ⟨x1, e1⟩ : ∃ z, x 1 = z := ⟨_, rfl⟩
  obtain ⟨x2, e2⟩ : ∃ z, x 2 = z := ⟨_, rfl⟩
  obtain ⟨x3, e3⟩ : ∃ z, x 3 = z := ⟨_, rfl⟩
  obtain ⟨x4, e4⟩ : ∃ z, x 4 = z := ⟨_, rfl⟩
  obtain ⟨x5, e5⟩ : ∃ z, x 5 = z := ⟨_, rfl⟩
  unfold six
  rw [e0] at P0 ⊢
  rw [e1] at P1 ⊢
  rw [e2] at P2 ⊢
  rw [e3] at P3 ⊢
  rw [e4] at P4 ⊢
  rw [e5] at P5 ⊢
  clear hx hk ha hb hv hn hp e0 e1 e2 e3 e4 e5
  have ha4 : a < 4 := by omega
  have hb3 : b < 3 := by omega
  have hv4 : v < 4 := by omega
  have hn1 : n < 1000 := by omega
  have hp4 : p < 4 := by omega
  clear b1 b2 b3 b4 b5
  go_enter Tryz.func27, Tryz.ntmps27
  go_wp2_with fail
  refine (P1.out _).mono ?_
  rintro e w1 ⟨rfl, rfl⟩
  go_wp2_with fail
  refine (P2.out _).mono ?_
  rintro e w1 ⟨rfl, rfl⟩
  go_wp2_with fail
  refine (P3.out _).mono ?_
  rintro e w1 ⟨rfl, rfl⟩
  go_wp2_with fail
  refine (P4.out _).mono ?_
  rintro e w1 ⟨rfl, rfl⟩
  go_wp2_with fail
  refine (P5.out _).mono ?_
  rintro e w1 ⟨rfl, rfl⟩
  go_wp2_with fail
  refine (P0.out _).mono ?_
  rintro e w1 ⟨rfl, rfl⟩
  go_wp2_with fail
  refine make_end rfl rfl ?_
  rw [HM.out]
  simp [makeF, mkF, FactV.cells]
set_option maxRecDepth 100000 in
set_option maxHeartbeats 8000000 in
theorem make_k5 (x : Nat → Int) (w : World) (hx : ∀ j, -9223372036854775808 ≤ x j ∧ x j ≤ 9223372036854775807) (hk : pickN (x 0) 10 = 5) :
    Calls Tryz.prog 27 #[six x] w fun e w' => e = .returned (.agg (makeX x).cells) ∧ Below w.heap.size w w' := by
  have P1 := Lib.hid (fun W => pick_any (x 1) 4 W (hx 1).1 (hx 1).2 (by omega) (by omega))
  have P2 := Lib.hid (fun W => pick_any (x 2) 3 W (hx 2).1 (hx 2).2 (by omega) (by omega))
  have P3 := Lib.hid (fun W => pick_any (x 3) 4 W (hx 3).1 (hx 3).2 (by omega) (by omega))
  have P4 := Lib.hid (fun W => pick_any (x 4) 1000 W (hx 4).1 (hx 4).2 (by omega) (by omega))
  have P5 := Lib.hid (fun W => pick_any (x 5) 4 W (hx 5).1 (hx 5).2 (by omega) (by omega))
  have P0 := Lib.hid (fun W => pick_any (x 0) 10 W (hx 0).1 (hx 0).2 (by omega) (by omega))
  have b1 := pickN_bd (x 1) 4 (by omega)
  have b2 := pickN_bd (x 2) 3 (by omega)
  have b3 := pickN_bd (x 3) 4 (by omega)
  have b4 := pickN_bd (x 4) 1000 (by omega)
  have b5 := pickN_bd (x 5) 4 (by omega)
  obtain ⟨a, ha⟩ : ∃ z : Nat, pickN (x 1) 4 = (z : Int) := ⟨(pickN (x 1) 4).toNat, by omega⟩
  obtain ⟨b, hb⟩ : ∃ z : Nat, pickN (x 2) 3 = (z : Int) := ⟨(pickN (x 2) 3).toNat, by omega⟩
  obtain ⟨v, hv⟩ : ∃ z : Nat, pickN (x 3) 4 = (z : Int) := ⟨(pickN (x 3) 4).toNat, by omega⟩
  obtain ⟨n, hn⟩ : ∃ z : Nat, pickN (x 4) 1000 = (z : Int) := ⟨(pickN (x 4) 1000).toNat, by omega⟩
  obtain ⟨p, hp⟩ : ∃ z : Nat, pickN (x 5) 4 = (z : Int) := ⟨(pickN (x 5) 4).toNat, by omega⟩
  have HM : Hid (makeX x = makeF 6 (1 + a) (1 + b) (1 + v) n p) := Lib.hid (by unfold makeX; rw [hk, ha, hb, hv, hn, hp]; rfl)
  rw [hk] at P0
  rw [ha] at P1 b1
  rw [hb] at P2 b2
  rw [hv] at P3 b3
  rw [hn] at P4 b4
  rw [hp] at P5 b5
  obtain ⟨x0, e0⟩ : ∃ z, x 0 = z := ⟨_, rfl⟩
  obtain ⟨x1, e1⟩ : ∃ z, x 1 = z := ⟨_, rfl⟩
  obtain ⟨x2, e2⟩ : ∃ z, x 2 = z := ⟨_, rfl⟩
  obtain ⟨x3, e3⟩ : ∃ z, x 3 = z := ⟨_, rfl⟩
  obtain ⟨x4, e4⟩ : ∃ z, x 4 = z := ⟨_, rfl⟩
  obtain ⟨x5, e5⟩ : ∃ z, x 5 = z := ⟨_, rfl⟩
  unfold six
  rw [e0] at P0 ⊢
  rw [e1] at P1 ⊢
  rw [e2] at P2 ⊢
  rw [e3] at P3 ⊢
  rw [e4] at P4 ⊢
  rw [e5] at P5 ⊢
  clear hx hk ha hb hv hn hp e0 e1 e2 e3 e4 e5
  have ha4 : a < 4 := by omega
  have hb3 : b < 3 := by omega
  have hv4 : v < 4 := by omega
  have hn1 : n < 1000 := by omega
  have hp4 : p < 4 := by omega
  clear b1 b2 b3 b4 b5
  go_enter Tryz.func27, Tryz.ntmps27
  go_wp2_with fail
  refine (P1.out _).mono ?_
  rintro e w1 ⟨rfl, rfl⟩
  go_wp2_with fail
  refine (P2.out _).mono ?_
  rintro e w1 ⟨rfl, rfl⟩
  go_wp2_with fail
  refine (P3.out _).mono ?_
  rintro e w1 ⟨rfl, rfl⟩
  go_wp2_with fail
  refine (P4.out _).mono ?_
  rintro e w1 ⟨rfl, rfl⟩
  go_wp2_with fail
  refine (P5.out _).mono ?_
  rintro e w1 ⟨rfl, rfl⟩
  go_wp2_with fail
  refine (P0.out _).mono ?_
  rintro e w1 ⟨rfl, rfl⟩
  go_wp2_with fail
  refine make_end rfl rfl ?_
  rw [HM.out]
  simp [makeF, mkF, FactV.cells]
end Go.Proofs.YtgjajhopjcdflaaGreat
