/- The law's small functions: binary, left, few. -/
import Derived.Test.YtgmdjbhclihflaaDoorDgX
import Derived.Test.YtgmdjbhclihflaaDoorBaseB
namespace Go.Proofs.YtgmdjbhclihflaaDoor
open Go Go.RowKit Go.Lib Go.Shelf
attribute [local go_sem] Oper.semAt_some

def binL : Nat → Nat → Nat
  | 0, _ => 0
  | f + 1, n => if n = 0 then 0 else binL f (n / 2) + 1
theorem binL_big : ∀ (f g n : Nat), n ≤ f → n ≤ g → binL f n = binL g n
  | 0, 0, n, _, _ => rfl
  | 0, g + 1, n, h, _ => by obtain rfl : n = 0 := by omega
                            simp [binL]
  | f + 1, 0, n, _, h => by obtain rfl : n = 0 := by omega
                            simp [binL]
  | f + 1, g + 1, n, h1, h2 => by
    unfold binL
    split
    · rfl
    · rw [binL_big f g (n / 2) (by omega) (by omega)]
theorem binL_step {n : Nat} (h : 0 < n) : binL n n = binL (n / 2) (n / 2) + 1 := by
  obtain ⟨f, rfl⟩ : ∃ f, n = f + 1 := ⟨n - 1, by omega⟩
  rw [binL, if_neg (by omega), binL_big f ((f + 1) / 2) _ (by omega) (Nat.le_refl _)]
theorem binL_le : ∀ (f n : Nat), binL f n ≤ n
  | 0, n => Nat.zero_le _
  | f + 1, n => by
    unfold binL
    split
    · omega
    · have := binL_le f (n / 2); omega
theorem binary_any (n : Nat) (w : World) (h : n ≤ 100000) :
    Calls Tryd.prog 20 #[.int .i64 n] w fun e w' => e = .returned (.int .i64 (binL n n : Nat)) ∧ w = w' := by
  obtain ⟨R, hR⟩ : ∃ R, binL n n = R := ⟨_, rfl⟩
  rw [hR]
  have hRn : R ≤ n := by rw [← hR]; exact binL_le n n
  have HR := Lib.hid hR
  clear hR
  go_enter Tryd.func20, Tryd.ntmps20
  go_wp2_with fail
  go_loopw [0, 3] (fun v0 v3 wr => ∃ m k : Nat, v0 = .int .i64 m ∧ v3 = .int .i64 k ∧ m ≤ 100000 ∧ Hid (k + binL m m = R) ∧ k ≤ R ∧ R ≤ 100000 ∧ wr = w) (fun v0 _ _ => (RowKit.intOf v0).toNat)
  case atStart => exact ⟨n, 0, rfl, rfl, h, Lib.hid (by rw [Nat.zero_add]; exact HR.out), by omega, by omega, rfl⟩
  case round =>
    obtain ⟨m, k, rfl, rfl, hm, HS, hk, hR2, rfl⟩ := hrel
    by_cases h0 : 0 < m
    · have h0d : decide (0 < (m : Int)) = true := by simp; omega
      have hkR : k + 1 ≤ R := by have := HS.out; rw [binL_step h0] at this; omega
      have HN : Hid (k + 1 + binL (m / 2) (m / 2) = R) := Lib.hid (by have := HS.out; rw [binL_step h0] at this; omega)
      go_wp2_with fail
      go_roundw
      case rel => exact ⟨m / 2, k + 1, by go_num, by go_num, by omega, HN, hkR, hR2, trivial⟩
      case measure => simp [RowKit.intOf]; omega
    · have hm0 : m = 0 := by omega
      subst hm0
      have hRk : k = R := by have := HS.out; simpa [binL] using this
      subst hRk
      go_wp2_with fail
      go_ret
      exact ⟨rfl, rfl⟩
theorem lleft_any (n : Nat) (w : World) (h : 2 ≤ n) (h2 : n ≤ 9223372036854775807) :
    Calls Tryd.prog 28 #[.int .i64 n] w fun e w' => e = .returned (.int .i64 (leftN n : Nat)) ∧ w = w' := by
  obtain ⟨b1, b2, b3⟩ := leftN_bd h h2
  obtain ⟨J, hJ⟩ : ∃ J, leftN n = 2 ^ J := ⟨_, rfl⟩
  obtain ⟨R, hR⟩ : ∃ R, leftN n = R := ⟨_, rfl⟩
  rw [hR] at hJ b1 b2 b3 ⊢
  have HJ := Lib.hid hJ
  clear hR hJ
  go_enter Tryd.func28, Tryd.ntmps28
  go_wp2_with fail
  go_loopw [3] (fun v3 wr => ∃ k : Nat, v3 = .int .i64 k ∧ k ≤ R ∧ 1 ≤ k ∧ Hid (∃ j, k = 2 ^ j) ∧ wr = w) (fun v3 _ => n - (RowKit.intOf v3).toNat)
  case atStart => exact ⟨1, rfl, by omega, by omega, Lib.hid ⟨0, rfl⟩, rfl⟩
  case round =>
    obtain ⟨k, rfl, hk, hk1, HS, rfl⟩ := hrel
    obtain ⟨d, hd⟩ : ∃ d, n - k = d := ⟨_, rfl⟩
    have e1 : IntKind.i64.wrap ((n : Int) - (k : Int)) = (d : Int) := by rw [IntWalk.i64_in _ (by omega)]; omega
    have e2 : (n : Int) - (k : Int) = (d : Int) := by omega
    by_cases hc : k < d
    · obtain ⟨k2, hk2⟩ : ∃ k2, 2 * k = k2 := ⟨_, rfl⟩
      have e3 : IntKind.i64.wrap (k2 : Int) = (k2 : Int) := by rw [IntWalk.i64_in _ (by omega)]
      have e4 : 2 * (k : Int) = (k2 : Int) := by omega
      have HN : Hid (k2 ≤ R ∧ ∃ j, k2 = 2 ^ j) := Lib.hid (by
        obtain ⟨j, hj⟩ := HS.out
        have hJ := HJ.out
        have h1 : 2 ^ j < 2 ^ J := by rw [← hj, ← hJ]; omega
        have h2 : j < J := (Nat.pow_lt_pow_iff_right (by omega)).1 h1
        refine ⟨?_, j + 1, by rw [Nat.pow_succ, ← hj]; omega⟩
        have : 2 ^ (j + 1) ≤ 2 ^ J := Nat.pow_le_pow_right (by omega) h2
        rw [Nat.pow_succ, ← hj, ← hJ] at this
        omega)
      have hdd := hd
      have HD := Lib.hid (And.intro hk2 (And.intro hd hc))
      clear hk2 hd hdd
      go_wp2_with fail
      go_roundw
      case rel => exact ⟨k2, rfl, HN.out.1, by have := HD.out; omega, Lib.hid HN.out.2, trivial⟩
      case measure => have := HD.out; have := HN.out.1; simp [RowKit.intOf]; omega
    · have hkR : k = R := by
        obtain ⟨j, hj⟩ := HS.out
        have hJ := HJ.out
        have h1 : 2 ^ J < 2 ^ (j + 1) := by rw [Nat.pow_succ, ← hj, ← hJ]; omega
        have h2 : J < j + 1 := (Nat.pow_lt_pow_iff_right (by omega)).1 h1
        have : 2 ^ J ≤ 2 ^ j := Nat.pow_le_pow_right (by omega) (by omega)
        rw [← hj, ← hJ] at this
        omega
      subst hkR
      clear hd
      go_wp2_with fail
      go_ret
      exact ⟨rfl, rfl⟩
theorem rleft_any (n : Nat) (w : World) (h : 2 ≤ n) (h2 : n ≤ 9223372036854775807) :
    Calls Tryd.prog 39 #[.int .i64 n] w fun e w' => e = .returned (.int .i64 (leftN n : Nat)) ∧ w = w' := by
  obtain ⟨b1, b2, b3⟩ := leftN_bd h h2
  obtain ⟨J, hJ⟩ : ∃ J, leftN n = 2 ^ J := ⟨_, rfl⟩
  obtain ⟨R, hR⟩ : ∃ R, leftN n = R := ⟨_, rfl⟩
  rw [hR] at hJ b1 b2 b3 ⊢
  have HJ := Lib.hid hJ
  clear hR hJ
  go_enter Tryd.func39, Tryd.ntmps39
  go_wp2_with fail
  go_loopw [3] (fun v3 wr => ∃ k : Nat, v3 = .int .i64 k ∧ k ≤ R ∧ 1 ≤ k ∧ Hid (∃ j, k = 2 ^ j) ∧ wr = w) (fun v3 _ => n - (RowKit.intOf v3).toNat)
  case atStart => exact ⟨1, rfl, by omega, by omega, Lib.hid ⟨0, rfl⟩, rfl⟩
  case round =>
    obtain ⟨k, rfl, hk, hk1, HS, rfl⟩ := hrel
    obtain ⟨d, hd⟩ : ∃ d, n - k = d := ⟨_, rfl⟩
    have e1 : IntKind.i64.wrap ((n : Int) - (k : Int)) = (d : Int) := by rw [IntWalk.i64_in _ (by omega)]; omega
    have e2 : (n : Int) - (k : Int) = (d : Int) := by omega
    by_cases hc : k < d
    · obtain ⟨k2, hk2⟩ : ∃ k2, 2 * k = k2 := ⟨_, rfl⟩
      have e3 : IntKind.i64.wrap (k2 : Int) = (k2 : Int) := by rw [IntWalk.i64_in _ (by omega)]
      have e4 : 2 * (k : Int) = (k2 : Int) := by omega
      have HN : Hid (k2 ≤ R ∧ ∃ j, k2 = 2 ^ j) := Lib.hid (by
        obtain ⟨j, hj⟩ := HS.out
        have hJ := HJ.out
        have h1 : 2 ^ j < 2 ^ J := by rw [← hj, ← hJ]; omega
        have h2 : j < J := (Nat.pow_lt_pow_iff_right (by omega)).1 h1
        refine ⟨?_, j + 1, by rw [Nat.pow_succ, ← hj]; omega⟩
        have : 2 ^ (j + 1) ≤ 2 ^ J := Nat.pow_le_pow_right (by omega) h2
        rw [Nat.pow_succ, ← hj, ← hJ] at this
        omega)
      have hdd := hd
      have HD := Lib.hid (And.intro hk2 (And.intro hd hc))
      clear hk2 hd hdd
      go_wp2_with fail
      go_roundw
      case rel => exact ⟨k2, rfl, HN.out.1, by have := HD.out; omega, Lib.hid HN.out.2, trivial⟩
      case measure => have := HD.out; have := HN.out.1; simp [RowKit.intOf]; omega
    · have hkR : k = R := by
        obtain ⟨j, hj⟩ := HS.out
        have hJ := HJ.out
        have h1 : 2 ^ J < 2 ^ (j + 1) := by rw [Nat.pow_succ, ← hj, ← hJ]; omega
        have h2 : J < j + 1 := (Nat.pow_lt_pow_iff_right (by omega)).1 h1
        have : 2 ^ J ≤ 2 ^ j := Nat.pow_le_pow_right (by omega) (by omega)
        rw [← hj, ← hJ] at this
        omega
      subst hkR
      clear hd
      go_wp2_with fail
      go_ret
      exact ⟨rfl, rfl⟩
set_option maxRecDepth 100000 in
set_option maxHeartbeats 2000000 in
theorem few_any (v : Value) (xs : List (List UInt8)) (k : Nat) (w : World) (hv : SlS w v xs) (hn : xs.length ≤ 9223372036854775807) (hk : k ≤ 1000) :
    Calls Tryd.prog 12 #[v, .int .i64 k] w fun e w' => ∃ v' , e = .returned v' ∧ OwnL 9 encS w' w.heap.size v' ((xs.take k).map (·.take 60)) ∧ Below w.heap.size w w' := by
  obtain ⟨A, c, rfl⟩ := hv.slice
  obtain ⟨n, hnn⟩ : ∃ n, xs.length = n := ⟨_, rfl⟩
  rw [hnn] at hv hn ⊢
  obtain ⟨R, hR⟩ : ∃ R, (xs.take k).map (·.take 60) = R := ⟨_, rfl⟩
  rw [hR]
  have HV := Lib.hid hv
  have HN := Lib.hid hnn
  have HR := Lib.hid hR
  clear hv hnn hR
  go_enter Tryd.func12, Tryd.ntmps12
  go_wp2_with fail
  go_loopw [5, 6] (fun v5 v6 wr => ∃ i : Nat, v6 = .int .i64 i ∧ i ≤ n ∧ i ≤ k ∧ Hid (OwnL 9 encS wr w.heap.size v5 ((xs.take i).map (·.take 60)) ∧ Below w.heap.size w wr)) (fun _ v6 _ => n - (RowKit.intOf v6).toNat)
  case atStart => exact ⟨0, rfl, by omega, by omega, Lib.hid ⟨OwnL.nil, Below.refl _ _⟩⟩
  case round =>
    obtain ⟨i, rfl, hi, hik, HS⟩ := hrel
    obtain ⟨v5, hv5⟩ : ∃ z, z = u5 := ⟨_, rfl⟩
    subst hv5
    by_cases hi2 : i < n
    · by_cases hk2 : i < k
      · obtain ⟨x, hx⟩ : ∃ x, xs[i]? = some x := ⟨_, List.getElem?_eq_getElem (by rw [HN.out]; exact hi2)⟩
        obtain ⟨b, o, hA, hlt, hcx⟩ := HV.out.get hx
        subst hA
        have cx := (HS.out.2.cell (p := ⟨b, o + i, none⟩) hlt).trans hcx
        have hi2d : decide (i < n) = true := by simp; omega
        have hk2d : decide (i < k) = true := by simp; omega
        obtain ⟨m, r, hm1, hm2, hr, hex, hrl, hmin⟩ := cut_ex ⟨x.toArray⟩ 60 60 rfl
        have HX := Lib.hid (And.intro hx hrl)
        obtain ⟨A5, m5, c5, hv5⟩ : ∃ A m c, v5 = .slice A m c := by
          obtain ⟨A, c, h, _⟩ := HS.out.1.slice
          exact ⟨A, _, c, h⟩
        subst hv5
        clear hx hrl hcx hlt
        obtain ⟨y, hy⟩ : ∃ y, x.take 60 = y := ⟨_, rfl⟩
        have hr' : r = ⟨y.toArray⟩ := by rw [← hy, ← HX.out.2]
        subst hr'
        have hm3 : m ≤ x.length := hm2
        have hmin' : min ((x.length : Nat) : Int) 60 = (m : Int) := by
          have h : (if (60 : Int) < ((x.length : Nat) : Int) then (60 : Int) else ((x.length : Nat) : Int)) = (m : Int) := hmin
          rw [← h]
          split <;> omega
        have HY := Lib.hid hy
        clear hr hm1 hy hm2
        go_wp2_with fail
        refine wp_region_noPanic ?_
        go_region_law (refine step_append_one rfl (.tmp 18) (.tmp 30) 22 rfl Tryd.underlying22 string_info rfl (by decide) rfl (HS.out.1.below ((Below.refl _ _).alloc (Nat.le_refl _) _).drew) wr.heap.size 1 y rfl rfl (by rw [((RowAt.new wr 9 _).drew).cell 0]; rfl) (by rw [List.length_map, List.length_take]; omega) (by have := HS.out.2.size; simp; omega) ?_; intro v9 w9 hown9 hg9)
        all_goals
          refine NoPanic.normal ?_
          simp only [Act.put, List.getElem_toArray, List.getElem_cons_zero, List.getElem_cons_succ, List.setIfInBounds_toArray, List.set_cons_zero, List.set_cons_succ]
          have bB : Below wr.heap.size wr ((wr.alloc (.cells #[.string ⟨y.toArray⟩] 9)).drew) := ((Below.refl _ _).alloc (Nat.le_refl _) _).drew
          have oT := HS.out.1.below bB
          have ow := (HS.out.2.trans (bB.mono HS.out.2.size)).grown hg9 (Nat.le_trans HS.out.2.size bB.size) (fun j e => (oT.lt j e).1)
          have hl : (xs.take i).map (·.take 60) ++ [y] = (xs.take (i + 1)).map (·.take 60) := by
            rw [List.take_add_one, HX.out.1, List.map_append, ← HY.out]
            rfl
          rw [hl] at hown9
          have HEND := Lib.hid (And.intro hown9 ow)
          clear hown9 hg9 bB oT ow hl
          go_wp2_with fail
          go_roundw
          case rel => exact ⟨i + 1, by go_num, by omega, by omega, HEND⟩
          case measure => simp [RowKit.intOf]; omega
      · have hk2d : decide (i < k) = false := by simp; omega
        have hi2d : decide (i < n) = true := by simp; omega
        have hik2 : i = k := by omega
        subst hik2
        go_wp2_with fail
        go_ret
        have h := HS.out.1
        rw [HR.out] at h
        exact ⟨_, rfl, h, HS.out.2⟩
    · have hi2d : decide (i < n) = false := by simp; omega
      have HE : Hid ((xs.take i).map (·.take 60) = R) := Lib.hid (by
        rw [← HR.out, List.take_of_length_le (by rw [HN.out]; omega), List.take_of_length_le (by rw [HN.out]; omega)])
      go_wp2_with fail
      go_ret
      have h := HS.out.1
      rw [HE.out] at h
      exact ⟨_, rfl, h, HS.out.2⟩
end Go.Proofs.YtgmdjbhclihflaaDoor
