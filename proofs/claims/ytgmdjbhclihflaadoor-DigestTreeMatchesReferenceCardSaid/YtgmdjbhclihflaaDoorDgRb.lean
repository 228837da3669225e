/- The reference's extended. -/
import Derived.Test.YtgmdjbhclihflaaDoorDgRa
import Derived.Test.YtgmdjbhclihflaaDoorDgP
namespace Go.Proofs.YtgmdjbhclihflaaDoor
open Go Go.RowKit Go.Lib Go.Shelf
attribute [local go_sem] Oper.semAt_some

def encB (b : UInt8) : Value := .int .u8 (b.toNat : Int)
theorem uint8_info : (Tryd.prog.info? 5).map (fun i => (i.zero, i.size, i.bytes)) = some (some (.int .u8 0), 1, 1) := by kernel_rfl
theorem uint32_info : (Tryd.prog.info? 64).map (fun i => (i.zero, i.size, i.bytes)) = some (some (.int .u32 0), 1, 4) := by kernel_rfl
/-- an append of one cell grows the world beyond base alone -/
theorem grow_below {B : Nat} {w wr w9 : World} {α : Type} {T : TypeId} {enc : α → Value} {v : Value} {l : List α} (hB : B ≤ wr.heap.size) (hb : Below B w wr) (hown : OwnL T enc wr B v l) (o : Obj) (hg : (wr.alloc o).grownBy w9 v.ownBlock) : Below B w w9 :=
  (hb.alloc hB o).grown hg (by simp; omega) (fun j e => (hown.lt j e).1)
set_option maxRecDepth 100000 in
set_option maxHeartbeats 4000000 in
theorem extended_any (s : List UInt8) (w : World) (hs : s.length ≤ 100000) :
    Calls Tryd.prog 51 #[.string ⟨s.toArray⟩] w fun e w' => ∃ v, e = .returned v ∧ OwnL 5 encB w' w.heap.size v (padB s) ∧ Below w.heap.size w w' := by
  obtain ⟨R, hR⟩ : ∃ R, padB s = R := ⟨_, rfl⟩
  rw [hR]
  have HR := Lib.hid hR
  obtain ⟨n, hn⟩ : ∃ z, s.length = z := ⟨_, rfl⟩
  rw [hn] at hs
  have HN := Lib.hid hn
  have hz : zn n < 64 := Nat.mod_lt _ (by decide)
  have hzm : (n + 1 + zn n) % 64 = 56 := by unfold zn; omega
  obtain ⟨z, hz0⟩ : ∃ z, zn n = z := ⟨_, rfl⟩
  rw [hz0] at hz hzm
  have HZ := Lib.hid hz0
  obtain ⟨B, hB⟩ : ∃ B, w.heap.size = B := ⟨_, rfl⟩
  rw [hB]
  have HB := Lib.hid hB
  have HB0 : Hid (Below B w w) := Lib.hid (by rw [← hB]; exact Below.refl _ _)
  have HSZ : Hid (∀ W, Below B w W → B ≤ W.heap.size) := Lib.hid (fun W hb => by rw [← HB.out]; exact hb.size)
  clear hR hz0 hB
  go_enter Tryd.func51, Tryd.ntmps51
  go_wp2_with fail
  go_loopw [3, 4] (fun v3 v4 wr => ∃ i : Nat, v4 = .int .i64 i ∧ i ≤ n ∧ Hid (OwnL 5 encB wr B v3 (s.take i) ∧ Below B w wr)) (fun _ v4 _ => n - (RowKit.intOf v4).toNat)
  case atStart => exact ⟨0, rfl, by omega, Lib.hid ⟨OwnL.nil, HB0.out⟩⟩
  case round =>
    obtain ⟨i, rfl, hi, HS⟩ := hrel
    obtain ⟨v3, hv3⟩ : ∃ z, z = u3 := ⟨_, rfl⟩
    subst hv3
    by_cases hi2 : i < n
    · have hi2d : decide (i < n) = true := by simp; omega
      obtain ⟨x, hx⟩ : ∃ x, s[i]? = some x := ⟨_, List.getElem?_eq_getElem (by rw [hn]; exact hi2)⟩
      have hi3 : (i : Int) < (n : Int) := by omega
      have hib : i < (⟨s.toArray⟩ : ByteArray).size := by show i < s.toArray.size; simp; omega
      have hgx : (⟨s.toArray⟩ : ByteArray)[i]'hib = x := by
        have h := (List.getElem?_eq_some_iff.1 hx).2
        rw [← h]
        show s.toArray[i] = _
        simp
      have HX := Lib.hid hx
      clear hx
      go_wp2_with (first | ((with_reducible refine wpList_stop (o := ⟨some 17, _, _, _, _, _⟩) ?_)))
      unfold Stop
      refine wpList_append_one rfl (.tmp 12) (.tmp 16) 45 rfl Tryd.underlying45 uint8_info rfl (by decide) rfl (HS.out.1.below ((Below.refl _ _).alloc (Nat.le_refl _) _)) wr.heap.size 1 x rfl rfl ?_ ?_ ?_ (fun v5 w5 hown hg => ?_)
      · rw [(RowAt.new wr 5 _).cell 0]; rfl
      · rw [List.length_take]; omega
      · have := HSZ.out _ HS.out.2; simp; omega
      have hbw := grow_below (HSZ.out _ HS.out.2) HS.out.2 HS.out.1 _ hg
      have htk : s.take i ++ [x] = s.take (i + 1) := by rw [List.take_add_one, HX.out]; rfl
      rw [htk] at hown
      have HE := Lib.hid (And.intro hown hbw)
      clear hown hg hbw htk
      go_wp2_with fail
      go_roundw
      case rel => exact ⟨i + 1, by go_num, by omega, HE⟩
      case measure => simp [RowKit.intOf]; omega
    · have hi2d : decide (i < n) = false := by simp; omega
      have hst : s.take i = s := List.take_of_length_le (by rw [hn]; omega)
      have HS1 : Hid (OwnL 5 encB wr B v3 s ∧ Below B w wr) := Lib.hid (by have h := HS.out; rwa [hst] at h)
      clear HS hst
      go_wp2_with (first | ((with_reducible refine wpList_stop (o := ⟨some 20, _, _, _, _, _⟩) ?_)))
      unfold Stop
      refine wpList_append_one rfl (.tmp 18) (.tmp 19) 45 rfl Tryd.underlying45 uint8_info rfl (by decide) rfl (HS1.out.1.below ((Below.refl _ _).alloc (Nat.le_refl _) _)) wr.heap.size 1 128 rfl rfl ?_ ?_ ?_ (fun v6 w6 hown hg => ?_)
      · rw [(RowAt.new wr 5 _).cell 0]; rfl
      · omega
      · have := HSZ.out _ HS1.out.2; simp; omega
      have H6 : Hid (OwnL 5 encB w6 B v6 (s ++ 128 :: List.replicate 0 0) ∧ Below B w w6) := Lib.hid ⟨hown, grow_below (HSZ.out _ HS1.out.2) HS1.out.2 HS1.out.1 _ hg⟩
      clear hown hg HS1 hi2d hi2 hi
      go_wp2_with fail
      go_loopw [3] (fun v3 wr => ∃ k : Nat, k ≤ z ∧ lenV v3 = n + 1 + k ∧ Hid (OwnL 5 encB wr B v3 (s ++ 128 :: List.replicate k 0) ∧ Below B w wr)) (fun v3 _ => n + 1 + z - lenV v3)
      case atStart => exact ⟨0, by omega, by
        obtain ⟨A, c, h, _⟩ := H6.out.1.slice
        rw [h]; simp [lenV, HN.out], H6⟩
      case round =>
        obtain ⟨k, hk, hlv, HS⟩ := hrel
        obtain ⟨A, cap, hv, hlc⟩ := HS.out.1.slice
        have hlen : (s ++ 128 :: List.replicate k (0 : UInt8)).length = n + 1 + k := by simp [HN.out]; omega
        rw [hlen] at hv hlc
        obtain ⟨L, hL⟩ : ∃ L, n + 1 + k = L := ⟨_, rfl⟩
        rw [hL] at hv hlc
        subst hv
        have HLEN := Lib.hid (hlen.trans hL)
        clear hlen hlv
        by_cases hk2 : k < z
        · have e1 : ((L : Int) % 64 == 56) = false := by rw [beq_eq_false_iff_ne]; omega
          have HL := Lib.hid hL
          clear hL hlc
          go_wp2_with (first | ((with_reducible refine wpList_stop (o := ⟨some 27, _, _, _, _, _⟩) ?_)))
          unfold Stop
          refine wpList_append_one rfl (.tmp 25) (.tmp 26) 45 rfl Tryd.underlying45 uint8_info rfl (by decide) rfl (HS.out.1.below ((Below.refl _ _).alloc (Nat.le_refl _) _)) wr.heap.size 1 0 rfl rfl ?_ ?_ ?_ (fun v7 w7 hown hg => ?_)
          · rw [(RowAt.new wr 5 _).cell 0]; rfl
          · rw [HLEN.out]; have := HL.out; omega
          · have := HSZ.out _ HS.out.2; simp; omega
          have hap : s ++ 128 :: List.replicate k (0 : UInt8) ++ [0] = s ++ 128 :: List.replicate (k + 1) 0 := by rw [List.replicate_succ', ← List.cons_append, ← List.append_assoc]
          rw [hap] at hown
          have HE := Lib.hid (And.intro hown (grow_below (HSZ.out _ HS.out.2) HS.out.2 HS.out.1 _ hg))
          clear hown hg hap HS
          have hlv7 : lenV v7 = n + 1 + (k + 1) := by
            obtain ⟨A, c, h, _⟩ := HE.out.1.slice
            rw [h]; simp [lenV, HN.out]; omega
          go_wp2_with fail
          go_roundw
          case rel => exact ⟨k + 1, by omega, hlv7, HE⟩
          case measure => rw [hlv7]; have := HL.out; simp [lenV]; omega
        · have hkz : k = z := by omega
          have e1 : (L : Int) % 64 = 56 := by omega
          have H8 : Hid (OwnL 5 encB wr B (.slice A L cap) ((s ++ 128 :: List.replicate z 0) ++ (be8 (8 * n)).take 0) ∧ Below B w wr) := Lib.hid (by rw [List.take_zero, List.append_nil, ← hkz]; exact HS.out)
          have HPL := Lib.hid (show (s ++ 128 :: List.replicate z (0 : UInt8)).length = n + 1 + z by rw [← hkz]; exact HLEN.out.trans hL.symm)
          clear hkz hlc hL HLEN HS hk2 hk
          obtain ⟨pre, hpre⟩ : ∃ p, s ++ 128 :: List.replicate z (0 : UInt8) = p := ⟨_, rfl⟩
          rw [hpre] at H8 HPL
          have HPRE := Lib.hid hpre
          clear hpre
          go_wp2_with fail
          clear e1
          go_loopw [3, 5] (fun v iv wr => ∃ j : Nat, j ≤ 8 ∧ iv = .int .i64 (7 - (j : Int)) ∧ Hid (OwnL 5 encB wr B v (pre ++ (be8 (8 * n)).take j) ∧ Below B w wr)) (fun _ i _ => (RowKit.intOf i + 1).toNat)
          case atStart => exact ⟨0, by omega, by go_num, H8⟩
          case round =>
            obtain ⟨j, hj, rfl, HS⟩ := hrel
            obtain ⟨v9, hv9⟩ : ∃ z, z = u3 := ⟨_, rfl⟩
            subst hv9
            have HLEN : Hid ((pre ++ (be8 (8 * n)).take j).length = n + 1 + z + j) := Lib.hid (by rw [List.length_append, HPL.out, List.length_take]; simp [be8]; omega)
            by_cases hj2 : j < 8
            · obtain ⟨q, hq⟩ : ∃ q, 7 - j = q := ⟨_, rfl⟩
              have hqi : (7 - (j : Int)) = (q : Int) := by omega
              rw [hqi]
              have hq7 : q ≤ 7 := by omega
              have hat := be8_at (8 * n) j hj2
              rw [show 56 - 8 * j = 8 * q by omega] at hat
              have HAT := Lib.hid hat
              have HQ := Lib.hid (And.intro hq hqi)
              clear hq hqi hat
              go_wp2_with (first | ((with_reducible refine wpList_stop (o := ⟨some 41, _, _, _, _, _⟩) ?_)))
              unfold Stop
              obtain ⟨b, hb⟩ : ∃ b, UInt8.ofNat (8 * n / 2 ^ (8 * q) % 256) = b := ⟨_, rfl⟩
              have hbn : (b.toNat : Int) = 8 * (n : Int) / 2 ^ (8 * q) % 256 := by
                rw [← hb, UInt8.toNat_ofNat', Nat.mod_eq_of_lt (Nat.lt_of_lt_of_le (Nat.mod_lt _ (by decide)) (by decide))]
                simp
              rw [← hbn]
              refine wpList_append_one rfl (.tmp 32) (.tmp 40) 45 rfl Tryd.underlying45 uint8_info rfl (by decide) rfl (HS.out.1.below ((Below.refl _ _).alloc (Nat.le_refl _) _)) wr.heap.size 1 b rfl rfl ?_ ?_ ?_ (fun v10 w10 hown hg => ?_)
              · rw [(RowAt.new wr 5 _).cell 0]; rfl
              · rw [HLEN.out]; omega
              · have := HSZ.out _ HS.out.2; simp; omega
              have hap : pre ++ (be8 (8 * n)).take j ++ [b] = pre ++ (be8 (8 * n)).take (j + 1) := by
                rw [List.take_add_one, HAT.out, hb, ← List.append_assoc]; rfl
              rw [hap] at hown
              have HE := Lib.hid (And.intro hown (grow_below (HSZ.out _ HS.out.2) HS.out.2 HS.out.1 _ hg))
              clear hown hg hap HS hb hbn
              go_wp2_with fail
              go_roundw
              case rel => exact ⟨j + 1, by omega, by have := HQ.out.2; congr 1; omega, HE⟩
              case measure => simp [RowKit.intOf]
            · have hj8 : j = 8 := by omega
              subst hj8
              have HE : Hid (OwnL 5 encB wr B v9 R ∧ Below B w wr) := Lib.hid (by
                have h := HS.out
                rw [List.take_of_length_le (by simp [be8]), ← HPRE.out, ← HN.out] at h
                rw [← HR.out]
                unfold padB
                rw [HN.out, HZ.out, ← HN.out]
                exact h)
              clear HS HLEN
              rw [show (7 - ((8 : Nat) : Int)) = -1 from rfl]
              go_wp2_with fail
              go_ret
              exact ⟨_, rfl, HE.out.1, HE.out.2⟩
end Go.Proofs.YtgmdjbhclihflaaDoor
