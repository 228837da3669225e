/- Itoa, percent. -/
import Derived.Test.YtfiabonacpepnaaGreatDoorCtBl
import Derived.Lib.AppendIntMem
namespace Go.Proofs.YtfiabonacpepnaaGreatDoor
open Go Go.RowKit Go.Lib Go.Shelf Go.Maps

theorem run_str_tail (t : TypeId) (ht : Tryz.prog.underlying t = some .string) (c : UInt8) (r : List UInt8) (w : World) :
    (Instr.slice t (.string ⟨(c :: r).toArray⟩) (some (.int .i64 1)) none none).run Tryz.prog w = .ok (.string ⟨r.toArray⟩) w := by
  have hz : (⟨(c :: r).toArray⟩ : ByteArray).size = r.length + 1 := rfl
  rw [run_slice_string_l w t _ ht .i64 1 (by decide) (by rw [hz]; omega)]
  have e : (⟨(c :: r).toArray⟩ : ByteArray).extract (1 : Int).toNat (⟨(c :: r).toArray⟩ : ByteArray).size = ⟨r.toArray⟩ := by
    rw [hz, extract_eq]
    simp
  rw [e]
theorem ba_app (x y : List UInt8) : (⟨x.toArray⟩ : ByteArray) ++ ⟨y.toArray⟩ = ⟨(x ++ y).toArray⟩ := by
  apply ByteArray.ext
  simp
theorem itoa_any (n : Nat) (w : World) (hK : KAt w) (hn : n < 9223372036854775808) :
    Calls Tryz.prog 64 #[.int .i64 (n : Int)] w fun e w' => e = .returned (strV (decDigits n)) ∧ Below w.heap.size w w' := by
  refine (Tryz.strconv_Itoa (n : Int) (by omega) (by omega) w hK.tab).mono ?_
  rintro e w' ⟨he, k, os, hw⟩
  refine ⟨?_, ?_⟩
  · rw [he]
    unfold itoa strV
    rw [if_neg (by omega)]
    simp
  · rw [hw]
    exact below_grow _ _ (Nat.le_refl _) _ _
set_option maxRecDepth 100000 in
set_option maxHeartbeats 4000000 in
theorem percent_any (n : Nat) (w : World) (hK : KAt w) (hn : n < 1000000000000000) :
    Calls Tryz.prog 63 #[.int .i64 (n : Int)] w fun e w' => e = .returned (strV (pctL n)) ∧ Below w.heap.size w w' := by
  have I1 := Lib.hid (fun W (h : KAt W) => itoa_any (n / 10000) W h (by omega))
  have HK := Lib.hid hK
  obtain ⟨q, hq⟩ : ∃ q, n / 10000 = q := ⟨_, rfl⟩
  obtain ⟨r, hr⟩ : ∃ r, n % 10000 = r := ⟨_, rfl⟩
  have hq2 : (n : Int).tdiv 10000 = (q : Int) := by rw [← hq]; exact Int.ofNat_tdiv n 10000 |>.symm
  have hr2 : (n : Int).tmod 10000 = (r : Int) := by rw [← hr]; exact Int.ofNat_tmod n 10000 |>.symm
  have hq3 : (n : Int) / 10000 = (q : Int) := by omega
  have hr3 : (n : Int) % 10000 = (r : Int) := by omega
  have hrb : r < 10000 := by omega
  have HP : Hid (pctL n = decDigits q ++ (if r = 0 then [] else 46 :: fracL r) ++ [37]) := Lib.hid (by unfold pctL; rw [hq, hr])
  rw [hq] at I1
  have hlq : (decDigits q).length ≤ 16 := dec_len 15 q (by omega)
  obtain ⟨D, hD⟩ : ∃ D, decDigits q = D := ⟨_, rfl⟩
  rw [hD] at I1 HP hlq
  have I2 := Lib.hid (fun W (h : KAt W) => itoa_any (10000 + r) W h (by omega))
  rw [dec_pad hrb] at I2
  obtain ⟨m, hm⟩ : ∃ m, 10000 + r = m := ⟨_, rfl⟩
  rw [hm] at I2
  have e1 : (10000 : Int) + (r : Int) = (m : Int) := by omega
  have hpl : (pad4 r).length = 4 := rfl
  have hpt := fun W => run_str_tail 9 Tryz.underlying9 49 (pad4 r) W
  have T1 := Lib.hid (fun W => Tryz.strings_TrimRight_one ⟨(pad4 r).toArray⟩ 48 (by decide) W (by show (pad4 r).length ≤ _; rw [hpl]; decide))
  have T2 : Hid (∀ W, Calls Tryz.prog 84 #[.string ⟨(pad4 r).toArray⟩, .string ⟨#[48]⟩] W fun e w' => e = .returned (.string ⟨(fracL r).toArray⟩) ∧ W = w') := Lib.hid (fun W => (T1.out W).mono fun e w' ⟨h1, h2⟩ => ⟨h1, h2.symm⟩)
  have hlf : (fracL r).length ≤ 4 := by
    have := trim_spec (pad4 r) 48
    obtain ⟨j, h1, _⟩ := this
    have h2 := congrArg List.length h1
    rw [List.length_append, hpl] at h2
    show (trimRightB (pad4 r) 48).length ≤ 4
    omega
  obtain ⟨F, hF⟩ : ∃ F, fracL r = F := ⟨_, rfl⟩
  obtain ⟨P, hP⟩ : ∃ F, pad4 r = F := ⟨_, rfl⟩
  rw [hF] at T2 HP hlf
  rw [hP] at I2 hpt T2
  have a1 := fun W => run_str_add 9 [46] F (by decide) (by omega) W
  have a2 := fun W => run_str_add 9 D ([46] ++ F) (by omega) (by simp; omega) W
  have a3 := fun W => run_str_add 9 (D ++ ([46] ++ F)) [37] (by simp; omega) (by decide) W
  have a4 := fun W => run_str_add 9 D [37] (by omega) (by decide) W
  have hrb2 : (r : Int) < 10000 := by omega
  clear hq hr hD hF hP T1 hK hpl hm
  unfold strV at I1 I2 ⊢
  by_cases h0 : r = 0
  · have d0 : decide (0 < (r : Int)) = false := by simp; omega
    have d1 : decide (0 < r) = false := by simp; omega
    rw [if_pos h0, List.append_nil] at HP
    clear h0
    go_enter Tryz.func63, Tryz.ntmps63
    go_wp2_with fail
    refine (I1.out _ HK.out).mono ?_
    rintro e w1 ⟨rfl, hb1⟩
    have HB1 := Lib.hid hb1
    clear hb1
    go_wp2_with fail
    go_ret
    exact ⟨by rw [HP.out]; rfl, HB1.out⟩
  · have d0 : decide (0 < (r : Int)) = true := by simp; omega
    have d1 : decide (0 < r) = true := by simp; omega
    rw [if_neg h0] at HP
    clear h0
    go_enter Tryz.func63, Tryz.ntmps63
    go_wp2_with fail
    refine (I1.out _ HK.out).mono ?_
    rintro e w1 ⟨rfl, hb1⟩
    have HB1 := Lib.hid hb1
    have HK1 := Lib.hid (HK.out.mono hb1)
    clear hb1
    go_wp2_with fail
    refine (I2.out _ HK1.out).mono ?_
    rintro e w2 ⟨rfl, hb2⟩
    have HB2 := Lib.hid (HB1.out.trans (hb2.mono HB1.out.size))
    clear hb2
    go_wp2_with fail
    refine (T2.out _).mono ?_
    rintro e w3 ⟨rfl, rfl⟩
    go_wp2_with fail
    go_ret
    refine ⟨?_, HB2.out⟩
    rw [HP.out]
    have e : (⟨D.toArray⟩ : ByteArray) ++ ((⟨[46].toArray⟩ : ByteArray) ++ ⟨F.toArray⟩) ++ ⟨[37].toArray⟩ = ⟨(D ++ 46 :: F ++ [37]).toArray⟩ := by
      rw [ba_app, ba_app, ba_app]
      simp
    exact congrArg (fun x => Ending.returned (.string x)) e
end Go.Proofs.YtfiabonacpepnaaGreatDoor
