/- The reference's percent. -/
import Derived.Test.YtfiabonacpepnaaGreatDoorCtRa
namespace Go.Proofs.YtfiabonacpepnaaGreatDoor
open Go Go.RowKit Go.Lib Go.Shelf Go.Maps

def fracR : List Nat → Nat → List UInt8
  | [], _ => []
  | i :: is, rest => if rest = 0 then [] else UInt8.ofNat (48 + rest / i) :: fracR is (rest % i)
theorem fracR_all : ((List.range 10000).all fun r => fracR [1000, 100, 10, 1] r == fracL r) = true := by decide +kernel
theorem fracR_eq {r : Nat} (h : r < 10000) : fracR [1000, 100, 10, 1] r = fracL r := by
  have := List.all_eq_true.1 fracR_all r (List.mem_range.2 h)
  simpa using this
theorem fracR_zero (l : List Nat) : fracR l 0 = [] := by cases l <;> simp [fracR]
/-- where the loop stands: the divisor, the bound of the rest, the divisors to come -/
def At (i : Nat) (l : List Nat) (rest : Nat) : Prop :=
  (i = 1000 ∧ l = [1000, 100, 10, 1] ∧ rest < 10000) ∨ (i = 100 ∧ l = [100, 10, 1] ∧ rest < 1000) ∨ (i = 10 ∧ l = [10, 1] ∧ rest < 100) ∨ (i = 1 ∧ l = [1] ∧ rest < 10) ∨ (i = 0 ∧ l = [] ∧ rest = 0)
theorem At.step {i : Nat} {l : List Nat} {rest : Nat} (h : At i l rest) (h0 : 0 < rest) : 0 < i ∧ i ≤ 1000 ∧ rest < 10000 ∧ rest / i < 10 ∧ ∃ l', l = i :: l' ∧ At (i / 10) l' (rest % i) := by
  rcases h with ⟨rfl, rfl, h⟩ | ⟨rfl, rfl, h⟩ | ⟨rfl, rfl, h⟩ | ⟨rfl, rfl, h⟩ | ⟨rfl, rfl, h⟩
  · exact ⟨by omega, by omega, by omega, by omega, _, rfl, .inr (.inl ⟨rfl, rfl, by omega⟩)⟩
  · exact ⟨by omega, by omega, by omega, by omega, _, rfl, .inr (.inr (.inl ⟨rfl, rfl, by omega⟩))⟩
  · exact ⟨by omega, by omega, by omega, by omega, _, rfl, .inr (.inr (.inr (.inl ⟨rfl, rfl, by omega⟩)))⟩
  · exact ⟨by omega, by omega, by omega, by omega, _, rfl, .inr (.inr (.inr (.inr ⟨rfl, rfl, by omega⟩)))⟩
  · omega
set_option maxRecDepth 100000 in
set_option maxHeartbeats 4000000 in
theorem rpercent_any (n : Nat) (w : World) (hn : n < 1000000000000000) :
    Calls Tryz.prog 65 #[.int .i64 (n : Int)] w fun e w' => e = .returned (strV (pctL n)) ∧ Below w.heap.size w w' := by
  have I1 := Lib.hid (rdigits_any (n / 10000) w (by omega))
  obtain ⟨q, hq⟩ : ∃ q, n / 10000 = q := ⟨_, rfl⟩
  obtain ⟨r, hr⟩ : ∃ r, n % 10000 = r := ⟨_, rfl⟩
  have hq2 : (n : Int).tdiv 10000 = (q : Int) := by rw [← hq]; exact Int.ofNat_tdiv n 10000 |>.symm
  have hr2 : (n : Int).tmod 10000 = (r : Int) := by rw [← hr]; exact Int.ofNat_tmod n 10000 |>.symm
  have hq3 : (n : Int) / 10000 = (q : Int) := by omega
  have hr3 : (n : Int) % 10000 = (r : Int) := by omega
  have hrb : r < 10000 := by omega
  have HP : Hid (pctL n = decDigits q ++ (if r = 0 then [] else 46 :: fracL r) ++ [37]) := Lib.hid (by unfold pctL; rw [hq, hr])
  rw [hq] at I1
  have hlq : (decDigits q).length ≤ 16 := dec_len 15 q (by omega)
  obtain ⟨D, hD⟩ : ∃ D, decDigits q = D := ⟨_, rfl⟩
  rw [hD] at I1 HP hlq
  have HF := Lib.hid (fracR_eq hrb)
  clear hq hr hD
  unfold strV at I1 ⊢
  by_cases h0 : r = 0
  · subst h0
    rw [if_pos rfl, List.append_nil] at HP
    clear HF
    go_enter Tryz.func65, Tryz.ntmps65
    go_wp2_with fail
    refine I1.out.mono ?_
    rintro e w1 ⟨rfl, hb1⟩
    have HB1 := Lib.hid hb1
    clear hb1
    go_wp2_with fail
    go_ret
    exact ⟨by rw [HP.out, ← ba_app]; rfl, HB1.out⟩
  · have qr : ((r : Int) == 0) = false := by rw [beq_eq_false_iff_ne]; omega
    have qr2 : decide (r = 0) = false := by simpa using h0
    have qr3 : (r == 0) = false := by simpa using h0
    rw [if_neg h0] at HP
    have hfl : (fracL r).length ≤ 4 := by
      obtain ⟨j, h1, _⟩ := trim_spec (pad4 r) 48
      have h2 := congrArg List.length h1
      rw [List.length_append] at h2
      have : (pad4 r).length = 4 := rfl
      show (trimRightB (pad4 r) 48).length ≤ 4
      omega
    obtain ⟨T, hT⟩ : ∃ T, D ++ 46 :: fracL r = T := ⟨_, rfl⟩
    have hTl : T.length ≤ 21 := by rw [← hT]; simp; omega
    rw [hT] at HP
    have HT0 : Hid (D ++ [46] ++ fracR [1000, 100, 10, 1] r = T) := Lib.hid (by rw [HF.out, ← hT]; simp)
    clear h0 hT hfl
    go_enter Tryz.func65, Tryz.ntmps65
    go_wp2_with fail
    refine I1.out.mono ?_
    rintro e w1 ⟨rfl, hb1⟩
    have HB1 := Lib.hid hb1
    clear hb1
    go_upto_region 5 with fail
    go_upto_region 6 with fail
    rw [show (⟨D.toArray⟩ : ByteArray) ++ ⟨#[46]⟩ = ⟨(D ++ [46]).toArray⟩ from ba_app D [46]]
    go_wp2_with fail
    go_loopw [3, 4, 5] (fun ov rv iv wr => ∃ (o : List UInt8) (rest i : Nat) (l : List Nat), ov = .string ⟨o.toArray⟩ ∧ rv = .int .i64 rest ∧ iv = .int .i64 i ∧ Hid (At i l rest ∧ o ++ fracR l rest = T ∧ Below w.heap.size w wr)) (fun _ _ iv _ => (intOf iv).toNat)
    case atStart => exact ⟨D ++ [46], r, 1000, [1000, 100, 10, 1], rfl, rfl, rfl, Lib.hid ⟨.inl ⟨rfl, rfl, hrb⟩, HT0.out, HB1.out⟩⟩
    case round =>
      obtain ⟨o, rest, i, l, rfl, rfl, rfl, HR⟩ := hrel
      have hol : o.length ≤ 21 := by have := congrArg List.length HR.out.2.1; rw [List.length_append] at this; omega
      have hsr : w.heap.size ≤ wr.heap.size := HR.out.2.2.size
      have HB := Lib.hid HR.out.2.2
      by_cases hr0 : rest = 0
      · subst hr0
        have HE : Hid (o = T) := Lib.hid (by have := HR.out.2.1; rw [fracR_zero, List.append_nil] at this; exact this)
        clear HR
        go_wp2_with fail
        go_ret
        exact ⟨by rw [HP.out, ← HE.out, ← ba_app]; rfl, HB.out⟩
      · obtain ⟨hi0, hi1, hrs, hk, l', hl, hat⟩ := HR.out.1.step (by omega)
        have HS : Hid (o ++ [UInt8.ofNat (48 + rest / i)] ++ fracR l' (rest % i) = T) := Lib.hid (by
          rw [← HR.out.2.1, hl]
          simp only [fracR]
          rw [if_neg hr0]
          simp)
        have I2 := Lib.hid (rdigits_any (rest / i) wr (by omega))
        rw [dec_small hk] at I2
        obtain ⟨k, hkk⟩ : ∃ k, rest / i = k := ⟨_, rfl⟩
        obtain ⟨r2, hrr⟩ : ∃ k, rest % i = k := ⟨_, rfl⟩
        obtain ⟨i2, hii⟩ : ∃ k, i / 10 = k := ⟨_, rfl⟩
        have d0 : decide ((0 : Int) < (rest : Int)) = true := by simp; omega
        have d1 : decide (0 < rest) = true := by simp; omega
        have hrp : 0 < rest := by omega
        have e1 : (rest : Int).tdiv (i : Int) = (k : Int) := by rw [← hkk]; exact Int.ofNat_tdiv rest i |>.symm
        have e2 : (rest : Int).tmod (i : Int) = (r2 : Int) := by rw [← hrr]; exact Int.ofNat_tmod rest i |>.symm
        have e3 : (i : Int).tdiv 10 = (i2 : Int) := by rw [← hii]; exact Int.ofNat_tdiv i 10 |>.symm
        have e4 : (rest : Int) / (i : Int) = (k : Int) := by rw [← hkk]; simp
        have e5 : (rest : Int) % (i : Int) = (r2 : Int) := by rw [← hrr]; simp
        have e6 : (i : Int) / 10 = (i2 : Int) := by omega
        have z1 : ((i : Int) == 0) = false := by rw [beq_eq_false_iff_ne]; omega
        have z2 : ¬ ((i : Int) = 0) := by omega
        have hlt : i2 < i := by omega
        rw [hkk] at I2 HS hk
        rw [hrr] at HS hat
        rw [hii] at hat
        obtain ⟨B, hB⟩ : ∃ B, UInt8.ofNat (48 + k) = B := ⟨_, rfl⟩
        rw [hB] at I2 HS
        have HAT := Lib.hid hat
        unfold strV at I2
        clear HR hl hat hkk hrr hii hB hr0
        go_wp2_with fail
        refine I2.out.mono ?_
        rintro e w5 ⟨rfl, hb5⟩
        have HB5 := Lib.hid (HB.out.trans (hb5.mono hsr))
        clear hb5
        go_wp2_with fail
        rw [show (⟨o.toArray⟩ : ByteArray) ++ ⟨#[B]⟩ = ⟨(o ++ [B]).toArray⟩ from ba_app o [B]]
        exact ⟨⟨o ++ [B], r2, i2, l', rfl, rfl, rfl, Lib.hid ⟨HAT.out, HS.out, HB5.out⟩⟩, by simp [intOf]; omega⟩
end Go.Proofs.YtfiabonacpepnaaGreatDoor
