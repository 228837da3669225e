/- Parse of package period. -/
import Derived.Test.YtkcdfnngdmnkhaaDoorPerJ
import Derived.WalkSpells
namespace Go.Proofs.YtkcdfnngdmnkhaaDoor
open Go Go.RowKit

def V2i (r : Int × Int) : Value := .tuple #[.int .i64 r.1, .int .i64 r.2]

theorem PerP.numF_bd (l : List UInt8) : ∀ n : Nat, -1 ≤ PerP.numF n l ∧ PerP.numF n l < (n + 1) * 10 ^ l.length := by
  induction l with
  | nil => intro n; simp [PerP.numF]; omega
  | cons c l ih =>
    intro n
    rw [PerP.numF]
    split
    · refine ⟨by omega, ?_⟩
      have : (0 : Int) ≤ (n + 1) * 10 ^ (c :: l).length := Int.mul_nonneg (by omega) (Int.le_of_lt (Int.pow_pos (by omega)))
      omega
    · have e : (10 * (n : Int) + ((c.toNat : Int) - 48)) = ((10 * n + (c.toNat - 48) : Nat) : Int) := by omega
      rw [e]
      obtain ⟨h1, h2⟩ := ih (10 * n + (c.toNat - 48))
      refine ⟨h1, Int.lt_of_lt_of_le h2 ?_⟩
      rw [List.length_cons, Int.pow_succ, Int.mul_comm (10 ^ l.length) 10, ← Int.mul_assoc]
      exact Int.mul_le_mul_of_nonneg_right (by omega) (Int.le_of_lt (Int.pow_pos (by omega)))
theorem PerP.num_bd {l : List UInt8} (h : l.length ≤ 4) : -1 ≤ PerP.num l ∧ PerP.num l ≤ 9999 := by
  obtain ⟨h1, h2⟩ := PerP.numF_bd l 0
  refine ⟨h1, ?_⟩
  have h3 : (10 : Int) ^ l.length ≤ 10 ^ 4 := by
    have : (10 : Nat) ^ l.length ≤ 10 ^ 4 := Nat.pow_le_pow_right (by omega) h
    exact_mod_cast this
  have : PerP.num l < 10 ^ 4 := by
    unfold PerP.num
    simp only [Int.natCast_zero, Int.zero_add, Int.one_mul] at h2
    exact Int.lt_of_lt_of_le h2 h3
  omega

theorem sub_data (s : ByteArray) (a m : Nat) : (s.extract a (a + m)).data.toList = (s.data.toList.drop a).take m := by
  rw [extract_list]

set_option maxRecDepth 100000 in
set_option maxHeartbeats 1000000 in
theorem parse_bad (s : ByteArray) (hs : s.size ≠ 7) (w : World) :
    Calls Tryd.prog 18 #[.string s] w fun e w' => e = .returned (V2i (0, 40)) ∧ Below w.heap.size w w' := by
  have q1 : (((s.size : Nat) : Int) != 7) = true := by rw [bne_iff_ne]; omega
  clear hs
  go_enter Tryd.func18, Tryd.ntmps18
  go_wp2
  go_ret2
  exact ⟨rfl, Below.refl _ _⟩

set_option maxRecDepth 100000 in
set_option maxHeartbeats 1000000 in
theorem parse_bad2 (s : ByteArray) (hs : s.size = 7) (b : UInt8) (hb : s[4]? = some b) (h45 : b.toNat ≠ 45) (w : World) :
    Calls Tryd.prog 18 #[.string s] w fun e w' => e = .returned (V2i (0, 40)) ∧ Below w.heap.size w w' := by
  have h4 : 4 < s.size := by omega
  have hb' : s[4] = b := by
    have := getElem?_pos s 4 h4
    rw [this] at hb; exact Option.some.inj hb
  have q1 : (((s.size : Nat) : Int) != 7) = false := by rw [hs]; rfl
  have q2 : ((b.toNat : Int) != 45) = true := by rw [bne_iff_ne]; omega
  clear hs hb h45
  go_enter Tryd.func18, Tryd.ntmps18
  go_wp2
  go_ret2
  exact ⟨rfl, Below.refl _ _⟩

def parseP (y m : Int) : Int × Int := if m < 1 ∨ 12 < m ∨ ¬(0 ≤ (y - 2000) * 12 + m - 1 ∧ (y - 2000) * 12 + m - 1 < 1200) then (0, 40) else ((y - 2000) * 12 + m - 1, 0)

set_option maxRecDepth 100000 in
set_option maxHeartbeats 1000000 in
theorem parse_good (s : ByteArray) (hs : s.size = 7) (hb : s[4]? = some 45) (w : World) :
    Calls Tryd.prog 18 #[.string s] w fun e w' => e = .returned (V2i (parseP (PerP.num (s.data.toList.take 4)) (PerP.num (s.data.toList.drop 5)))) ∧ Below w.heap.size w w' := by
  have h4 : 4 < s.size := by omega
  have hb' : s[4] = 45 := by
    have := getElem?_pos s 4 h4
    rw [this] at hb; exact Option.some.inj hb
  have q1 : (((s.size : Nat) : Int) != 7) = false := by rw [hs]; rfl
  have e1 : (s.extract 0 4).data.toList = s.data.toList.take 4 := by
    have := sub_data s 0 4
    rw [List.drop_zero, Nat.zero_add] at this
    exact this
  have e2 : (s.extract 5 s.size).data.toList = s.data.toList.drop 5 := by
    have := sub_data s 5 2
    rw [show s.size = 5 + 2 by omega, this, List.take_of_length_le (by simp; omega)]
  have N1 := fun w => number_in (s.extract 0 4) (by simp; omega) w
  have N2 := fun w => number_in (s.extract 5 s.size) (by simp; omega) w
  rw [e1] at N1
  rw [e2] at N2
  have by1 := PerP.num_bd (l := s.data.toList.take 4) (by simp; omega)
  have bm1 := PerP.num_bd (l := s.data.toList.drop 5) (by simp; omega)
  obtain ⟨y, hy⟩ : ∃ y, PerP.num (s.data.toList.take 4) = y := ⟨_, rfl⟩
  obtain ⟨m, hm⟩ : ∃ m, PerP.num (s.data.toList.drop 5) = m := ⟨_, rfl⟩
  rw [hy] at by1 N1 ⊢
  rw [hm] at bm1 N2 ⊢
  obtain ⟨by1, by2⟩ := by1
  obtain ⟨bm1, bm2⟩ := bm1
  have b5 : 5 ≤ s.size := by omega
  have HN1 := Lib.hid N1
  have HN2 := Lib.hid N2
  clear hs hb e1 e2 hy hm N1 N2
  obtain ⟨p, hp⟩ : ∃ p, (y - 2000) * 12 + m - 1 = p := ⟨_, rfl⟩
  obtain ⟨R, hR⟩ : ∃ R, parseP y m = R := ⟨_, rfl⟩
  rw [hR]
  unfold parseP at hR
  rw [hp] at hR
  have IS := is_any p
  have hq : m < 1 ∧ R = (0, 40) ∨ ¬ m < 1 ∧ 12 < m ∧ R = (0, 40) ∨ ¬ m < 1 ∧ ¬ 12 < m ∧ decide (0 ≤ p ∧ p < 1200) = false ∧ R = (0, 40) ∨ ¬ m < 1 ∧ ¬ 12 < m ∧ decide (0 ≤ p ∧ p < 1200) = true ∧ R = (p, 0) := by
    by_cases c1 : m < 1
    · left; rw [if_pos (Or.inl c1)] at hR; exact ⟨c1, hR.symm⟩
    · by_cases c2 : 12 < m
      · right; left; rw [if_pos (Or.inr (Or.inl c2))] at hR; exact ⟨c1, c2, hR.symm⟩
      · by_cases c3 : 0 ≤ p ∧ p < 1200
        · right; right; right; rw [if_neg (by omega)] at hR; exact ⟨c1, c2, by simpa using c3, hR.symm⟩
        · right; right; left; rw [if_pos (Or.inr (Or.inr c3))] at hR; exact ⟨c1, c2, by simpa using c3, hR.symm⟩
  clear hR
  rcases hq with ⟨c1, rfl⟩ | ⟨c1, c2, rfl⟩ | ⟨c1, c2, c3, rfl⟩ | ⟨c1, c2, c3, rfl⟩
  · clear IS
    have HP := Lib.hid hp; clear hp
    go_enter Tryd.func18, Tryd.ntmps18
    go_wp2_with fail
    go_quiet ((first | (go_at_call 22; with_reducible exact quiet_same (HN1.out _)) | (go_at_call 22; with_reducible exact quiet_same (HN2.out _))))
    go_wp2_with fail
    go_ret2
    exact ⟨rfl, below_drewN (Below.refl _ _) _⟩
  · clear IS
    have HP := Lib.hid hp; clear hp
    go_enter Tryd.func18, Tryd.ntmps18
    go_wp2_with fail
    go_quiet ((first | (go_at_call 22; with_reducible exact quiet_same (HN1.out _)) | (go_at_call 22; with_reducible exact quiet_same (HN2.out _))))
    go_wp2_with fail
    go_ret2
    exact ⟨rfl, below_drewN (Below.refl _ _) _⟩
  all_goals
    rw [c3] at IS
    clear c3
    have HIS := Lib.hid IS; clear IS
    go_enter Tryd.func18, Tryd.ntmps18
    go_wp2_with fail
    go_quiet ((first | (go_at_call 22; with_reducible exact quiet_same (HN1.out _)) | (go_at_call 22; with_reducible exact quiet_same (HN2.out _))))
    go_wp2_with fail
    refine (HIS.out _).mono ?_
    rintro e w' ⟨rfl, rfl⟩
    go_wp2_with fail
    go_ret2
    exact ⟨rfl, below_drewN (Below.refl _ _) _⟩

theorem parse_any (s : ByteArray) (w : World) :
    Calls Tryd.prog 18 #[.string s] w fun e w' => e = .returned (V2i (PerP.parse s.data.toList)) ∧ Below w.heap.size w w' := by
  have hsl : s.data.toList.length = s.size := by simp
  by_cases hs : s.size = 7
  · have h4 : 4 < s.size := by omega
    have hg : s[4]? = some s[4] := getElem?_pos s 4 h4
    have hgl : s.data.toList.getD 4 0 = s[4] := by
      rw [List.getD_eq_getElem?_getD, List.getElem?_eq_getElem (by omega)]; rfl
    by_cases h45 : s[4] = 45
    · have : PerP.parse s.data.toList = parseP (PerP.num (s.data.toList.take 4)) (PerP.num (s.data.toList.drop 5)) := by
        unfold PerP.parse parseP
        rw [if_neg (by rw [hsl, hgl]; simp [hs, h45])]
      rw [this]
      exact parse_good s hs (by rw [hg, h45]) w
    · have : PerP.parse s.data.toList = (0, 40) := by
        unfold PerP.parse
        rw [if_pos (Or.inr (by rw [hgl]; exact h45))]
      rw [this]
      exact parse_bad2 s hs _ hg (fun h => h45 (UInt8.toNat_inj.1 h)) w
  · have : PerP.parse s.data.toList = (0, 40) := by
      unfold PerP.parse
      rw [if_pos (Or.inl (by rw [hsl]; exact hs))]
    rw [this]
    exact parse_bad s hs w
end Go.Proofs.YtkcdfnngdmnkhaaDoor
