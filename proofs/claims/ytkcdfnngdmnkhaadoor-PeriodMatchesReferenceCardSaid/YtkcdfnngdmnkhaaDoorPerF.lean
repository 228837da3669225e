/- number of package period. -/
import Derived.Test.YtkcdfnngdmnkhaaDoorPerE
namespace Go.Proofs.YtkcdfnngdmnkhaaDoor
open Go Go.RowKit

set_option maxRecDepth 100000 in
set_option maxHeartbeats 1000000 in
theorem number_in (s : ByteArray) (hs : s.size ≤ 4) (w : World) :
    Calls Tryd.prog 22 #[.string s] w fun e w' => e = .returned (.int .i64 (PerP.num s.data.toList)) ∧ w = w' := by
  go_enter Tryd.func22, Tryd.ntmps22
  go_wp2_with fail
  go_loop [3, 7] (fun n i => ∃ (k N : Nat), k ≤ s.size ∧ i = .int .i64 k ∧ n = .int .i64 N ∧ N < 10 ^ k ∧ Hid (PerP.numF N (s.data.toList.drop k) = PerP.num s.data.toList)) (fun _ i => s.size - (intOf i).toNat)
  case atStart => exact ⟨0, 0, by omega, rfl, rfl, by simp, Lib.hid (by simp [PerP.num])⟩
  case round =>
    obtain ⟨k, N, hk, rfl, rfl, hN, HN⟩ := hrel
    by_cases hend : k < s.size
    · obtain ⟨b, hb⟩ : ∃ b, s[k] = b := ⟨_, rfl⟩
      have hlt := b.toNat_lt
      have hdrop : s.data.toList.drop k = b :: s.data.toList.drop (k + 1) := by
        rw [List.drop_eq_getElem_cons (by simpa using hend)]
        exact congrArg (· :: _) hb
      have h3 : N < 1000 := by
        have : 10 ^ k ≤ 10 ^ 3 := Nat.pow_le_pow_right (by omega) (by omega)
        omega
      have hst := HN.out
      rw [hdrop, PerP.numF] at hst
      by_cases hbad : b.toNat < 48 ∨ 57 < b.toNat
      · rw [if_pos hbad] at hst
        have H := Lib.hid hst; clear hst hdrop HN hN
        rcases Classical.em (b.toNat < 48) with c1 | c1
        · clear hbad
          go_wp2_with fail
          go_ret
          exact ⟨by rw [← H.out]; rfl, rfl⟩
        · have c2 : 57 < b.toNat := by omega
          clear hbad
          go_wp2_with fail
          go_ret
          exact ⟨by rw [← H.out]; rfl, rfl⟩
      · rw [if_neg hbad] at hst
        have hpow : 10 * N + (b.toNat - 48) < 10 ^ (k + 1) := by rw [Nat.pow_succ]; omega
        have c1 : ¬ b.toNat < 48 := by omega
        have c2 : ¬ 57 < b.toNat := by omega
        have hst2 : PerP.numF ((10 * N + (b.toNat - 48) : Nat) : Int) (s.data.toList.drop (k + 1)) = PerP.num s.data.toList := by
          rw [← hst]; congr 1; omega
        have H := Lib.hid hst2; clear hst hst2 hdrop HN hN hbad
        have HP := Lib.hid hpow; clear hpow
        go_wp2_with fail
        go_round
        case rel => exact ⟨k + 1, 10 * N + (b.toNat - 48), by omega, by go_num, by go_num, HP.out, H⟩
        case measure => simp [intOf]; omega
    · obtain rfl : k = s.size := by omega
      have hst := HN.out
      rw [List.drop_eq_nil_of_le (by simp), PerP.numF] at hst
      have H := Lib.hid hst; clear hst HN hN
      go_wp2_with fail
      go_ret
      exact ⟨by rw [← H.out]; rfl, rfl⟩
end Go.Proofs.YtkcdfnngdmnkhaaDoor
