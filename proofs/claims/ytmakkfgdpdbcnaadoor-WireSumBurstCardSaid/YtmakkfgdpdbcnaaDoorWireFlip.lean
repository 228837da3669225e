/- Plain laws: a string with some consecutive bits changed. -/
import Derived.Test.YtmakkfgdpdbcnaaDoorWireCrc
namespace Go.Proofs.YtmakkfgdpdbcnaaDoor.WireP

theorem mul_pow_xor (p q n : Nat) : p * 2 ^ n ^^^ q * 2 ^ n = (p ^^^ q) * 2 ^ n := by
  rw [← Nat.shiftLeft_eq, ← Nat.shiftLeft_eq, ← Nat.shiftLeft_eq, Nat.shiftLeft_xor_distrib]

theorem num_set (v : UInt8) (l : List UInt8) : ∀ (j : Nat) (b : UInt8), l[j]? = some b → num (l.set j (b ^^^ v)) = num l ^^^ v.toNat * 2 ^ (8 * j) := by
  induction l with
  | nil => intro j b h; simp at h
  | cons c l ih =>
    intro j b h
    cases j with
    | zero =>
      simp at h
      subst h
      rw [List.set_cons_zero, num_cons, num_cons, UInt8.toNat_xor, Nat.mul_zero, Nat.pow_zero, Nat.mul_one, Nat.xor_assoc]
    | succ j =>
      rw [List.set_cons_succ, num_cons, num_cons, ih j b (by simpa using h), ← mul_pow_xor, Nat.mul_assoc, ← Nat.pow_add, show 8 * j + 8 = 8 * (j + 1) by omega]
      rw [Nat.xor_assoc, Nat.xor_assoc, Nat.xor_comm c.toNat]

theorem mod_step1 (B i : Nat) (h : B / 2 ^ i % 2 = 1) : B % 2 ^ (i + 1) = B % 2 ^ i ^^^ 2 ^ i := by
  have hb : B.testBit i = true := by rw [Nat.testBit_eq_decide_div_mod_eq]; simp [h]
  apply Nat.eq_of_testBit_eq
  intro j
  rw [Nat.testBit_xor, Nat.testBit_mod_two_pow, Nat.testBit_mod_two_pow, Nat.testBit_two_pow]
  by_cases h1 : j < i
  · simp [h1, show j < i + 1 by omega, show ¬ i = j by omega]
  · by_cases h2 : j = i
    · subst h2; simp [hb]
    · simp [h1, show ¬ j < i + 1 by omega, show ¬ i = j by omega]
theorem mod_step0 (B i : Nat) (h : B / 2 ^ i % 2 ≠ 1) : B % 2 ^ (i + 1) = B % 2 ^ i := by
  have hb : B.testBit i = false := by rw [Nat.testBit_eq_decide_div_mod_eq]; simp; omega
  apply Nat.eq_of_testBit_eq
  intro j
  rw [Nat.testBit_mod_two_pow, Nat.testBit_mod_two_pow]
  by_cases h1 : j < i
  · simp [h1, show j < i + 1 by omega]
  · by_cases h2 : j = i
    · subst h2; simp [hb]
    · simp [h1, show ¬ j < i + 1 by omega]
theorem mod_ne1 (B i : Nat) (h : B / 2 ^ i % 2 = 1) : B % 2 ^ (i + 1) ≠ 0 := by
  have hb : (B % 2 ^ (i + 1)).testBit i = true := by rw [Nat.testBit_mod_two_pow, Nat.testBit_eq_decide_div_mod_eq]; simp [h]
  intro h0
  rw [h0] at hb
  simp at hb

/-- after i steps the bytes are l, first l0 -/
def Flipped (l0 l : List UInt8) (B start i : Nat) : Prop := l.length = l0.length ∧ num l ^^^ num l0 = B % 2 ^ i * 2 ^ start

theorem flipped_start (l0 : List UInt8) (B start : Nat) : Flipped l0 l0 B start 0 := ⟨rfl, by simp [Nat.mod_one]⟩
theorem flipped_skip {l0 l : List UInt8} {B start i : Nat} (h : Flipped l0 l B start i) (hb : B / 2 ^ i % 2 ≠ 1) : Flipped l0 l B start (i + 1) := ⟨h.1, by rw [mod_step0 _ _ hb]; exact h.2⟩
theorem flipped_flip {l0 l : List UInt8} {B start i : Nat} {b v : UInt8} (h : Flipped l0 l B start i) (hb : B / 2 ^ i % 2 = 1) (hl : l[(start + i) / 8]? = some b) (hv : v.toNat = 2 ^ ((start + i) % 8)) :
    Flipped l0 (l.set ((start + i) / 8) (b ^^^ v)) B start (i + 1) := by
  refine ⟨by rw [List.length_set]; exact h.1, ?_⟩
  rw [num_set v l _ b hl, hv, ← Nat.pow_add, show (start + i) % 8 + 8 * ((start + i) / 8) = i + start by omega, mod_step1 _ _ hb, ← mul_pow_xor, ← h.2, ← Nat.pow_add]
  rw [Nat.xor_assoc, Nat.xor_assoc, Nat.xor_comm (num l0)]

theorem flipped_crc {l0 l : List UInt8} {B start i : Nat} (h : Flipped l0 l B start i) (hi : i ≤ 32) (hs : start ≤ 8 * l0.length) : crc l = crc l0 ↔ B % 2 ^ i = 0 := by
  have hn : B % 2 ^ i < 4294967296 := by
    have h1 : B % 2 ^ i < 2 ^ i := Nat.mod_lt _ (Nat.two_pow_pos i)
    have h2 : 2 ^ i ≤ 2 ^ 32 := Nat.pow_le_pow_right (by omega) hi
    have : (2 : Nat) ^ 32 = 4294967296 := by decide
    omega
  exact crc_burst l l0 start _ h.1 (by rw [h.1]; exact hs) hn h.2
end Go.Proofs.YtmakkfgdpdbcnaaDoor.WireP
