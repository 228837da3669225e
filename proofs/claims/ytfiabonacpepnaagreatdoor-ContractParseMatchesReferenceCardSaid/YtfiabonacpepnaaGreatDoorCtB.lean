/- Percentages: what is written is what is read. No program in sight. -/
import Derived.Test.YtfiabonacpepnaaGreatDoorCtA
namespace Go.Proofs.YtfiabonacpepnaaGreatDoor
open Go Go.Lib

theorem foldD_bd : ∀ (l : List UInt8) (a : Nat), l.all isDig = true → a * 10 ^ l.length ≤ l.foldl stepD a ∧ l.foldl stepD a < (a + 1) * 10 ^ l.length
  | [], a, _ => by simp
  | b :: r, a, h => by
    simp only [List.all_cons, Bool.and_eq_true] at h
    have hb : 48 ≤ b.toNat ∧ b.toNat ≤ 57 := by have := h.1; unfold isDig at this; simpa using this
    obtain ⟨h1, h2⟩ := foldD_bd r (stepD a b) h.2
    show a * 10 ^ (r.length + 1) ≤ r.foldl stepD (stepD a b) ∧ r.foldl stepD (stepD a b) < (a + 1) * 10 ^ (r.length + 1)
    have hs : a * 10 ≤ stepD a b ∧ stepD a b + 1 ≤ (a + 1) * 10 := by unfold stepD; omega
    have e1 : a * 10 * 10 ^ r.length ≤ stepD a b * 10 ^ r.length := Nat.mul_le_mul_right _ hs.1
    have e2 : (stepD a b + 1) * 10 ^ r.length ≤ (a + 1) * 10 * 10 ^ r.length := Nat.mul_le_mul_right _ hs.2
    rw [Nat.pow_succ, Nat.mul_comm (10 ^ r.length) 10, ← Nat.mul_assoc, ← Nat.mul_assoc]
    omega
theorem dec_ten {k : Nat} (h : 0 < k) (j : Nat) : decDigits (k * 10 ^ j) = decDigits k ++ List.replicate j 48 := by
  induction j with
  | zero => simp
  | succ j ih =>
    have hp : 0 < k * 10 ^ j := Nat.mul_pos h (Nat.pow_pos (by decide))
    rw [Nat.pow_succ, ← Nat.mul_assoc, dec_big (by omega), show k * 10 ^ j * 10 / 10 = k * 10 ^ j by omega, show k * 10 ^ j * 10 % 10 = 0 by omega, ih, List.replicate_succ', List.append_assoc]
    rfl
theorem trim_spec (l : List UInt8) (c : UInt8) : ∃ j, l = trimRightB l c ++ List.replicate j c ∧ (trimRightB l c).getLast? ≠ some c := by
  unfold trimRightB
  obtain ⟨m, hm⟩ : ∃ m, l.reverse = m := ⟨_, rfl⟩
  have hl : l = m.reverse := by rw [← hm, List.reverse_reverse]
  subst hl
  rw [List.reverse_reverse]
  clear hm
  induction m with
  | nil => exact ⟨0, by simp, by simp⟩
  | cons b r ih =>
    by_cases hb : b = c
    · subst hb
      obtain ⟨j, h1, h2⟩ := ih
      rw [List.dropWhile_cons_of_pos (by simp)]
      refine ⟨j + 1, ?_, h2⟩
      rw [List.reverse_cons, List.replicate_succ', ← List.append_assoc, ← h1]
    · rw [List.dropWhile_cons_of_neg (by simpa using hb)]
      exact ⟨0, by simp, by simpa using hb⟩
theorem trim_done {l : List UInt8} {c : UInt8} (j : Nat) (h : l.getLast? ≠ some c) : trimRightB (l ++ List.replicate j c) c = l := by
  unfold trimRightB
  rw [List.reverse_append, List.reverse_replicate]
  have e : ∀ m : List UInt8, m.head? ≠ some c → List.dropWhile (· == c) (List.replicate j c ++ m) = m := by
    intro m hm
    induction j with
    | zero =>
      cases m with
      | nil => rfl
      | cons b r => exact List.dropWhile_cons_of_neg (by simp at hm ⊢; exact hm)
    | succ j ih => rw [List.replicate_succ, List.cons_append, List.dropWhile_cons_of_pos (by simp), ih]
  rw [e _ (by rw [List.head?_reverse]; exact h), List.reverse_reverse]
/-- four digits -/
def pad4 (r : Nat) : List UInt8 := [UInt8.ofNat (48 + r / 1000), UInt8.ofNat (48 + r / 100 % 10), UInt8.ofNat (48 + r / 10 % 10), UInt8.ofNat (48 + r % 10)]
theorem dec_pad {r : Nat} (h : r < 10000) : decDigits (10000 + r) = 49 :: pad4 r := by
  rw [dec_big (by omega), dec_big (by omega), dec_big (by omega), dec_big (by omega), dec_small (by omega)]
  rw [show (10000 + r) / 10 / 10 / 10 / 10 = 1 by omega, show (10000 + r) / 10 / 10 / 10 % 10 = r / 1000 by omega, show (10000 + r) / 10 / 10 % 10 = r / 100 % 10 by omega, show (10000 + r) / 10 % 10 = r / 10 % 10 by omega, show (10000 + r) % 10 = r % 10 by omega]
  rfl
/-- what stands behind the point -/
def fracL (r : Nat) : List UInt8 := trimRightB (pad4 r) 48
def pctL (n : Nat) : List UInt8 := decDigits (n / 10000) ++ (if n % 10000 = 0 then [] else 46 :: fracL (n % 10000)) ++ [37]
theorem frac_spec {r : Nat} (h0 : 0 < r) (h : r < 10000) : ∃ j, 49 :: fracL r ++ List.replicate j 48 = decDigits (10000 + r) ∧ (fracL r).length + j = 4 ∧ (fracL r).getLast? ≠ some 48 ∧ fracL r ≠ [] ∧ (fracL r).all isDig = true := by
  obtain ⟨j, h1, h2⟩ := trim_spec (pad4 r) 48
  have hd := dec_pad h
  have hall := dec_digs (10000 + r)
  have hv := dec_val (10000 + r)
  have hl : (fracL r).length + j = 4 := by
    have := congrArg List.length h1
    rw [List.length_append, List.length_replicate] at this
    exact this.symm
  refine ⟨j, by rw [hd]; show 49 :: (fracL r ++ List.replicate j 48) = _; rw [show fracL r ++ List.replicate j 48 = pad4 r from h1.symm], hl, h2, ?_, ?_⟩
  · intro e
    rw [e] at hl
    have hj : j = 4 := by simpa using hl
    subst hj
    rw [show trimRightB (pad4 r) 48 = fracL r from rfl, e] at h1
    rw [hd, h1] at hv
    have : valD (49 :: ([] ++ List.replicate 4 48)) = 10000 := rfl
    omega
  · rw [hd, h1] at hall
    simp only [List.all_cons, List.all_append, Bool.and_eq_true] at hall
    exact hall.2.1
theorem valD_rep (l : List UInt8) (j : Nat) : valD (l ++ List.replicate j 48) = valD l * 10 ^ j := by
  induction j with
  | zero => simp
  | succ j ih =>
    rw [List.replicate_succ', ← List.append_assoc, valD_snoc, ih, Nat.pow_succ, Nat.mul_assoc]
    rfl

/-- what package contract's percent of a word is: the number and whether it is one -/
def pctV (w : List UInt8) : Int × Bool :=
  let s := trimSuffix w [37]
  let a := (cut s [46]).1
  let p := (cut s [46]).2.1
  if hasSuffix w [37] = true ∧ (digV a).2 = true ∧ (digV a).1 ≤ 100 then
    if (cut s [46]).2.2 = false then (10000 * (digV a).1, true)
    else if (digV (49 :: p)).2 = true ∧ p ≠ [] ∧ p.length ≤ 4 ∧ p.getLast? ≠ some 48 then (10000 * (digV a).1 + (digV (49 :: p)).1 * 10 ^ (4 - p.length) - 10000, true)
    else (0, false)
  else (0, false)
theorem dig_no {c : UInt8} {l : List UInt8} (h : l.all isDig = true) (hc : isDig c = false) : c ∉ l := by
  intro hm
  rw [List.all_eq_true.1 h c hm] at hc
  cases hc
theorem suffix_one (s : List UInt8) (c : UInt8) : hasSuffix (s ++ [c]) [c] = true ∧ trimSuffix (s ++ [c]) [c] = s := by
  have h : hasSuffix (s ++ [c]) [c] = true := by unfold hasSuffix; rw [List.isSuffixOf_iff_suffix]; exact ⟨s, rfl⟩
  refine ⟨h, ?_⟩
  unfold trimSuffix
  rw [if_pos h]
  simp
theorem suffix_inv {w : List UInt8} {c : UInt8} (h : hasSuffix w [c] = true) : w = trimSuffix w [c] ++ [c] := by
  have h2 := h
  unfold hasSuffix at h2
  rw [List.isSuffixOf_iff_suffix] at h2
  obtain ⟨s, rfl⟩ := h2
  rw [(suffix_one s c).2]
theorem cut_app {c : UInt8} (x s : List UInt8) (h : c ∉ x) : cut (x ++ c :: s) [c] = (x, s, true) := by
  rw [cut_one, if_pos (by simp), split_app x s h]
  simp [join_split]
theorem cut_no {c : UInt8} {x : List UInt8} (h : c ∉ x) : cut x [c] = (x, [], false) := by rw [cut_one, if_neg h]
theorem cut_inv {c : UInt8} {s : List UInt8} : ((cut s [c]).2.2 = true ∧ s = (cut s [c]).1 ++ c :: (cut s [c]).2.1) ∨ ((cut s [c]).2.2 = false ∧ (cut s [c]).1 = s ∧ (cut s [c]).2.1 = []) := by
  rw [cut_one]
  by_cases h : c ∈ s
  · left
    rw [if_pos h]
    refine ⟨rfl, ?_⟩
    have hj := join_split c s
    cases hs : splitL c s with
    | nil => exact absurd hs (splitL_ne c s)
    | cons x r =>
      rw [hs] at hj
      cases r with
      | nil =>
        rw [join_one] at hj
        subst hj
        exact absurd h (split_mem (l := x) (by rw [hs]; simp))
      | cons y r =>
        rw [join2] at hj
        exact hj.symm
  · right; rw [if_neg h]; exact ⟨rfl, rfl, rfl⟩
theorem pctV_sound {w : List UInt8} {n : Int} (h : pctV w = (n, true)) : ∃ k : Nat, n = k ∧ k < 1010000 ∧ w = pctL k := by
  unfold pctV at h
  simp only at h
  split at h
  · rename_i h1
    obtain ⟨hs, ha, ha2⟩ := h1
    have hw := suffix_inv hs
    obtain ⟨s, hss⟩ : ∃ s, trimSuffix w [37] = s := ⟨_, rfl⟩
    rw [hss] at h ha ha2 hw
    obtain ⟨x, p, b, hc⟩ : ∃ x p b, cut s [46] = (x, p, b) := ⟨_, _, _, rfl⟩
    have hci := cut_inv (c := 46) (s := s)
    rw [hc] at h ha ha2 hci
    simp only at h ha ha2 hci
    obtain ⟨kx, hkx, _, hx⟩ := digV_sound (show digV x = ((digV x).1, true) by rw [← ha])
    rw [hkx] at h ha2
    rcases hci with ⟨rfl, hsx⟩ | ⟨rfl, hsx, _⟩
    · rw [if_neg (by simp)] at h
      split at h
      · rename_i h2
        obtain ⟨hd, hp0, hp4, hpl⟩ := h2
        obtain ⟨k, hk, _, hk2⟩ := digV_sound (show digV (49 :: p) = ((digV (49 :: p)).1, true) by rw [← hd])
        rw [hk] at h
        simp only [Prod.mk.injEq, and_true] at h
        have hv : valD (49 :: p) = k := by rw [hk2, dec_val]
        have hall : p.all isDig = true := by
          have := dec_digs k
          rw [← hk2] at this
          simp only [List.all_cons, Bool.and_eq_true] at this
          exact this.2
        have hbd := foldD_bd p 1 hall
        rw [show p.foldl stepD 1 = valD (49 :: p) from rfl, hv] at hbd
        obtain ⟨j, hj⟩ : ∃ j, 4 - p.length = j := ⟨_, rfl⟩
        have hpow : 10 ^ p.length * 10 ^ j = 10000 := by rw [← Nat.pow_add, show p.length + j = 4 by omega]
        have hlo : 10000 ≤ k * 10 ^ j := by
          have := Nat.mul_le_mul_right (10 ^ j) hbd.1
          rw [Nat.one_mul, hpow] at this; exact this
        have hhi : k * 10 ^ j < 20000 := by
          have h3 : k * 10 ^ j < (1 + 1) * 10 ^ p.length * 10 ^ j := Nat.mul_lt_mul_of_pos_right hbd.2 (Nat.pow_pos (by decide))
          rw [Nat.mul_assoc, hpow] at h3; exact h3
        have hpos : 0 < k := by
          rcases Nat.eq_zero_or_pos k with e | e
          · subst e; simp at hlo
          · exact e
        have hdt := dec_ten hpos j
        rw [← hk2] at hdt
        rw [hj] at h
        have hcast : ((k : Int) * 10 ^ j) = ((k * 10 ^ j : Nat) : Int) := by simp
        rw [hcast] at h
        obtain ⟨r, hr⟩ : ∃ r, k * 10 ^ j = 10000 + r := ⟨k * 10 ^ j - 10000, by omega⟩
        rw [hr] at h hlo hhi hdt
        have hpad := dec_pad (r := r) (by omega)
        rw [hdt] at hpad
        simp only [List.cons_append, List.cons.injEq, true_and] at hpad
        have hfr : fracL r = p := by
          unfold fracL
          rw [← hpad]
          exact trim_done j hpl
        have hr0 : r ≠ 0 := by
          intro e
          subst e
          have e2 : fracL 0 = [] := by decide
          rw [e2] at hfr
          exact hp0 hfr.symm
        refine ⟨10000 * kx + r, by omega, by omega, ?_⟩
        unfold pctL
        rw [show (10000 * kx + r) / 10000 = kx by omega, show (10000 * kx + r) % 10000 = r by omega, if_neg hr0, hfr, ← hx, hw, hsx]
      · simp at h
    · rw [if_pos rfl] at h
      simp only [Prod.mk.injEq, and_true] at h
      refine ⟨10000 * kx, by omega, by omega, ?_⟩
      unfold pctL
      rw [show 10000 * kx / 10000 = kx by omega, show 10000 * kx % 10000 = 0 by omega, if_pos rfl, ← hx, hw, ← hsx, List.append_nil]
  · simp at h
theorem pctV_pct {k : Nat} (h : k < 1010000) : pctV (pctL k) = ((k : Int), true) := by
  have hs := suffix_one (decDigits (k / 10000) ++ (if k % 10000 = 0 then [] else 46 :: fracL (k % 10000))) 37
  have hno : (46 : UInt8) ∉ decDigits (k / 10000) := dig_no (dec_digs _) (by decide)
  have hd := digV_dec (k := k / 10000) (by omega)
  unfold pctV
  simp only
  rw [show pctL k = decDigits (k / 10000) ++ (if k % 10000 = 0 then [] else 46 :: fracL (k % 10000)) ++ [37] from rfl, hs.1, hs.2]
  by_cases h0 : k % 10000 = 0
  · rw [if_pos h0, List.append_nil, cut_no hno, hd]
    simp only
    rw [if_pos ⟨trivial, trivial, by omega⟩]
    simp
    omega
  · rw [if_neg h0, cut_app _ _ hno, hd]
    simp only
    rw [if_pos ⟨trivial, trivial, by omega⟩]
    rw [if_neg (by simp)]
    obtain ⟨j, h1, h2, h3, h4, h5⟩ := frac_spec (r := k % 10000) (by omega) (by omega)
    have hv := dec_val (10000 + k % 10000)
    rw [← h1, valD_rep] at hv
    have hpl : plainD (49 :: fracL (k % 10000)) = true := by
      unfold plainD
      simp only [List.all_cons, h5]
      rfl
    have hdec := dec_of_plain _ hpl
    obtain ⟨v, hvv⟩ : ∃ v, valD (49 :: fracL (k % 10000)) = v := ⟨_, rfl⟩
    rw [hvv] at hv hdec
    have hle : v ≤ v * 10 ^ j := Nat.le_mul_of_pos_right _ (Nat.pow_pos (by decide))
    have hdv := digV_dec (k := v) (by omega)
    rw [hdec] at hdv
    rw [hdv]
    simp only
    rw [if_pos ⟨trivial, h4, by omega, h3⟩, show 4 - (fracL (k % 10000)).length = j by omega]
    have hcast : ((v : Int) * 10 ^ j) = ((v * 10 ^ j : Nat) : Int) := by simp
    rw [hcast, hv]
    simp only [Prod.mk.injEq, and_true]
    omega
theorem pctV_bd (w : List UInt8) : 0 ≤ (pctV w).1 ∧ (pctV w).1 ≤ 1010000 := by
  cases hb : (pctV w).2 with
  | true =>
    obtain ⟨k, h1, h2, _⟩ := pctV_sound (show pctV w = ((pctV w).1, true) by rw [← hb])
    omega
  | false =>
    have : (pctV w).1 = 0 := by
      unfold pctV at hb ⊢
      simp only at hb ⊢
      split
      · rename_i h1
        rw [if_pos h1] at hb
        split
        · rename_i h2
          rw [if_pos h2] at hb; cases hb
        · rename_i h2
          rw [if_neg h2] at hb
          split
          · rename_i h3; rw [if_pos h3] at hb; cases hb
          · rfl
      · rfl
    omega
end Go.Proofs.YtfiabonacpepnaaGreatDoor
