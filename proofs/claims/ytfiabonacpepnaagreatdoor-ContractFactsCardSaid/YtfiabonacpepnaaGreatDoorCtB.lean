/- Percentages: what is written is what is read. No program in sight. -/
import Derived.Lib.ItoaNum
import Derived.Lib.AtoiAll
import Derived.Lib.SplitLaws
import Derived.Lib.TrimByte
import Derived.Lib.Join
namespace Go.Proofs.YtfiabonacpepnaaGreatDoor
open Go Go.Lib

def isDig (b : UInt8) : Bool := decide (48 ≤ b.toNat) && decide (b.toNat ≤ 57)
def stepD (a : Nat) (b : UInt8) : Nat := a * 10 + (b.toNat - 48)
def valD (l : List UInt8) : Nat := l.foldl stepD 0
theorem valD_snoc (l : List UInt8) (b : UInt8) : valD (l ++ [b]) = valD l * 10 + (b.toNat - 48) := by
  unfold valD; rw [List.foldl_append]; rfl
theorem ofNat_toNat (b : UInt8) : UInt8.ofNat b.toNat = b := by simp
theorem dig_ofNat {d : Nat} (h : d < 10) : isDig (UInt8.ofNat (48 + d)) = true ∧ (UInt8.ofNat (48 + d)).toNat = 48 + d := by
  have e : (UInt8.ofNat (48 + d)).toNat = 48 + d := by simp; omega
  exact ⟨by unfold isDig; rw [e]; simp; omega, e⟩
theorem dec_small {u : Nat} (h : u < 10) : decDigits u = [UInt8.ofNat (48 + u)] := by rw [decDigits, dif_pos h]
theorem dec_big {u : Nat} (h : ¬ u < 10) : decDigits u = decDigits (u / 10) ++ [UInt8.ofNat (48 + u % 10)] := by rw [decDigits, dif_neg h]
theorem dec_digs (u : Nat) : (decDigits u).all isDig = true := by
  induction u using Nat.strongRecOn with
  | _ u ih =>
    by_cases h : u < 10
    · rw [dec_small h, List.all_cons, (dig_ofNat h).1]; rfl
    · rw [dec_big h, List.all_append, ih (u / 10) (by omega), List.all_cons, (dig_ofNat (d := u % 10) (by omega)).1]; rfl
theorem dec_val (u : Nat) : valD (decDigits u) = u := by
  induction u using Nat.strongRecOn with
  | _ u ih =>
    by_cases h : u < 10
    · rw [dec_small h]
      show 0 * 10 + ((UInt8.ofNat (48 + u)).toNat - 48) = u
      rw [(dig_ofNat h).2]; omega
    · rw [dec_big h, valD_snoc, ih (u / 10) (by omega), (dig_ofNat (d := u % 10) (by omega)).2]; omega
theorem dec_ne (u : Nat) : decDigits u ≠ [] := by
  by_cases h : u < 10
  · rw [dec_small h]; simp
  · rw [dec_big h]; simp
theorem head_app {l : List UInt8} (h : l ≠ []) (r : List UInt8) : (l ++ r).head? = l.head? := by
  cases l with
  | nil => exact absurd rfl h
  | cons a t => rfl
theorem dec_head (u : Nat) : decDigits u = [48] ∨ (decDigits u).head? ≠ some 48 := by
  induction u using Nat.strongRecOn with
  | _ u ih =>
    by_cases h : u < 10
    · rw [dec_small h]
      by_cases h0 : u = 0
      · subst h0; exact .inl rfl
      · right
        intro e
        have e2 : UInt8.ofNat (48 + u) = 48 := by simpa using e
        have := (dig_ofNat h).2
        rw [e2] at this
        simp at this
        omega
    · right
      rw [dec_big h, head_app (dec_ne _)]
      rcases ih (u / 10) (by omega) with e | e
      · exfalso
        have := dec_val (u / 10)
        rw [e] at this
        have h2 : valD [48] = 0 := rfl
        omega
      · exact e
/-- digits without leading zeros are the digits of their value -/
def plainD (l : List UInt8) : Bool := l.all isDig && !l.isEmpty && (l == [48] || !(l.head? == some 48))
theorem plainD_dec (u : Nat) : plainD (decDigits u) = true := by
  unfold plainD
  rw [dec_digs]
  have h := dec_head u
  have h2 := dec_ne u
  simp only [Bool.true_and, Bool.and_eq_true, Bool.or_eq_true, beq_iff_eq, Bool.not_eq_true', List.isEmpty_eq_false_iff, beq_eq_false_iff_ne]
  exact ⟨h2, h⟩
theorem dec_of_plain (l : List UInt8) (h : plainD l = true) : decDigits (valD l) = l := by
  obtain ⟨n, hn⟩ : ∃ n, l.length = n := ⟨_, rfl⟩
  induction n generalizing l with
  | zero =>
    rw [List.length_eq_zero_iff.1 hn] at h
    cases h
  | succ n ih =>
    obtain ⟨l', b, rfl⟩ : ∃ l' b, l = l' ++ [b] := by
      exact ⟨l.dropLast, l.getLast (by intro e; rw [e] at hn; cases hn), (List.dropLast_concat_getLast _).symm⟩
    unfold plainD at h
    simp only [List.all_append, List.all_cons, List.all_nil, Bool.and_true, Bool.and_eq_true, Bool.or_eq_true, beq_iff_eq, Bool.not_eq_true', beq_eq_false_iff_ne] at h
    obtain ⟨⟨⟨h1, h2⟩, _⟩, h3⟩ := h
    have hb : 48 ≤ b.toNat ∧ b.toNat ≤ 57 := by unfold isDig at h2; simpa using h2
    rw [valD_snoc]
    by_cases hl : l' = []
    · subst hl
      show decDigits (0 * 10 + (b.toNat - 48)) = [b]
      rw [show 0 * 10 + (b.toNat - 48) = b.toNat - 48 by omega, dec_small (by omega), show 48 + (b.toNat - 48) = b.toNat by omega, ofNat_toNat]
    · have hh : l'.head? ≠ some 48 := by
        rcases h3 with e | e
        · exfalso
          have := congrArg List.length e
          simp at this
          exact hl this
        · rw [head_app hl] at e; exact e
      have hp : plainD l' = true := by
        unfold plainD
        simp only [Bool.and_eq_true, Bool.or_eq_true, beq_iff_eq, Bool.not_eq_true', List.isEmpty_eq_false_iff, beq_eq_false_iff_ne]
        exact ⟨⟨h1, hl⟩, .inr hh⟩
      have hd := ih l' hp (by rw [List.length_append] at hn; simpa using hn)
      have hv : 1 ≤ valD l' := by
        rcases Nat.eq_zero_or_pos (valD l') with e | e
        · exfalso
          rw [e, dec_small (by omega)] at hd
          rw [← hd] at hh
          exact hh rfl
        · exact e
      rw [dec_big (by omega), show (valD l' * 10 + (b.toNat - 48)) / 10 = valD l' by omega, hd, show 48 + (valD l' * 10 + (b.toNat - 48)) % 10 = b.toNat by omega, ofNat_toNat]
theorem foldD_le (l : List UInt8) (a : Nat) : a ≤ l.foldl stepD a := by
  induction l generalizing a with
  | nil => exact Nat.le_refl _
  | cons b r ih => exact Nat.le_trans (by unfold stepD; omega) (ih _)
/-- strconv's number of digits alone -/
theorem parse10 (l : List UInt8) (h : l.all isDig = true) (a : Nat) (ha : a < 18446744073709551616) :
    parseUint10 a l = if l.foldl stepD a < 18446744073709551616 then .ok (l.foldl stepD a) else .range := by
  induction l generalizing a with
  | nil => simp [parseUint10, ha]
  | cons b r ih =>
    simp only [List.all_cons, Bool.and_eq_true] at h
    have hb : 48 ≤ b.toNat ∧ b.toNat ≤ 57 := by have := h.1; unfold isDig at this; simpa using this
    have e : (b :: r).foldl stepD a = r.foldl stepD (stepD a b) := rfl
    have hle := foldD_le r (stepD a b)
    rw [e]
    simp only [parseUint10]
    rw [if_pos hb]
    by_cases h1 : 1844674407370955162 ≤ a
    · rw [if_pos h1, if_neg (by unfold stepD at hle ⊢; omega)]
    · rw [if_neg h1]
      by_cases h2 : 18446744073709551616 ≤ a * 10 + (b.toNat - 48)
      · rw [if_pos h2, if_neg (by unfold stepD at hle ⊢; omega)]
      · rw [if_neg h2]
        exact ih h.2 (stepD a b) (by unfold stepD; omega)
theorem atoi_digs (l : List UInt8) (h : l.all isDig = true) (hne : l ≠ []) :
    atoiAll l = if valD l < 9223372036854775808 then .ok (valD l : Int) else .range := by
  cases l with
  | nil => exact absurd rfl hne
  | cons b r =>
    have hb : 48 ≤ b.toNat ∧ b.toNat ≤ 57 := by
      simp only [List.all_cons, Bool.and_eq_true] at h
      have := h.1; unfold isDig at this; simpa using this
    have e : parseMag (b :: r) = if valD (b :: r) < 18446744073709551616 then .ok (valD (b :: r)) else .range := by
      unfold parseMag
      rw [if_neg (by simp), parse10 _ h 0 (by omega)]
      rfl
    unfold atoiAll
    simp only
    rw [if_neg (by omega), e]
    by_cases h1 : valD (b :: r) < 18446744073709551616
    · rw [if_pos h1]
      simp only
      by_cases h2 : valD (b :: r) < 9223372036854775808
      · rw [if_neg (by omega), if_neg (by omega), if_pos h2, if_neg (by omega)]
      · rw [if_pos (by omega), if_neg h2]
    · rw [if_neg h1, if_neg (by omega)]
/-- what package contract's digits returns -/
def digV (l : List UInt8) : Int × Bool :=
  if l.all isDig = true ∧ l ≠ [] then
    if valD l < 9223372036854775808 then ((valD l : Int), l == [48] || !(l.head? == some 48)) else (9223372036854775807, false)
  else (0, false)
theorem digV_sound {l : List UInt8} {n : Int} (h : digV l = (n, true)) : ∃ k : Nat, n = k ∧ k < 9223372036854775808 ∧ l = decDigits k := by
  unfold digV at h
  split at h
  · rename_i h1
    split at h
    · rename_i h2
      simp only [Prod.mk.injEq] at h
      refine ⟨valD l, h.1.symm, h2, (dec_of_plain l ?_).symm⟩
      unfold plainD
      rw [h1.1, h.2]
      simp [h1.2]
    · simp at h
  · simp at h
theorem digV_dec {k : Nat} (h : k < 9223372036854775808) : digV (decDigits k) = ((k : Int), true) := by
  unfold digV
  rw [if_pos ⟨dec_digs k, dec_ne k⟩, dec_val, if_pos h]
  have h2 := plainD_dec k
  unfold plainD at h2
  simp only [Bool.and_eq_true] at h2
  rw [h2.2]
theorem digV_bd (l : List UInt8) : 0 ≤ (digV l).1 ∧ (digV l).1 ≤ 9223372036854775807 := by
  unfold digV
  split
  · split
    · exact ⟨by simp, by simp; omega⟩
    · simp
  · simp

/-! the divisions of a text -/
def splitL (c : UInt8) : List UInt8 → List (List UInt8)
  | [] => [[]]
  | b :: l => if b = c then [] :: splitL c l else match splitL c l with
    | [] => [[b]]
    | x :: r => (b :: x) :: r
theorem splitL_ne (c : UInt8) (l : List UInt8) : splitL c l ≠ [] := by
  cases l with
  | nil => simp [splitL]
  | cons b l =>
    unfold splitL
    split
    · simp
    · split <;> simp
theorem join2 (x y : List UInt8) (r : List (List UInt8)) (c : UInt8) : join (x :: y :: r) [c] = x ++ c :: join (y :: r) [c] := by
  rw [join_cons, join_cons]
  simp [joinTail]
theorem join_split (c : UInt8) (l : List UInt8) : join (splitL c l) [c] = l := by
  induction l with
  | nil => simp [splitL, join_one]
  | cons b l ih =>
    obtain ⟨x, r, hx⟩ : ∃ x r, splitL c l = x :: r := by
      cases h : splitL c l with
      | nil => exact absurd h (splitL_ne c l)
      | cons x r => exact ⟨x, r, rfl⟩
    unfold splitL
    by_cases hb : b = c
    · subst hb
      rw [if_pos rfl, hx, join2, ← hx, ih]
      rfl
    · rw [if_neg hb, hx]
      simp only
      rw [hx] at ih
      rw [← ih]
      cases r with
      | nil => simp [join_one]
      | cons y r => rw [join2, join2]; rfl
theorem split_word {c : UInt8} {x : List UInt8} (h : c ∉ x) : splitL c x = [x] := by
  induction x with
  | nil => rfl
  | cons b l ih =>
    simp only [List.mem_cons, not_or] at h
    unfold splitL
    rw [if_neg (fun e => h.1 e.symm), ih h.2]
theorem split_app {c : UInt8} (x s : List UInt8) (h : c ∉ x) : splitL c (x ++ c :: s) = x :: splitL c s := by
  induction x with
  | nil => rw [List.nil_append, splitL, if_pos rfl]
  | cons b l ih =>
    simp only [List.mem_cons, not_or] at h
    rw [List.cons_append, splitL, if_neg (fun e => h.1 e.symm), ih h.2]
theorem split_join {c : UInt8} : ∀ (ws : List (List UInt8)), ws ≠ [] → (∀ x ∈ ws, c ∉ x) → splitL c (join ws [c]) = ws
  | [], h, _ => absurd rfl h
  | [x], _, h => by rw [join_one]; exact split_word (h x (by simp))
  | x :: y :: r, _, h => by
    rw [join2, split_app x _ (h x (by simp)), split_join (y :: r) (by simp) (fun z hz => h z (by simp [hz]))]
theorem split_mem {c : UInt8} : ∀ {l : List UInt8} {x : List UInt8}, x ∈ splitL c l → c ∉ x
  | [], x, h => by simp [splitL] at h; subst h; simp
  | b :: l, x, h => by
    unfold splitL at h
    split at h
    · rcases List.mem_cons.1 h with e | e
      · subst e; simp
      · exact split_mem e
    · rename_i hb
      split at h
      · rename_i e; exact absurd e (splitL_ne c l)
      · rename_i y r e
        rcases List.mem_cons.1 h with e2 | e2
        · subst e2
          have := split_mem (c := c) (l := l) (x := y) (by rw [e]; simp)
          simp only [List.mem_cons, not_or]
          exact ⟨fun e => hb e.symm, this⟩
        · exact split_mem (c := c) (l := l) (by rw [e]; simp [e2])
/-- a text of two parts, with a separator between them -/
theorem split_two (c : UInt8) (s t : List UInt8) : splitL c (s ++ c :: t) = splitL c s ++ splitL c t := by
  induction s with
  | nil => rw [List.nil_append, splitL.eq_2, if_pos rfl]; rfl
  | cons b l ih =>
    rw [List.cons_append]
    rw [splitL.eq_2, splitL.eq_2 c b l]
    by_cases hb : b = c
    · rw [if_pos hb, if_pos hb, ih]; rfl
    · rw [if_neg hb, if_neg hb, ih]
      cases h : splitL c l with
      | nil => exact absurd h (splitL_ne c l)
      | cons x r => rfl
theorem index_one_cons (c b : UInt8) (l : List UInt8) : index (b :: l) [c] = if c = b then 0 else if index l [c] = -1 then -1 else index l [c] + 1 := by
  rw [index.eq_2]
  by_cases h : c = b
  · subst h; rw [if_pos rfl, if_pos (by simp [List.isPrefixOf])]
  · have : ([c].isPrefixOf (b :: l)) = false := by
      show ((c == b) && ([] : List UInt8).isPrefixOf l) = false
      rw [beq_eq_false_iff_ne.2 h]; rfl
    rw [this, if_neg h, if_neg (by decide)]
    by_cases hm : index l [c] = -1
    · rw [if_pos hm, if_pos (by simpa using hm)]
    · rw [if_neg hm, if_neg (by simpa using hm)]
theorem splitK_one (c : UInt8) (s : List UInt8) : splitK [c] 0 (count s [c]) s = splitL c s := by
  induction s with
  | nil => rw [count_one]; rfl
  | cons b l ih =>
    rw [count_one] at ih ⊢
    by_cases h : b = c
    · subst h
      have hi : index (b :: l) [b] = 0 := by rw [index_one_cons, if_pos rfl]
      rw [List.count_cons_self, splitK, if_neg (by rw [hi]; decide), hi, splitL, if_pos rfl]
      simp
      exact ih
    · rw [List.count_cons_of_ne (fun e => h e)]
      rw [splitL, if_neg h]
      rw [← ih]
      have hi := index_one_cons c b l
      rw [if_neg (fun e => h e.symm)] at hi
      cases hk : l.count c with
      | zero => rfl
      | succ k =>
        unfold splitK
        by_cases hm : index l [c] = -1
        · rw [if_pos hm] at hi
          rw [hi, hm]; simp
        · rw [if_neg hm] at hi
          have hge := index_ge l [c]
          rw [if_neg (by rw [hi]; simp; omega), if_neg (by simpa using hm), hi]
          have e : (index l [c] + 1).toNat = (index l [c]).toNat + 1 := by omega
          rw [e]
          simp only [Nat.add_zero, List.take_succ_cons, List.length_cons, List.length_nil, Nat.zero_add]
          rfl
theorem splitB_one (c : UInt8) (s : ByteArray) : (splitB ⟨#[c]⟩ 0 (countB s ⟨#[c]⟩) s).map (·.data.toList) = splitL c s.data.toList := by
  rw [splitB_data]
  exact splitK_one c s.data.toList
theorem cut_one (c : UInt8) (s : List UInt8) : cut s [c] = if c ∈ s then ((splitL c s).headD [], join ((splitL c s).drop 1) [c], true) else (s, [], false) := by
  induction s with
  | nil => rfl
  | cons b l ih =>
    have hi := index_one_cons c b l
    by_cases h : c = b
    · subst h
      rw [if_pos rfl] at hi
      unfold cut
      rw [hi, if_pos (by decide), if_pos (by simp), splitL, if_pos rfl]
      simp [join_split]
    · rw [if_neg h] at hi
      have hge := index_ge l [c]
      by_cases hm : index l [c] = -1
      · rw [if_pos hm] at hi
        have hml : c ∉ l := by
          unfold cut at ih
          rw [hm, if_neg (by decide)] at ih
          intro hc
          rw [if_pos hc] at ih
          simp at ih
        unfold cut
        rw [hi, if_neg (by decide), if_neg (by simp [h, hml])]
      · rw [if_neg hm] at hi
        have hml : c ∈ l := by
          by_cases hc : c ∈ l
          · exact hc
          · exfalso
            unfold cut at ih
            rw [if_neg hc, if_pos (by omega)] at ih
            simp at ih
        unfold cut at ih ⊢
        rw [if_pos (by omega), if_pos hml] at ih
        rw [hi, if_pos (by omega), if_pos (by simp [hml]), splitL, if_neg (fun e => h e.symm)]
        have e : (index l [c] + 1).toNat = (index l [c]).toNat + 1 := by omega
        rw [e]
        simp only [Prod.mk.injEq, and_true] at ih
        cases hs : splitL c l with
        | nil => exact absurd hs (splitL_ne c l)
        | cons x r =>
          rw [hs] at ih
          simp only [List.headD_cons, List.drop_succ_cons, List.drop_zero] at ih
          simp only [List.take_succ_cons, List.headD_cons, List.drop_succ_cons, List.drop_zero, Prod.mk.injEq, and_true]
          refine ⟨by rw [ih.1], ?_⟩
          rw [show (index l [c]).toNat + 1 + [c].length = ((index l [c]).toNat + [c].length) + 1 by simp, List.drop_succ_cons]
          exact ih.2
end Go.Proofs.YtfiabonacpepnaaGreatDoor
namespace Go.Proofs.YtfiabonacpepnaaGreatDoor
open Go Go.Lib

theorem foldD_bd : ∀ (l : List UInt8) (a : Nat), l.all isDig = true → a * 10 ^ l.length ≤ l.foldl stepD a ∧ l.foldl stepD a < (a + 1) * 10 ^ l.length
  | [], a, _ => by simp
  | b :: r, a, h => by
    simp only [List.all_cons, Bool.and_eq_true] at h
    have hb : 48 ≤ b.toNat ∧ b.toNat ≤ 57 := by have := h.1; unfold isDig at this; simpa using this
    obtain ⟨h1, h2⟩ := foldD_bd r (stepD a b) h.2
    show a * 10 ^ (r.length + 1) ≤ r.foldl stepD (stepD a b) ∧ r.foldl stepD (stepD a b) < (a + 1) * 10 ^ (r.length + 1)
    have hs : a * 10 ≤ stepD a b ∧ stepD a b + 1 ≤ (a + 1) * 10 := by unfold stepD; omega
    have e1 : a * 10 * 10 ^ r.length ≤ stepD a b * 10 ^ r.length := Nat.mul_le_mul_right _ hs.1
    have e2 : (stepD a b + 1) * 10 ^ r.length ≤ (a + 1) * 10 * 10 ^ r.length := Nat.mul_le_mul_right _ hs.2
    rw [Nat.pow_succ, Nat.mul_comm (10 ^ r.length) 10, ← Nat.mul_assoc, ← Nat.mul_assoc]
    omega
theorem dec_ten {k : Nat} (h : 0 < k) (j : Nat) : decDigits (k * 10 ^ j) = decDigits k ++ List.replicate j 48 := by
  induction j with
  | zero => simp
  | succ j ih =>
    have hp : 0 < k * 10 ^ j := Nat.mul_pos h (Nat.pow_pos (by decide))
    rw [Nat.pow_succ, ← Nat.mul_assoc, dec_big (by omega), show k * 10 ^ j * 10 / 10 = k * 10 ^ j by omega, show k * 10 ^ j * 10 % 10 = 0 by omega, ih, List.replicate_succ', List.append_assoc]
    rfl
theorem trim_spec (l : List UInt8) (c : UInt8) : ∃ j, l = trimRightB l c ++ List.replicate j c ∧ (trimRightB l c).getLast? ≠ some c := by
  unfold trimRightB
  obtain ⟨m, hm⟩ : ∃ m, l.reverse = m := ⟨_, rfl⟩
  have hl : l = m.reverse := by rw [← hm, List.reverse_reverse]
  subst hl
  rw [List.reverse_reverse]
  clear hm
  induction m with
  | nil => exact ⟨0, by simp, by simp⟩
  | cons b r ih =>
    by_cases hb : b = c
    · subst hb
      obtain ⟨j, h1, h2⟩ := ih
      rw [List.dropWhile_cons_of_pos (by simp)]
      refine ⟨j + 1, ?_, h2⟩
      rw [List.reverse_cons, List.replicate_succ', ← List.append_assoc, ← h1]
    · rw [List.dropWhile_cons_of_neg (by simpa using hb)]
      exact ⟨0, by simp, by simpa using hb⟩
theorem trim_done {l : List UInt8} {c : UInt8} (j : Nat) (h : l.getLast? ≠ some c) : trimRightB (l ++ List.replicate j c) c = l := by
  unfold trimRightB
  rw [List.reverse_append, List.reverse_replicate]
  have e : ∀ m : List UInt8, m.head? ≠ some c → List.dropWhile (· == c) (List.replicate j c ++ m) = m := by
    intro m hm
    induction j with
    | zero =>
      cases m with
      | nil => rfl
      | cons b r => exact List.dropWhile_cons_of_neg (by simp at hm ⊢; exact hm)
    | succ j ih => rw [List.replicate_succ, List.cons_append, List.dropWhile_cons_of_pos (by simp), ih]
  rw [e _ (by rw [List.head?_reverse]; exact h), List.reverse_reverse]
/-- four digits -/
def pad4 (r : Nat) : List UInt8 := [UInt8.ofNat (48 + r / 1000), UInt8.ofNat (48 + r / 100 % 10), UInt8.ofNat (48 + r / 10 % 10), UInt8.ofNat (48 + r % 10)]
theorem dec_pad {r : Nat} (h : r < 10000) : decDigits (10000 + r) = 49 :: pad4 r := by
  rw [dec_big (by omega), dec_big (by omega), dec_big (by omega), dec_big (by omega), dec_small (by omega)]
  rw [show (10000 + r) / 10 / 10 / 10 / 10 = 1 by omega, show (10000 + r) / 10 / 10 / 10 % 10 = r / 1000 by omega, show (10000 + r) / 10 / 10 % 10 = r / 100 % 10 by omega, show (10000 + r) / 10 % 10 = r / 10 % 10 by omega, show (10000 + r) % 10 = r % 10 by omega]
  rfl
/-- what stands behind the point -/
def fracL (r : Nat) : List UInt8 := trimRightB (pad4 r) 48
def pctL (n : Nat) : List UInt8 := decDigits (n / 10000) ++ (if n % 10000 = 0 then [] else 46 :: fracL (n % 10000)) ++ [37]
theorem frac_spec {r : Nat} (h0 : 0 < r) (h : r < 10000) : ∃ j, 49 :: fracL r ++ List.replicate j 48 = decDigits (10000 + r) ∧ (fracL r).length + j = 4 ∧ (fracL r).getLast? ≠ some 48 ∧ fracL r ≠ [] ∧ (fracL r).all isDig = true := by
  obtain ⟨j, h1, h2⟩ := trim_spec (pad4 r) 48
  have hd := dec_pad h
  have hall := dec_digs (10000 + r)
  have hv := dec_val (10000 + r)
  have hl : (fracL r).length + j = 4 := by
    have := congrArg List.length h1
    rw [List.length_append, List.length_replicate] at this
    exact this.symm
  refine ⟨j, by rw [hd]; show 49 :: (fracL r ++ List.replicate j 48) = _; rw [show fracL r ++ List.replicate j 48 = pad4 r from h1.symm], hl, h2, ?_, ?_⟩
  · intro e
    rw [e] at hl
    have hj : j = 4 := by simpa using hl
    subst hj
    rw [show trimRightB (pad4 r) 48 = fracL r from rfl, e] at h1
    rw [hd, h1] at hv
    have : valD (49 :: ([] ++ List.replicate 4 48)) = 10000 := rfl
    omega
  · rw [hd, h1] at hall
    simp only [List.all_cons, List.all_append, Bool.and_eq_true] at hall
    exact hall.2.1
theorem valD_rep (l : List UInt8) (j : Nat) : valD (l ++ List.replicate j 48) = valD l * 10 ^ j := by
  induction j with
  | zero => simp
  | succ j ih =>
    rw [List.replicate_succ', ← List.append_assoc, valD_snoc, ih, Nat.pow_succ, Nat.mul_assoc]
    rfl

/-- what package contract's percent of a word is: the number and whether it is one -/
def pctV (w : List UInt8) : Int × Bool :=
  let s := trimSuffix w [37]
  let a := (cut s [46]).1
  let p := (cut s [46]).2.1
  if hasSuffix w [37] = true ∧ (digV a).2 = true ∧ (digV a).1 ≤ 100 then
    if (cut s [46]).2.2 = false then (10000 * (digV a).1, true)
    else if (digV (49 :: p)).2 = true ∧ p ≠ [] ∧ p.length ≤ 4 ∧ p.getLast? ≠ some 48 then (10000 * (digV a).1 + (digV (49 :: p)).1 * 10 ^ (4 - p.length) - 10000, true)
    else (0, false)
  else (0, false)
theorem dig_no {c : UInt8} {l : List UInt8} (h : l.all isDig = true) (hc : isDig c = false) : c ∉ l := by
  intro hm
  rw [List.all_eq_true.1 h c hm] at hc
  cases hc
theorem suffix_one (s : List UInt8) (c : UInt8) : hasSuffix (s ++ [c]) [c] = true ∧ trimSuffix (s ++ [c]) [c] = s := by
  have h : hasSuffix (s ++ [c]) [c] = true := by unfold hasSuffix; rw [List.isSuffixOf_iff_suffix]; exact ⟨s, rfl⟩
  refine ⟨h, ?_⟩
  unfold trimSuffix
  rw [if_pos h]
  simp
theorem suffix_inv {w : List UInt8} {c : UInt8} (h : hasSuffix w [c] = true) : w = trimSuffix w [c] ++ [c] := by
  have h2 := h
  unfold hasSuffix at h2
  rw [List.isSuffixOf_iff_suffix] at h2
  obtain ⟨s, rfl⟩ := h2
  rw [(suffix_one s c).2]
theorem cut_app {c : UInt8} (x s : List UInt8) (h : c ∉ x) : cut (x ++ c :: s) [c] = (x, s, true) := by
  rw [cut_one, if_pos (by simp), split_app x s h]
  simp [join_split]
theorem cut_no {c : UInt8} {x : List UInt8} (h : c ∉ x) : cut x [c] = (x, [], false) := by rw [cut_one, if_neg h]
theorem cut_inv {c : UInt8} {s : List UInt8} : ((cut s [c]).2.2 = true ∧ s = (cut s [c]).1 ++ c :: (cut s [c]).2.1) ∨ ((cut s [c]).2.2 = false ∧ (cut s [c]).1 = s ∧ (cut s [c]).2.1 = []) := by
  rw [cut_one]
  by_cases h : c ∈ s
  · left
    rw [if_pos h]
    refine ⟨rfl, ?_⟩
    have hj := join_split c s
    cases hs : splitL c s with
    | nil => exact absurd hs (splitL_ne c s)
    | cons x r =>
      rw [hs] at hj
      cases r with
      | nil =>
        rw [join_one] at hj
        subst hj
        exact absurd h (split_mem (l := x) (by rw [hs]; simp))
      | cons y r =>
        rw [join2] at hj
        exact hj.symm
  · right; rw [if_neg h]; exact ⟨rfl, rfl, rfl⟩
theorem pctV_sound {w : List UInt8} {n : Int} (h : pctV w = (n, true)) : ∃ k : Nat, n = k ∧ k < 1010000 ∧ w = pctL k := by
  unfold pctV at h
  simp only at h
  split at h
  · rename_i h1
    obtain ⟨hs, ha, ha2⟩ := h1
    have hw := suffix_inv hs
    obtain ⟨s, hss⟩ : ∃ s, trimSuffix w [37] = s := ⟨_, rfl⟩
    rw [hss] at h ha ha2 hw
    obtain ⟨x, p, b, hc⟩ : ∃ x p b, cut s [46] = (x, p, b) := ⟨_, _, _, rfl⟩
    have hci := cut_inv (c := 46) (s := s)
    rw [hc] at h ha ha2 hci
    simp only at h ha ha2 hci
    obtain ⟨kx, hkx, _, hx⟩ := digV_sound (show digV x = ((digV x).1, true) by rw [← ha])
    rw [hkx] at h ha2
    rcases hci with ⟨rfl, hsx⟩ | ⟨rfl, hsx, _⟩
    · rw [if_neg (by simp)] at h
      split at h
      · rename_i h2
        obtain ⟨hd, hp0, hp4, hpl⟩ := h2
        obtain ⟨k, hk, _, hk2⟩ := digV_sound (show digV (49 :: p) = ((digV (49 :: p)).1, true) by rw [← hd])
        rw [hk] at h
        simp only [Prod.mk.injEq, and_true] at h
        have hv : valD (49 :: p) = k := by rw [hk2, dec_val]
        have hall : p.all isDig = true := by
          have := dec_digs k
          rw [← hk2] at this
          simp only [List.all_cons, Bool.and_eq_true] at this
          exact this.2
        have hbd := foldD_bd p 1 hall
        rw [show p.foldl stepD 1 = valD (49 :: p) from rfl, hv] at hbd
        obtain ⟨j, hj⟩ : ∃ j, 4 - p.length = j := ⟨_, rfl⟩
        have hpow : 10 ^ p.length * 10 ^ j = 10000 := by rw [← Nat.pow_add, show p.length + j = 4 by omega]
        have hlo : 10000 ≤ k * 10 ^ j := by
          have := Nat.mul_le_mul_right (10 ^ j) hbd.1
          rw [Nat.one_mul, hpow] at this; exact this
        have hhi : k * 10 ^ j < 20000 := by
          have h3 : k * 10 ^ j < (1 + 1) * 10 ^ p.length * 10 ^ j := Nat.mul_lt_mul_of_pos_right hbd.2 (Nat.pow_pos (by decide))
          rw [Nat.mul_assoc, hpow] at h3; exact h3
        have hpos : 0 < k := by
          rcases Nat.eq_zero_or_pos k with e | e
          · subst e; simp at hlo
          · exact e
        have hdt := dec_ten hpos j
        rw [← hk2] at hdt
        rw [hj] at h
        have hcast : ((k : Int) * 10 ^ j) = ((k * 10 ^ j : Nat) : Int) := by simp
        rw [hcast] at h
        obtain ⟨r, hr⟩ : ∃ r, k * 10 ^ j = 10000 + r := ⟨k * 10 ^ j - 10000, by omega⟩
        rw [hr] at h hlo hhi hdt
        have hpad := dec_pad (r := r) (by omega)
        rw [hdt] at hpad
        simp only [List.cons_append, List.cons.injEq, true_and] at hpad
        have hfr : fracL r = p := by
          unfold fracL
          rw [← hpad]
          exact trim_done j hpl
        have hr0 : r ≠ 0 := by
          intro e
          subst e
          have e2 : fracL 0 = [] := by decide
          rw [e2] at hfr
          exact hp0 hfr.symm
        refine ⟨10000 * kx + r, by omega, by omega, ?_⟩
        unfold pctL
        rw [show (10000 * kx + r) / 10000 = kx by omega, show (10000 * kx + r) % 10000 = r by omega, if_neg hr0, hfr, ← hx, hw, hsx]
      · simp at h
    · rw [if_pos rfl] at h
      simp only [Prod.mk.injEq, and_true] at h
      refine ⟨10000 * kx, by omega, by omega, ?_⟩
      unfold pctL
      rw [show 10000 * kx / 10000 = kx by omega, show 10000 * kx % 10000 = 0 by omega, if_pos rfl, ← hx, hw, ← hsx, List.append_nil]
  · simp at h
theorem pctV_pct {k : Nat} (h : k < 1010000) : pctV (pctL k) = ((k : Int), true) := by
  have hs := suffix_one (decDigits (k / 10000) ++ (if k % 10000 = 0 then [] else 46 :: fracL (k % 10000))) 37
  have hno : (46 : UInt8) ∉ decDigits (k / 10000) := dig_no (dec_digs _) (by decide)
  have hd := digV_dec (k := k / 10000) (by omega)
  unfold pctV
  simp only
  rw [show pctL k = decDigits (k / 10000) ++ (if k % 10000 = 0 then [] else 46 :: fracL (k % 10000)) ++ [37] from rfl, hs.1, hs.2]
  by_cases h0 : k % 10000 = 0
  · rw [if_pos h0, List.append_nil, cut_no hno, hd]
    simp only
    rw [if_pos ⟨trivial, trivial, by omega⟩]
    simp
    omega
  · rw [if_neg h0, cut_app _ _ hno, hd]
    simp only
    rw [if_pos ⟨trivial, trivial, by omega⟩]
    rw [if_neg (by simp)]
    obtain ⟨j, h1, h2, h3, h4, h5⟩ := frac_spec (r := k % 10000) (by omega) (by omega)
    have hv := dec_val (10000 + k % 10000)
    rw [← h1, valD_rep] at hv
    have hpl : plainD (49 :: fracL (k % 10000)) = true := by
      unfold plainD
      simp only [List.all_cons, h5]
      rfl
    have hdec := dec_of_plain _ hpl
    obtain ⟨v, hvv⟩ : ∃ v, valD (49 :: fracL (k % 10000)) = v := ⟨_, rfl⟩
    rw [hvv] at hv hdec
    have hle : v ≤ v * 10 ^ j := Nat.le_mul_of_pos_right _ (Nat.pow_pos (by decide))
    have hdv := digV_dec (k := v) (by omega)
    rw [hdec] at hdv
    rw [hdv]
    simp only
    rw [if_pos ⟨trivial, h4, by omega, h3⟩, show 4 - (fracL (k % 10000)).length = j by omega]
    have hcast : ((v : Int) * 10 ^ j) = ((v * 10 ^ j : Nat) : Int) := by simp
    rw [hcast, hv]
    simp only [Prod.mk.injEq, and_true]
    omega
theorem pctV_bd (w : List UInt8) : 0 ≤ (pctV w).1 ∧ (pctV w).1 ≤ 1010000 := by
  cases hb : (pctV w).2 with
  | true =>
    obtain ⟨k, h1, h2, _⟩ := pctV_sound (show pctV w = ((pctV w).1, true) by rw [← hb])
    omega
  | false =>
    have : (pctV w).1 = 0 := by
      unfold pctV at hb ⊢
      simp only at hb ⊢
      split
      · rename_i h1
        rw [if_pos h1] at hb
        split
        · rename_i h2
          rw [if_pos h2] at hb; cases hb
        · rename_i h2
          rw [if_neg h2] at hb
          split
          · rename_i h3; rw [if_pos h3] at hb; cases hb
          · rfl
      · rfl
    omega
end Go.Proofs.YtfiabonacpepnaaGreatDoor
