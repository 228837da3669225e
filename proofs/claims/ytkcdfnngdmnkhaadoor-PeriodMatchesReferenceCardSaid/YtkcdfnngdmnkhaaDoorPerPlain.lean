/- Plain laws of the calendar: no program in sight. -/
namespace Go.Proofs.YtkcdfnngdmnkhaaDoor.PerP

def tab : List Nat := [31, 28, 31, 30, 31, 30, 31, 31, 30, 31, 30, 31]
def days (p : Nat) : Nat := if p % 48 = 1 then 29 else tab.getD (p % 12) 0
def start : Nat → Nat
  | 0 => 0
  | p + 1 => start p + days p

theorem days_per (p : Nat) : days (p + 48) = days p := by
  unfold days; rw [show (p + 48) % 48 = p % 48 by omega, show (p + 48) % 12 = p % 12 by omega]
theorem days_mod (p : Nat) : days p = days (p % 48) := by
  unfold days; rw [Nat.mod_mod, show p % 48 % 12 = p % 12 by omega]
theorem days_bd (p : Nat) : 28 ≤ days p ∧ days p ≤ 31 := by
  have h : ∀ r, r < 48 → 28 ≤ days r ∧ days r ≤ 31 := by decide
  rw [days_mod]; exact h _ (Nat.mod_lt _ (by omega))
theorem start_succ (p : Nat) : start (p + 1) = start p + days p := rfl
theorem start_per (p : Nat) : start (p + 48) = start p + 1461 := by
  induction p with
  | zero => decide
  | succ p ih => rw [show p + 1 + 48 = (p + 48) + 1 by omega, start_succ, ih, start_succ, days_per]; omega
theorem start_eq (p : Nat) : start p = p / 48 * 1461 + start (p % 48) := by
  induction p using Nat.strongRecOn with
  | ind p ih =>
    by_cases h : p < 48
    · rw [Nat.div_eq_of_lt h, Nat.mod_eq_of_lt h]; omega
    · obtain ⟨q, rfl⟩ : ∃ q, p = q + 48 := ⟨p - 48, by omega⟩
      rw [start_per, ih q (by omega), show (q + 48) / 48 = q / 48 + 1 by omega, show (q + 48) % 48 = q % 48 by omega]; omega
theorem start_cycle (k : Nat) : start (k * 48) = k * 1461 := by
  rw [start_eq, Nat.mul_mod_left, Nat.mul_div_cancel _ (by omega)]; simp [start]
theorem start_mono {a b : Nat} (h : a ≤ b) : start a ≤ start b := by
  induction h with
  | refl => exact Nat.le_refl _
  | step _ ih => rw [start_succ]; omega
theorem start_strict {a b : Nat} (h : a < b) : start a < start b := by
  have h1 := start_mono (show a + 1 ≤ b from h)
  have h2 := days_bd a
  rw [start_succ] at h1; omega
theorem start_inv {p q n : Nat} (h1 : start p ≤ n) (h2 : n < start (p + 1)) (h3 : start q ≤ n) (h4 : n < start (q + 1)) : p = q := by
  rcases Nat.lt_trichotomy p q with h | h | h
  · have := start_mono (show p + 1 ≤ q from h); omega
  · exact h
  · have := start_mono (show q + 1 ≤ p from h); omega
theorem start_1200 : start 1200 = 36525 := start_cycle 25
theorem start_bd {p : Nat} (h : p ≤ 1200) : start p ≤ 36525 := by
  have := start_mono h; rw [start_1200] at this; exact this
/-- every day lies in a period -/
theorem of_ex (N n : Nat) (h : n < start N) : ∃ p, p < N ∧ start p ≤ n ∧ n < start (p + 1) := by
  induction N with
  | zero => simp [start] at h
  | succ N ih =>
    by_cases hn : n < start N
    · obtain ⟨p, h1, h2, h3⟩ := ih hn; exact ⟨p, by omega, h2, h3⟩
    · exact ⟨N, by omega, by omega, h⟩
theorem of_ex' (n : Nat) (h : n < 36525) : ∃ p, p < 1200 ∧ start p ≤ n ∧ n < start (p + 1) := of_ex 1200 n (by rw [start_1200]; exact h)
theorem of_mono {p q m n : Nat} (h : m ≤ n) (h1 : start p ≤ m) (_h2 : m < start (p + 1)) (h3 : start q ≤ n) (h4 : n < start (q + 1)) :
    p < q ∨ (p = q ∧ m - start p ≤ n - start q) := by
  rcases Nat.lt_trichotomy p q with h' | h' | h'
  · exact Or.inl h'
  · subst h'; exact Or.inr ⟨rfl, by omega⟩
  · have := start_mono (show q + 1 ≤ p from h'); omega
theorem year_days (p : Nat) : start (p + 12) = start p + 365 ∨ start (p + 12) = start p + 366 := by
  have h : ∀ r, r < 48 → start (r + 12) = start r + 365 ∨ start (r + 12) = start r + 366 := by decide
  have e1 := start_eq p
  obtain ⟨k, r, hr, rfl⟩ : ∃ k r, r < 48 ∧ p = r + k * 48 := ⟨p / 48, p % 48, Nat.mod_lt _ (by omega), by omega⟩
  have sh : ∀ a, start (a + k * 48) = start a + k * 1461 := by
    clear e1
    intro a
    induction k with
    | zero => simp
    | succ k ih => rw [show a + (k + 1) * 48 = (a + k * 48) + 48 by omega, start_per, ih]; omega
  have e2 := sh r
  have e3 := sh (r + 12)
  rw [show r + 12 + k * 48 = r + k * 48 + 12 by omega] at e3
  rcases h r hr with h | h <;> omega

/-- a period's string -/
def dig (n : Nat) : UInt8 := UInt8.ofNat (48 + n % 10)
def fmt (p : Nat) : List UInt8 :=
  [dig ((2000 + p / 12) / 1000), dig ((2000 + p / 12) / 100), dig ((2000 + p / 12) / 10), dig (2000 + p / 12), 45, dig ((1 + p % 12) / 10), dig (1 + p % 12)]
/-- the number of digits, or -1 -/
def numF : Int → List UInt8 → Int
  | n, [] => n
  | n, c :: r => if c.toNat < 48 ∨ 57 < c.toNat then -1 else numF (10 * n + ((c.toNat : Int) - 48)) r
def num (l : List UInt8) : Int := numF 0 l
def parse (l : List UInt8) : Int × Int :=
  if l.length ≠ 7 ∨ l.getD 4 0 ≠ 45 then (0, 40)
  else
    let y := num (l.take 4)
    let m := num (l.drop 5)
    let p := (y - 2000) * 12 + m - 1
    if m < 1 ∨ 12 < m ∨ ¬(0 ≤ p ∧ p < 1200) then (0, 40) else (p, 0)
theorem dig_nat (n : Nat) : (dig n).toNat = 48 + n % 10 := by
  unfold dig; simp [UInt8.toNat_ofNat']; omega
theorem fmt_len (p : Nat) : (fmt p).length = 7 := rfl
theorem num_digit (n : Int) (k : Nat) (r : List UInt8) : numF n (dig k :: r) = numF (10 * n + (k % 10 : Nat)) r := by
  rw [numF, dig_nat, if_neg (by omega)]
  congr 1; omega
theorem parse_fmt (p : Nat) (h : p < 1200) : parse (fmt p) = ((p : Int), 0) := by
  have e1 : num ((fmt p).take 4) = ((2000 + p / 12 : Nat) : Int) := by
    show numF 0 [dig _, dig _, dig _, dig _] = _
    rw [num_digit, num_digit, num_digit, num_digit, numF]; omega
  have e2 : num ((fmt p).drop 5) = ((1 + p % 12 : Nat) : Int) := by
    show numF 0 [dig _, dig _] = _
    rw [num_digit, num_digit, numF]; omega
  unfold parse
  rw [if_neg (by rw [fmt_len]; simp [fmt])]
  dsimp only
  rw [e1, e2, if_neg (by omega)]
  refine Prod.ext ?_ rfl
  show _ = (p : Int)
  omega
theorem num_step {n : Int} {c : UInt8} {r : List UInt8} {x : Int} (h : numF n (c :: r) = x) (hx : x ≠ -1) : 48 ≤ c.toNat ∧ c.toNat ≤ 57 ∧ numF (10 * n + ((c.toNat : Int) - 48)) r = x := by
  rw [numF] at h
  split at h
  · exact absurd h.symm hx
  · exact ⟨by omega, by omega, h⟩
theorem dig_eq {c : UInt8} {k : Nat} (h : c.toNat = 48 + k % 10) : dig k = c := by
  apply UInt8.toNat_inj.1; rw [dig_nat, h]
theorem fmt_parse {l : List UInt8} {p : Int} (h : parse l = (p, 0)) : 0 ≤ p ∧ p < 1200 ∧ fmt p.toNat = l := by
  unfold parse at h
  split at h
  · simp at h
  · rename_i h7
    dsimp only at h
    split at h
    · simp at h
    · rename_i hc
      have hp : (num (l.take 4) - 2000) * 12 + num (l.drop 5) - 1 = p := congrArg Prod.fst h
      clear h
      match l, h7 with
      | [a, b, c, d, e, f, g], h7 =>
        have he : e = 45 := by
          have := h7; simp at this; exact this
        subst he
        obtain ⟨y, hy⟩ : ∃ y, num ([a, b, c, d, 45, f, g].take 4) = y := ⟨_, rfl⟩
        obtain ⟨m, hm⟩ : ∃ m, num ([a, b, c, d, 45, f, g].drop 5) = m := ⟨_, rfl⟩
        rw [hy, hm] at hc hp
        have hy' : numF 0 [a, b, c, d] = y := hy
        have hm' : numF 0 [f, g] = m := hm
        obtain ⟨a1, a2, hy'⟩ := num_step hy' (by omega)
        obtain ⟨b1, b2, hy'⟩ := num_step hy' (by omega)
        obtain ⟨c1, c2, hy'⟩ := num_step hy' (by omega)
        obtain ⟨d1, d2, hy'⟩ := num_step hy' (by omega)
        obtain ⟨f1, f2, hm'⟩ := num_step hm' (by omega)
        obtain ⟨g1, g2, hm'⟩ := num_step hm' (by omega)
        rw [numF] at hy' hm'
        obtain ⟨a', ha⟩ : ∃ k : Nat, a.toNat = 48 + k := ⟨a.toNat - 48, by omega⟩
        obtain ⟨b', hb⟩ : ∃ k : Nat, b.toNat = 48 + k := ⟨b.toNat - 48, by omega⟩
        obtain ⟨c', hc'⟩ : ∃ k : Nat, c.toNat = 48 + k := ⟨c.toNat - 48, by omega⟩
        obtain ⟨d', hd⟩ : ∃ k : Nat, d.toNat = 48 + k := ⟨d.toNat - 48, by omega⟩
        obtain ⟨f', hf⟩ : ∃ k : Nat, f.toNat = 48 + k := ⟨f.toNat - 48, by omega⟩
        obtain ⟨g', hg⟩ : ∃ k : Nat, g.toNat = 48 + k := ⟨g.toNat - 48, by omega⟩
        have hyy : y = ((1000 * a' + 100 * b' + 10 * c' + d' : Nat) : Int) := by omega
        have hmm : m = ((10 * f' + g' : Nat) : Int) := by omega
        clear hy' hm' hy hm
        refine ⟨by omega, by omega, ?_⟩
        obtain ⟨P, rfl⟩ : ∃ P : Nat, p = (P : Int) := ⟨p.toNat, by omega⟩
        rw [Int.toNat_natCast]
        unfold fmt
        have hY : 2000 + P / 12 = 1000 * a' + 100 * b' + 10 * c' + d' := by omega
        have hM : 1 + P % 12 = 10 * f' + g' := by omega
        rw [hY, hM]
        clear hY hM hyy hmm hp hc
        rw [dig_eq (c := a) (by omega), dig_eq (c := b) (by omega), dig_eq (c := c) (by omega), dig_eq (c := d) (by omega), dig_eq (c := f) (by omega), dig_eq (c := g) (by omega)]
      | [], h7 => simp at h7
      | [_], h7 => simp at h7
      | [_, _], h7 => simp at h7
      | [_, _, _], h7 => simp at h7
      | [_, _, _, _], h7 => simp at h7
      | [_, _, _, _, _], h7 => simp at h7
      | [_, _, _, _, _, _], h7 => simp at h7
      | _ :: _ :: _ :: _ :: _ :: _ :: _ :: _ :: _, h7 => simp at h7
theorem fmt_inj {p q : Nat} (hp : p < 1200) (hq : q < 1200) (h : fmt p = fmt q) : p = q := by
  have e := parse_fmt p hp
  rw [h, parse_fmt q hq] at e
  have := congrArg Prod.fst e
  simp at this; omega
theorem parse_err {l : List UInt8} (h : ∀ p, p < 1200 → fmt p ≠ l) : parse l = (0, 40) := by
  cases hp : parse l with
  | mk p e =>
    by_cases he : e = 0
    · subst he
      obtain ⟨h0, h1, h2⟩ := fmt_parse hp
      exact absurd h2 (h _ (by omega))
    · unfold parse at hp
      split at hp
      · exact hp.symm
      · dsimp only at hp
        split at hp
        · exact hp.symm
        · exact absurd (congrArg Prod.snd hp).symm he
end Go.Proofs.YtkcdfnngdmnkhaaDoor.PerP
