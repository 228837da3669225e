/- Plain laws of the checksum: no program in sight. -/
namespace Go.Proofs.YtmakkfgdpdbcnaaDoor.WireP

def poly : Nat := 2197175160
def bit (x : Nat) : Nat := if x % 2 = 1 then x / 2 ^^^ poly else x / 2
def bits' : Nat → Nat → Nat
  | 0, x => x
  | n + 1, x => bits' n (bit x)
def nibs : List Nat := [0, 274646895, 549293790, 820201905, 1098587580, 1361435347, 1640403810, 1905808397, 2197175160, 2460548119, 2722870694, 2987750089, 3280807620, 3553878443, 3811616794, 4084100981]
def half (x : Nat) : Nat := x / 16 ^^^ nibs.getD (x % 16) 0
def byteStep (r b : Nat) : Nat := half (half (r ^^^ b))
def sumReg (r : Nat) (l : List UInt8) : Nat := l.foldl (fun r b => byteStep r b.toNat) r
def crc (l : List UInt8) : Nat := 4294967295 - sumReg 4294967295 l

theorem xor_div2 (a b : Nat) : (a ^^^ b) / 2 = a / 2 ^^^ b / 2 := by
  have := Nat.shiftRight_xor_distrib (a := a) (b := b) (i := 1)
  simpa [Nat.shiftRight_eq_div_pow] using this
theorem xor_mod2 (a b : Nat) : (a ^^^ b) % 2 = (a % 2 + b % 2) % 2 := by
  have := Nat.xor_mod_two_pow (a := a) (b := b) (n := 1)
  simp only [Nat.pow_one] at this
  rw [this]
  rcases Nat.mod_two_eq_zero_or_one a with h | h <;> rcases Nat.mod_two_eq_zero_or_one b with h' | h' <;> rw [h, h'] <;> decide
theorem xor4 (a b c d : Nat) : (a ^^^ b) ^^^ (c ^^^ d) = (a ^^^ c) ^^^ (b ^^^ d) := by
  rw [Nat.xor_assoc, Nat.xor_assoc, ← Nat.xor_assoc b, Nat.xor_comm b c, Nat.xor_assoc c]

theorem bit_xor (a b : Nat) : bit (a ^^^ b) = bit a ^^^ bit b := by
  unfold bit
  rw [xor_mod2, xor_div2]
  rcases Nat.mod_two_eq_zero_or_one a with h | h <;> rcases Nat.mod_two_eq_zero_or_one b with h' | h' <;> rw [h, h']
  · simp
  · simp [Nat.xor_assoc]
  · simp only [Nat.reduceAdd, Nat.reduceMod, ↓reduceIte, Nat.zero_ne_one]
    rw [Nat.xor_assoc, Nat.xor_assoc, Nat.xor_comm poly]
  · simp only [Nat.reduceAdd, Nat.reduceMod, ↓reduceIte, Nat.zero_ne_one]
    rw [xor4, Nat.xor_self, Nat.xor_zero]
theorem bits_xor (n : Nat) : ∀ a b : Nat, bits' n (a ^^^ b) = bits' n a ^^^ bits' n b := by
  induction n with
  | zero => intro a b; rfl
  | succ n ih => intro a b; rw [bits', bit_xor, ih]; rfl
theorem bits_add (m n : Nat) : ∀ x, bits' (m + n) x = bits' n (bits' m x) := by
  induction m with
  | zero => intro x; simp [bits']
  | succ m ih => intro x; rw [Nat.succ_add, bits', ih]; rfl
theorem bits_shift (n : Nat) : ∀ q, bits' n (q * 2 ^ n) = q := by
  induction n with
  | zero => intro q; simp [bits']
  | succ n ih =>
    intro q
    rw [bits', show bit (q * 2 ^ (n + 1)) = q * 2 ^ n from ?_, ih]
    unfold bit
    rw [Nat.pow_succ, ← Nat.mul_assoc, if_neg (by omega)]
    omega
theorem split_xor (x k : Nat) : x = (x / 2 ^ k * 2 ^ k) ^^^ (x % 2 ^ k) := by
  have h : x % 2 ^ k < 2 ^ k := Nat.mod_lt _ (Nat.two_pow_pos k)
  have h1 := Nat.two_pow_add_eq_or_of_lt h (x / 2 ^ k)
  apply Nat.eq_of_testBit_eq
  intro i
  rw [Nat.testBit_xor, Nat.testBit_mul_two_pow, Nat.testBit_mod_two_pow]
  by_cases hi : i < k
  · simp [hi, show ¬ k ≤ i by omega]
  · simp [hi, show k ≤ i by omega, Nat.testBit_div_two_pow, show i - k + k = i by omega]
theorem half_bits (x : Nat) : half x = bits' 4 x := by
  conv => rhs; rw [split_xor x 4]
  rw [bits_xor, bits_shift]
  unfold half
  congr 1
  have h : x % 16 < 16 := Nat.mod_lt _ (by omega)
  show nibs.getD (x % 16) 0 = bits' 4 (x % 16)
  generalize x % 16 = j at h
  exact (by decide : ∀ j : Fin 16, nibs.getD j.val 0 = bits' 4 j.val) ⟨j, h⟩
theorem byteStep_bits (r b : Nat) : byteStep r b = bits' 8 (r ^^^ b) := by
  unfold byteStep; rw [half_bits, half_bits, ← bits_add]

theorem bit_lt {x : Nat} (h : x < 4294967296) : bit x < 4294967296 := by
  unfold bit
  split
  · exact Nat.xor_lt_two_pow (n := 32) (by omega) (by decide)
  · omega
theorem bits_lt (n : Nat) : ∀ {x : Nat}, x < 4294967296 → bits' n x < 4294967296 := by
  induction n with
  | zero => intro x h; exact h
  | succ n ih => intro x h; exact ih (bit_lt h)
theorem bit_ne {x : Nat} (h : x < 4294967296) (h0 : x ≠ 0) : bit x ≠ 0 := by
  unfold bit
  split
  · rename_i h1
    intro he
    have : x / 2 = poly := by
      have e := congrArg (· ^^^ poly) he
      simpa [Nat.xor_assoc] using e
    unfold poly at this
    omega
  · omega
theorem bits_ne (n : Nat) : ∀ {x : Nat}, x < 4294967296 → x ≠ 0 → bits' n x ≠ 0 := by
  induction n with
  | zero => intro x _ h0; exact h0
  | succ n ih => intro x h h0; exact ih (bit_lt h) (bit_ne h h0)
theorem byteStep_lt {r b : Nat} (hr : r < 4294967296) (hb : b < 256) : byteStep r b < 4294967296 := by
  rw [byteStep_bits]
  exact bits_lt 8 (Nat.xor_lt_two_pow (n := 32) hr (by omega))
theorem half_lt {x : Nat} (h : x < 4294967296) : half x < 4294967296 := by rw [half_bits]; exact bits_lt 4 h
theorem sumReg_lt (l : List UInt8) : ∀ {r : Nat}, r < 4294967296 → sumReg r l < 4294967296 := by
  induction l with
  | nil => intro r h; exact h
  | cons b l ih => intro r h; exact ih (byteStep_lt h b.toNat_lt)
theorem sumReg_snoc (r : Nat) (l : List UInt8) (b : UInt8) : sumReg r (l ++ [b]) = byteStep (sumReg r l) b.toNat := by
  simp [sumReg]
theorem crc_lt (l : List UInt8) : crc l < 4294967296 := by unfold crc; omega
theorem compl_xor {r : Nat} (h : r < 4294967296) : 4294967295 - r = 4294967295 ^^^ r := by
  apply Nat.eq_of_testBit_eq
  intro i
  rw [show 4294967295 - r = 2 ^ 32 - (r + 1) by omega, Nat.testBit_two_pow_sub_succ h, Nat.testBit_xor, show (4294967295 : Nat) = 2 ^ 32 - 1 by decide, Nat.testBit_two_pow_sub_one]
  by_cases hi : i < 32
  · simp [hi]
  · have hb : r.testBit i = false := Nat.testBit_lt_two_pow (Nat.lt_of_lt_of_le h (Nat.pow_le_pow_right (n := 2) (by omega) (by omega : 32 ≤ i)))
    simp [hi, hb]

/-! the difference of two registers -/
def xorL (a b : List UInt8) : List UInt8 := List.zipWith (· ^^^ ·) a b
theorem sumReg_xor (a : List UInt8) : ∀ (b : List UInt8) (r s : Nat), a.length = b.length → sumReg (r ^^^ s) (xorL a b) = sumReg r a ^^^ sumReg s b := by
  induction a with
  | nil => intro b r s h; cases b with
    | nil => rfl
    | cons _ _ => simp at h
  | cons x a ih => intro b r s h; cases b with
    | nil => simp at h
    | cons y b =>
      have : byteStep (r ^^^ s) (x ^^^ y).toNat = byteStep r x.toNat ^^^ byteStep s y.toNat := by
        rw [byteStep_bits, byteStep_bits, byteStep_bits, ← bits_xor, UInt8.toNat_xor, xor4]
      show sumReg (byteStep (r ^^^ s) (x ^^^ y).toNat) (xorL a b) = _
      rw [this, ih b _ _ (by simpa using h)]
      rfl

/-- the checksum of the XOR of three strings of one length -/
theorem crc_affine (a b c : List UInt8) (h1 : a.length = b.length) (h2 : b.length = c.length) :
    crc (xorL (xorL a b) c) = (crc a ^^^ crc b) ^^^ crc c := by
  have hl : (xorL a b).length = c.length := by simp [xorL]; omega
  have e1 := sumReg_xor (xorL a b) c (4294967295 ^^^ 4294967295) 4294967295 hl
  rw [sumReg_xor a b 4294967295 4294967295 h1, Nat.xor_self, Nat.zero_xor] at e1
  unfold crc
  rw [compl_xor (sumReg_lt _ (by omega)), compl_xor (sumReg_lt _ (by omega)), compl_xor (sumReg_lt _ (by omega)), compl_xor (sumReg_lt _ (by omega)), e1]
  generalize sumReg 4294967295 a = A
  generalize sumReg 4294967295 b = B
  generalize sumReg 4294967295 c = S
  rw [xor4 4294967295 A, Nat.xor_self, Nat.zero_xor, ← Nat.xor_assoc, Nat.xor_comm 4294967295 (A ^^^ B), Nat.xor_assoc]

/-- the bits of a string as a number, the first byte's lowest bit first -/
def num : List UInt8 → Nat
  | [] => 0
  | b :: l => b.toNat + 256 * num l
theorem num_cons (b : UInt8) (l : List UInt8) : num (b :: l) = (num l * 2 ^ 8) ^^^ b.toNat := by
  have := split_xor (num (b :: l)) 8
  have h := b.toNat_lt
  have e1 : num (b :: l) / 2 ^ 8 = num l := by rw [num]; omega
  have e2 : num (b :: l) % 2 ^ 8 = b.toNat := by rw [num]; omega
  rw [e1, e2] at this
  exact this
theorem sumReg_num (l : List UInt8) : ∀ r, sumReg r l = bits' (8 * l.length) (r ^^^ num l) := by
  induction l with
  | nil => intro r; simp [sumReg, num, bits']
  | cons b l ih =>
    intro r
    show sumReg (byteStep r b.toNat) l = _
    have e : bits' 8 (r ^^^ num (b :: l)) = bits' 8 (r ^^^ b.toNat) ^^^ num l := by
      rw [num_cons, Nat.xor_comm (num l * 2 ^ 8), ← Nat.xor_assoc, bits_xor, bits_shift]
    rw [ih, byteStep_bits, List.length_cons, Nat.mul_succ, Nat.add_comm, bits_add, e]
theorem num_xor (a : List UInt8) : ∀ b : List UInt8, a.length = b.length → num (xorL a b) = num a ^^^ num b := by
  induction a with
  | nil => intro b h; cases b with
    | nil => rfl
    | cons _ _ => simp at h
  | cons x a ih => intro b h; cases b with
    | nil => simp at h
    | cons y b =>
      show num ((x ^^^ y) :: xorL a b) = _
      have hm : ∀ p q : Nat, p * 2 ^ 8 ^^^ q * 2 ^ 8 = (p ^^^ q) * 2 ^ 8 := by
        intro p q
        rw [← Nat.shiftLeft_eq, ← Nat.shiftLeft_eq, ← Nat.shiftLeft_eq, Nat.shiftLeft_xor_distrib]
      rw [num_cons, num_cons, num_cons, ih b (by simpa using h), UInt8.toNat_xor, xor4, hm]

/-- a change of at most 32 consecutive bits -/
theorem crc_burst (a b : List UInt8) (k n : Nat) (h : a.length = b.length) (hk : k ≤ 8 * a.length) (hn : n < 4294967296) (hd : num a ^^^ num b = n * 2 ^ k) :
    (crc a = crc b) ↔ n = 0 := by
  have e : sumReg 4294967295 a ^^^ sumReg 4294967295 b = bits' (8 * a.length - k) n := by
    rw [← sumReg_xor a b _ _ h, Nat.xor_self, sumReg_num, Nat.zero_xor, num_xor a b h, hd]
    have hl : (xorL a b).length = a.length := by simp [xorL]; omega
    rw [hl]
    have : 8 * a.length = k + (8 * a.length - k) := by omega
    rw [this, bits_add, bits_shift]
    congr 1
    omega
  have l1 := sumReg_lt a (r := 4294967295) (by omega)
  have l2 := sumReg_lt b (r := 4294967295) (by omega)
  have hx : (crc a = crc b) ↔ sumReg 4294967295 a = sumReg 4294967295 b := by unfold crc; omega
  rw [hx]
  constructor
  · intro he
    rw [he, Nat.xor_self] at e
    by_cases h0 : n = 0
    · exact h0
    · exact absurd e.symm (bits_ne _ hn h0)
  · rintro rfl
    have hz : ∀ m, bits' m 0 = 0 := by
      intro m
      induction m with
      | zero => rfl
      | succ m ih => rw [bits']; exact ih
    rw [hz] at e
    have e2 := congrArg (· ^^^ sumReg 4294967295 b) e
    simpa [Nat.xor_assoc] using e2
end Go.Proofs.YtmakkfgdpdbcnaaDoor.WireP
