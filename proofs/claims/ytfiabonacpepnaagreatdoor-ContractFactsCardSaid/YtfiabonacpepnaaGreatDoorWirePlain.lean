/- Plain laws of the wire encoding: no program in sight. -/

namespace Go.Proofs.YtfiabonacpepnaaGreatDoor.Fb.WireP

def zz (n : Int) : Nat := if n < 0 then (-2 * n - 1).toNat else (2 * n).toNat
def unzz (z : Nat) : Int := if z % 2 = 0 then ((z / 2 : Nat) : Int) else -((z / 2 : Nat) : Int) - 1

theorem zz_unzz (z : Nat) : zz (unzz z) = z := by
  unfold zz unzz; split <;> split <;> omega
theorem unzz_zz (n : Int) : unzz (zz n) = n := by
  unfold zz unzz; split <;> split <;> omega
theorem zz_lt {n : Int} (h0 : -4611686018427387903 ≤ n) (h1 : n ≤ 4611686018427387903) : zz n < 9223372036854775807 := by
  unfold zz; split <;> omega
theorem unzz_le {z : Nat} (h : z < 9223372036854775808) : unzz z ≤ 4611686018427387903 := by
  unfold unzz; split <;> omega

def encF : Nat → Nat → List UInt8
  | 0, z => [UInt8.ofNat z]
  | f + 1, z => if z < 128 then [UInt8.ofNat z] else UInt8.ofNat (z % 128 + 128) :: encF f (z / 128)
def enc (z : Nat) : List UInt8 := encF 8 z

def decF : Nat → Nat → Nat → List UInt8 → Option (Int × Nat)
  | 0, _, _, _ => none
  | _ + 1, _, _, [] => none
  | f + 1, i, acc, b :: r =>
    if 128 ≤ b.toNat then decF f (i + 1) (acc + b.toNat % 128 * 128 ^ i) r
    else if (b.toNat = 0 ∧ 0 < i) ∨ unzz (acc + b.toNat % 128 * 128 ^ i) < -4611686018427387903 then none
    else some (unzz (acc + b.toNat % 128 * 128 ^ i), i + 1)
def dec (l : List UInt8) : Option (Int × Nat) := decF 9 0 0 l

theorem ofNat_toNat {n : Nat} (h : n < 256) : (UInt8.ofNat n).toNat = n := by
  simp [UInt8.toNat_ofNat']; omega

theorem encF_pos (f z : Nat) : 0 < (encF f z).length := by
  cases f with
  | zero => simp [encF]
  | succ f => unfold encF; split <;> simp
theorem encF_len (f z : Nat) : (encF f z).length ≤ f + 1 := by
  induction f generalizing z with
  | zero => simp [encF]
  | succ f ih => unfold encF; split <;> simp; exact ih _

theorem pow_step (z i : Nat) : z % 128 * 128 ^ i + z / 128 * 128 ^ (i + 1) = z * 128 ^ i := by
  rw [Nat.pow_succ, Nat.mul_comm (128 ^ i) 128, ← Nat.mul_assoc, ← Nat.add_mul, Nat.mul_comm (z / 128) 128, Nat.mod_add_div]

theorem decF_encF (f : Nat) : ∀ (i acc z : Nat) (rest : List UInt8), z < 128 ^ (f + 1) → (i = 0 ∨ 0 < z) →
    decF (f + 1) i acc (encF f z ++ rest) =
      if unzz (acc + z * 128 ^ i) < -4611686018427387903 then none else some (unzz (acc + z * 128 ^ i), i + (encF f z).length) := by
  induction f with
  | zero =>
    intro i acc z rest hz h0
    have hz' : z < 128 := by simpa using hz
    have hb := ofNat_toNat (n := z) (by omega)
    simp only [encF, List.cons_append, List.nil_append, decF, hb, Nat.mod_eq_of_lt hz', List.length_cons, List.length_nil]
    rw [if_neg (by omega)]
    by_cases hu : unzz (acc + z * 128 ^ i) < -4611686018427387903
    · rw [if_pos (Or.inr hu), if_pos hu]
    · rw [if_neg (by omega), if_neg hu]
  | succ f ih =>
    intro i acc z rest hz h0
    by_cases hz' : z < 128
    · have hb := ofNat_toNat (n := z) (by omega)
      simp only [encF, if_pos hz', List.cons_append, List.nil_append, decF, hb, Nat.mod_eq_of_lt hz', List.length_cons, List.length_nil]
      rw [if_neg (by omega)]
      by_cases hu : unzz (acc + z * 128 ^ i) < -4611686018427387903
      · rw [if_pos (Or.inr hu), if_pos hu]
      · rw [if_neg (by omega), if_neg hu]
    · have hb := ofNat_toNat (n := z % 128 + 128) (by omega)
      have hdiv : z / 128 < 128 ^ (f + 1) := by
        rw [Nat.div_lt_iff_lt_mul (by omega)]; rw [Nat.pow_succ] at hz; exact hz
      simp only [encF, if_neg hz', List.cons_append]
      rw [decF, hb, if_pos (by omega), ih (i + 1) _ (z / 128) rest hdiv (Or.inr (by omega))]
      have e : acc + (z % 128 + 128) % 128 * 128 ^ i + z / 128 * 128 ^ (i + 1) = acc + z * 128 ^ i := by
        rw [Nat.add_assoc, show (z % 128 + 128) % 128 = z % 128 by omega, pow_step]
      rw [e, List.length_cons]
      simp only [show i + 1 + (encF f (z / 128)).length = i + ((encF f (z / 128)).length + 1) by omega]

theorem decF_some (f : Nat) : ∀ (i acc : Nat) (l : List UInt8) (n : Int) (k : Nat), decF (f + 1) i acc l = some (n, k) →
    ∃ z, z < 128 ^ (f + 1) ∧ (i = 0 ∨ 0 < z) ∧ n = unzz (acc + z * 128 ^ i) ∧ -4611686018427387903 ≤ n ∧ k = i + (encF f z).length ∧ l.take (encF f z).length = encF f z ∧ (encF f z).length ≤ l.length := by
  induction f with
  | zero =>
    intro i acc l n k h
    cases l with
    | nil => simp [decF] at h
    | cons b r =>
      rw [decF] at h
      by_cases hb : 128 ≤ b.toNat
      · rw [if_pos hb] at h; simp [decF] at h
      · rw [if_neg hb] at h
        split at h
        · cases h
        · rename_i hc
          simp only [Option.some.injEq, Prod.mk.injEq] at h
          obtain ⟨h1, h2⟩ := h
          have hm : b.toNat % 128 = b.toNat := Nat.mod_eq_of_lt (by omega)
          rw [hm] at h1 hc
          refine ⟨b.toNat, by simpa using (by omega : b.toNat < 128), by omega, h1.symm, by omega, by simp [encF]; omega, by simp [encF], by simp [encF]⟩
  | succ f ih =>
    intro i acc l n k h
    cases l with
    | nil => simp [decF] at h
    | cons b r =>
      have hp : 128 ≤ 128 ^ (f + 1) := by rw [Nat.pow_succ]; have := Nat.pow_pos (n := f) (show 0 < 128 by omega); omega
      rw [decF] at h
      by_cases hb : 128 ≤ b.toNat
      · rw [if_pos hb] at h
        obtain ⟨z, hz, h0, hn, hlo, hk, ht, hl⟩ := ih _ _ _ _ _ h
        have hz0 : 0 < z := by omega
        have hlt := b.toNat_lt
        have hm : (b.toNat % 128 + z * 128) % 128 = b.toNat % 128 := by omega
        have hd : (b.toNat % 128 + z * 128) / 128 = z := by omega
        have hbb : UInt8.ofNat (b.toNat % 128 + 128) = b := by
          rw [show b.toNat % 128 + 128 = b.toNat by omega]; exact UInt8.ofNat_toNat
        have he : encF (f + 1) (b.toNat % 128 + z * 128) = b :: encF f z := by
          rw [encF, if_neg (by omega), hm, hd, hbb]
        refine ⟨b.toNat % 128 + z * 128, ?_, Or.inr (by omega), ?_, hlo, ?_, ?_, ?_⟩
        · rw [Nat.pow_succ]; omega
        · rw [hn, Nat.add_assoc]
          have := pow_step (b.toNat % 128 + z * 128) i
          rw [hm, hd] at this
          rw [this]
        · rw [he, hk, List.length_cons]; omega
        · rw [he, List.length_cons, List.take_succ_cons, ht]
        · rw [he, List.length_cons, List.length_cons]; omega
      · rw [if_neg hb] at h
        split at h
        · cases h
        · rename_i hc
          simp only [Option.some.injEq, Prod.mk.injEq] at h
          obtain ⟨h1, h2⟩ := h
          have hm : b.toNat % 128 = b.toNat := Nat.mod_eq_of_lt (by omega)
          rw [hm] at h1 hc
          have he : encF (f + 1) b.toNat = [b] := by
            rw [encF, if_pos (by omega)]; simp
          refine ⟨b.toNat, by rw [Nat.pow_succ]; omega, by omega, h1.symm, by omega, by rw [he]; simp; omega, by rw [he]; simp, by rw [he]; simp⟩

theorem dec_enc {n : Int} (h0 : -4611686018427387903 ≤ n) (h1 : n ≤ 4611686018427387903) (rest : List UInt8) :
    dec (enc (zz n) ++ rest) = some (n, (enc (zz n)).length) := by
  have hz := zz_lt h0 h1
  unfold dec enc
  rw [decF_encF 8 0 0 (zz n) rest (by omega) (Or.inl rfl)]
  simp only [Nat.pow_zero, Nat.mul_one, Nat.zero_add, unzz_zz]
  rw [if_neg (by omega)]

theorem dec_some {l : List UInt8} {n : Int} {k : Nat} (h : dec l = some (n, k)) :
    -4611686018427387903 ≤ n ∧ n ≤ 4611686018427387903 ∧ k = (enc (zz n)).length ∧ l.take k = enc (zz n) ∧ 0 < k ∧ k ≤ 9 ∧ k ≤ l.length := by
  obtain ⟨z, hz, _, hn, hlo, hk, ht, hl⟩ := decF_some 8 0 0 l n k h
  simp only [Nat.pow_zero, Nat.mul_one, Nat.zero_add] at hn hk
  subst hn
  have hz' : z < 9223372036854775808 := by simpa using hz
  unfold enc
  rw [zz_unzz]
  refine ⟨hlo, unzz_le hz', hk, by rw [hk]; exact ht, by rw [hk]; exact encF_pos _ _, by rw [hk]; exact encF_len _ _, by omega⟩

theorem decF_none_of_high (f : Nat) : ∀ (i acc : Nat) (l : List UInt8), (∀ b ∈ l, 128 ≤ b.toNat) → decF f i acc l = none := by
  induction f with
  | zero => intro i acc l _; rfl
  | succ f ih =>
    intro i acc l h
    cases l with
    | nil => rfl
    | cons b r =>
      rw [decF, if_pos (h b (List.mem_cons_self ..))]
      exact ih _ _ _ (fun c hc => h c (List.mem_cons_of_mem _ hc))

theorem encF_high (f : Nat) : ∀ (z m : Nat), m < (encF f z).length → ∀ b ∈ (encF f z).take m, 128 ≤ b.toNat := by
  induction f with
  | zero => intro z m hm b hb; simp [encF] at hm; subst hm; simp at hb
  | succ f ih =>
    intro z m hm b hb
    unfold encF at hm hb
    by_cases hz : z < 128
    · rw [if_pos hz] at hm hb; simp at hm; subst hm; simp at hb
    · rw [if_neg hz] at hm hb
      cases m with
      | zero => simp at hb
      | succ m =>
        rw [List.take_succ_cons, List.mem_cons] at hb
        rcases hb with rfl | hb
        · rw [ofNat_toNat (by omega)]; omega
        · exact ih _ m (by simpa using hm) b hb

/-- no proper beginning of an encoding is accepted -/
theorem dec_take_enc (n : Int) (m : Nat) (h : m < (enc (zz n)).length) : dec ((enc (zz n)).take m) = none :=
  decF_none_of_high _ _ _ _ (encF_high 8 _ m h)

/-- encodings are not beginnings of each other -/
theorem enc_prefix {a b : Int} (a0 : -4611686018427387903 ≤ a) (a1 : a ≤ 4611686018427387903) (b0 : -4611686018427387903 ≤ b) (b1 : b ≤ 4611686018427387903)
    (h : (enc (zz b)).take (enc (zz a)).length = enc (zz a)) : a = b := by
  have h1 := dec_enc a0 a1 ((enc (zz b)).drop (enc (zz a)).length)
  have h2 := dec_enc b0 b1 []
  rw [List.append_nil] at h2
  have e : enc (zz a) ++ (enc (zz b)).drop (enc (zz a)).length = enc (zz b) := by
    have := List.take_append_drop (enc (zz a)).length (enc (zz b))
    rw [h] at this
    exact this
  rw [e, h2] at h1
  simp only [Option.some.injEq, Prod.mk.injEq] at h1
  exact h1.1.symm

end Go.Proofs.YtfiabonacpepnaaGreatDoor.Fb.WireP
