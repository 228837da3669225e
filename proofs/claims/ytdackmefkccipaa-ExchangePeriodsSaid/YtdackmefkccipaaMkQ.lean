/- What a base of Make holds; conversion of small amounts is monotone. -/
import Derived.Test.YtdackmefkccipaaMkP
namespace Go.Proofs.Ytdackmefkccipaa
open Go Go.RowKit Go.Lib Go.Shelf

theorem Made.ok {f : FactV} (h : Made f) : ∀ j, -9223372036854775808 ≤ f.n j ∧ f.n j ≤ 9223372036854775807 := by
  intro j
  have h0 : ∀ (x : Int), 0 ≤ x → x ≤ 10000000000 → -9223372036854775808 ≤ x ∧ x ≤ 9223372036854775807 := by omega
  cases h <;> (simp only [mk5, mk6, mk7]; split <;> (apply h0 <;> omega))
structure Lists (w : World) (a b c : Value) (R5 R6 R7 : List FactV) : Prop where
  f5 : FactsAt w a R5
  f6 : FactsAt w b R6
  f7 : FactsAt w c R7
  m5 : ∀ f ∈ R5, Made f ∧ f.n 0 = 5
  m6 : ∀ f ∈ R6, Made f ∧ f.n 0 = 6
  m7 : ∀ f ∈ R7, Made f ∧ f.n 0 = 7
  len : R5.length + R6.length + R7.length ≤ 40
  ones : (bv a b c).cells.all (·.oneCell') = true
theorem MadeBase.lists {w : World} {n : Nat} {a b c : Value} (h : MadeBase w n a b c) : ∃ R5 R6 R7, Lists w a b c R5 R6 R7 := by
  obtain ⟨l, hl, hm, ho⟩ := h
  have h1 := bv_ones ho.ones.1 ho.ones.2.1 ho.ones.2.2
  obtain ⟨R5, R6, R7, o5, o6, o7, k5, k6, k7, hlen⟩ := ho.ex
  exact ⟨R5, R6, R7, o5.facts, o6.facts, o7.facts, fun f hf => ⟨hm f (k5 f hf).1, (k5 f hf).2⟩, fun f hf => ⟨hm f (k6 f hf).1, (k6 f hf).2⟩, fun f hf => ⟨hm f (k7 f hf).1, (k7 f hf).2⟩, by omega, h1⟩
theorem Lists.below {w w' : World} {a b c : Value} {R5 R6 R7 : List FactV} (h : Lists w a b c R5 R6 R7) (hb : Below w.heap.size w w') : Lists w' a b c R5 R6 R7 :=
  ⟨h.f5.below hb, h.f6.below hb, h.f7.below hb, h.m5, h.m6, h.m7, h.len, h.ones⟩
theorem Lists.ok5 {w : World} {a b c : Value} {R5 R6 R7 : List FactV} (h : Lists w a b c R5 R6 R7) : FactsOk R5 := fun f hf => (h.m5 f hf).1.ok
theorem Lists.ok6 {w : World} {a b c : Value} {R5 R6 R7 : List FactV} (h : Lists w a b c R5 R6 R7) : FactsOk R6 := fun f hf => (h.m6 f hf).1.ok
theorem Lists.ok7 {w : World} {a b c : Value} {R5 R6 R7 : List FactV} (h : Lists w a b c R5 R6 R7) : FactsOk R7 := fun f hf => (h.m7 f hf).1.ok
/-- the rates of such a base are small -/
theorem rate_small {R7 : List FactV} (h : ∀ f ∈ R7, Made f ∧ f.n 0 = 7) (c p : Int) : 0 ≤ (rateSpec R7 c p).1 ∧ (rateSpec R7 c p).1 ≤ 10000000 := by
  unfold rateSpec firstSpec
  split
  · exact ⟨by decide, by decide⟩
  · cases hf : R7.find? (rateTest c p) with
    | none => exact ⟨by decide, by decide⟩
    | some f =>
      obtain ⟨hm, hk⟩ := h f (List.mem_of_find?_eq_some hf)
      cases hm with
      | k5 => simp [mk5] at hk
      | k6 => simp [mk6] at hk
      | k7 p a c p1 p2 a1 a2 => exact ⟨by show (0 : Int) ≤ a; omega, a2⟩
theorem rate_zero (R7 : List FactV) (p : Int) : rateSpec R7 0 p = (1000000, true) := rfl
/-- conversion of an amount that is not too great, at a small rate -/
theorem conv_small {fs : List FactV} {c p r n : Int} {t : Bool} (hr : rateSpec fs c p = (r, t)) (r0 : 0 ≤ r) (r1 : r ≤ 10000000) (n0 : 0 ≤ n) (n1 : n ≤ 2000000000000) :
    convSpec fs n c p = if t then (n * r / 1000000, true) else (0, false) := by
  have hq : ((n.toNat * r.toNat / 1000000 : Nat) : Int) = n * r / 1000000 := by
    rw [Int.natCast_ediv, Int.natCast_mul, Int.toNat_of_nonneg n0, Int.toNat_of_nonneg r0]
    rfl
  have hle : n.toNat * r.toNat ≤ 2000000000000 * 10000000 := Nat.mul_le_mul (by omega) (by omega)
  have hm : mulDivSpec n r = (n * r / 1000000, true) := by
    unfold mulDivSpec
    rw [if_neg (by omega), if_neg (by omega), hq]
  have hb : n * r / 1000000 ≤ 1000000000000000 := by rw [← hq]; omega
  unfold convSpec
  rw [hr]
  cases t
  · rw [if_pos (.inr (.inr rfl))]; rfl
  · rw [if_neg (by simp; omega)]
    dsimp only
    rw [hm, if_neg (by simp; omega)]
    rfl
/-- the stage's theorem, in plain words -/
theorem mono_law {R7 : List FactV} (h : ∀ f ∈ R7, Made f ∧ f.n 0 = 7) (c p i j : Int) (i0 : 0 ≤ i) (i1 : i < 1000000000000) (j0 : 0 ≤ j) (j1 : j < 1000000000000) :
    (convSpec R7 i c p = (0, false) ∧ convSpec R7 j c p = (0, false) ∧ convSpec R7 (i + j) c p = (0, false)) ∨
    ∃ u v d, convSpec R7 i c p = (u, true) ∧ convSpec R7 j c p = (v, true) ∧ convSpec R7 (i + j) c p = (u + v + d, true) ∧ (c ≠ 0 ∨ u = i) ∧ (j < i ∨ u ≤ v) ∧ (d = 0 ∨ d = 1) ∧ 0 ≤ u ∧ u ≤ 1000000000000000 ∧ 0 ≤ v ∧ v ≤ 1000000000000000 := by
  obtain ⟨⟨r, t⟩, hr⟩ : ∃ x, rateSpec R7 c p = x := ⟨_, rfl⟩
  have hs := rate_small h c p
  rw [hr] at hs
  obtain ⟨r0, r1⟩ := hs
  dsimp only at r0 r1
  rw [conv_small hr r0 r1 i0 (by omega), conv_small hr r0 r1 j0 (by omega), conv_small hr r0 r1 (n := i + j) (by omega) (by omega)]
  cases t
  · exact .inl ⟨rfl, rfl, rfl⟩
  · right
    have ha : (i + j) * r = i * r + j * r := Int.add_mul i j r
    have h1 : 0 ≤ i * r := Int.mul_nonneg i0 r0
    have h2 : 0 ≤ j * r := Int.mul_nonneg j0 r0
    have h3 : i * r ≤ 1000000000000 * 10000000 := Int.mul_le_mul (by omega) r1 r0 (by omega)
    have h4 : j * r ≤ 1000000000000 * 10000000 := Int.mul_le_mul (by omega) r1 r0 (by omega)
    have h5 : j < i ∨ i * r ≤ j * r := by
      rcases Int.lt_or_le j i with h | h
      · exact .inl h
      · exact .inr (Int.mul_le_mul_of_nonneg_right h r0)
    refine ⟨i * r / 1000000, j * r / 1000000, (i + j) * r / 1000000 - i * r / 1000000 - j * r / 1000000, rfl, rfl, ?_, ?_, ?_, ?_, ?_, ?_, ?_, ?_⟩
    · rw [if_pos rfl]; congr 1; omega
    · by_cases hc : c = 0
      · right
        rw [hc, rate_zero] at hr
        have : r = 1000000 := by have := congrArg Prod.fst hr; exact this.symm
        rw [this]; omega
      · exact .inl hc
    · rcases h5 with h | h
      · exact .inl h
      · right; omega
    · rw [ha]; omega
    all_goals omega
end Go.Proofs.Ytdackmefkccipaa
