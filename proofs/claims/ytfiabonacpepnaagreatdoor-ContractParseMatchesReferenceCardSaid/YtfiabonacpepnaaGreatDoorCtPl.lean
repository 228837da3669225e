/- ContractPercent: the plain law. -/
import Derived.Test.YtfiabonacpepnaaGreatDoorCtPa
namespace Go.Proofs.YtfiabonacpepnaaGreatDoor
open Go Go.Lib

/-- the percentage without its sign -/
def bodyL (n : Nat) : List UInt8 := decDigits (n / 10000) ++ (if n % 10000 = 0 then [] else 46 :: fracL (n % 10000))
theorem pct_body (n : Nat) : pctL n = bodyL n ++ [37] := rfl
theorem body_chars {n : Nat} (b : UInt8) (h : b ∈ bodyL n) : isDig b = true ∨ b = 46 := by
  unfold bodyL at h
  rcases List.mem_append.1 h with h | h
  · exact .inl (List.all_eq_true.1 (dec_digs _) b h)
  · by_cases h0 : n % 10000 = 0
    · rw [if_pos h0] at h; cases h
    · rw [if_neg h0] at h
      rcases List.mem_cons.1 h with h | h
      · exact .inr h
      · obtain ⟨_, _, _, _, _, hd⟩ := frac_spec (r := n % 10000) (by omega) (Nat.mod_lt _ (by decide))
        exact .inl (List.all_eq_true.1 hd b h)
theorem body_no {n : Nat} {c : UInt8} (h1 : isDig c = false) (h2 : c ≠ 46) : c ∉ bodyL n := by
  intro h
  rcases body_chars c h with h | h
  · rw [h] at h1; cases h1
  · exact h2 h
def kTaxS : List UInt8 := [116, 97, 120, 32]
def taxT (n : Nat) : TermV := ⟨2, n, 0, 0, []⟩
theorem tax_line (t : TermV) (h : t.k = 2) : lineT t = kTaxS ++ pctL t.n.toNat := by
  unfold lineT wordsT
  rw [if_neg (by rw [h]; decide), if_pos h, join2, join_one]
  rfl
theorem tax_kind {t : TermV} (hv : validT t = true) {r : List UInt8} (h : lineT t = 116 :: r) : t.k = 2 := by
  have hd : ∀ w ws, wordsT t = w :: ws → w ≠ [] → w.head? = some 116 := by
    intro w ws hw hne
    unfold lineT at h
    rw [hw, join_cons] at h
    cases w with
    | nil => exact absurd rfl hne
    | cons c x => simp at h; simp [h.1]
  rcases validT_cases hv with h1 | h1 | h1 | h1 | h1
  · have := hd kPass _ (by unfold wordsT; rw [if_pos h1.1]; rfl) (by decide)
    exact absurd this (by decide)
  · exact h1.1
  · have := hd kReserve _ (by unfold wordsT; rw [if_neg (by rw [h1.1]; decide), if_neg (by rw [h1.1]; decide), if_pos h1.1]) (by decide)
    exact absurd this (by decide)
  · have := hd kCap _ (by unfold wordsT; rw [if_neg (by rw [h1.1]; decide), if_neg (by rw [h1.1]; decide), if_neg (by rw [h1.1]; decide), if_pos h1.1]) (by decide)
    exact absurd this (by decide)
  · have := hd kRecoup (t.acc.map decI) (by unfold wordsT; rw [if_neg (by rw [h1.1]; decide), if_neg (by rw [h1.1]; decide), if_neg (by rw [h1.1]; decide), if_neg (by rw [h1.1]; decide)]) (by decide)
    exact absurd this (by decide)
/-- a text of one line -/
theorem one_line {s : List UInt8} (hs : s.length ≤ 2000) (hi : ignoredL s = false) (h10 : (10 : UInt8) ∉ s) : ((parseV s).2.2 = false ∧ (parseV s).1 = []) ∨ ∃ t, parseV s = ([t], 0, true) ∧ validT t = true ∧ lineT t = s := by
  cases hb : (parseV s).2.2 with
  | false => exact .inl ⟨rfl, (parse_false hb).1⟩
  | true =>
    obtain ⟨ts, h1, h2, h3, _⟩ := ofSplit_ok hs hb
    rw [split_word h10] at h2
    have hk : keepL [s] = [s] := by unfold keepL; simp [hi]
    rw [hk] at h2
    match ts, h1, h2, h3 with
    | [], _, h2, _ => cases h2
    | [t], h1, h2, h3 =>
      simp at h2
      exact .inr ⟨t, h1, h3 t (by simp), h2.symm⟩
    | _ :: _ :: _, _, h2, _ => simp at h2
theorem tax_valid {n : Nat} (h1 : 1 ≤ n) (h2 : n ≤ 1000000) : validT (taxT n) = true := by
  unfold validT taxT inR
  simp
  omega
theorem tax_good {n : Nat} (h1 : 1 ≤ n) (h2 : n ≤ 1000000) : goodL [taxT n] = true := by
  unfold goodL
  simp [tax_valid h1 h2]
theorem tax_print {n : Nat} (h1 : 1 ≤ n) (h2 : n ≤ 1000000) : printV [taxT n] = kTaxS ++ bodyL n ++ [37, 10] := by
  unfold printV
  rw [if_pos (tax_good h1 h2)]
  unfold textT
  rw [List.flatMap_cons, tax_line _ rfl]
  show kTaxS ++ pctL n ++ [10] ++ [] = _
  rw [pct_body]
  simp
theorem tax_len {n : Nat} (h2 : n ≤ 1000000) : 1 ≤ (bodyL n).length ∧ (bodyL n).length ≤ 7 := by
  have := pct_len h2
  rw [pct_body, List.length_append] at this
  simp at this
  omega
/-- with another digit behind it, it is another number or none -/
theorem tax_other {n : Nat} (h2 : n ≤ 1000000) (c : UInt8) (hc : c ≠ 10) : (parseV (kTaxS ++ bodyL n ++ [c, 37])).1 = [] ∨ ∃ t, (parseV (kTaxS ++ bodyL n ++ [c, 37])).1 = [t] ∧ t.n ≠ (n : Int) := by
  have hl := tax_len h2
  rcases one_line (s := kTaxS ++ bodyL n ++ [c, 37]) (by simp [kTaxS]; omega) rfl (by
      intro h
      rcases List.mem_append.1 h with h | h
      · rcases List.mem_append.1 h with h | h
        · revert h; decide
        · exact body_no (by decide) (by decide) h
      · simp at h; exact hc h.symm) with ⟨_, h⟩ | ⟨t, h, hv, hli⟩
  · exact .inl h
  · refine .inr ⟨t, by rw [h], fun hn => ?_⟩
    have hk := tax_kind hv (r := _) (by rw [hli]; rfl)
    rw [tax_line t hk, hn, Int.toNat_natCast, pct_body] at hli
    have := congrArg List.length hli
    simp at this
/-- without its sign it is none -/
theorem tax_none {n : Nat} (h2 : n ≤ 1000000) : (parseV (kTaxS ++ bodyL n)).2.2 = false ∧ (parseV (kTaxS ++ bodyL n)).1 = [] := by
  have hl := tax_len h2
  rcases one_line (s := kTaxS ++ bodyL n) (by simp [kTaxS]; omega) rfl (by
      intro h
      rcases List.mem_append.1 h with h | h
      · revert h; decide
      · exact body_no (by decide) (by decide) h) with h | ⟨t, h, hv, hli⟩
  · exact h
  · exfalso
    have hk := tax_kind hv (r := _) (by rw [hli]; rfl)
    rw [tax_line t hk, pct_body] at hli
    have e := List.append_cancel_left hli
    have : (37 : UInt8) ∈ bodyL n := by rw [← e]; simp
    exact body_no (by decide) (by decide) this
end Go.Proofs.YtfiabonacpepnaaGreatDoor
