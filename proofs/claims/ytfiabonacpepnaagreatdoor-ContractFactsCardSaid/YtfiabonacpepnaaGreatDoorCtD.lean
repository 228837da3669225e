/- Texts of contracts: what Parse and Print return, and what follows for them. No program in sight. -/
import Derived.Test.YtfiabonacpepnaaGreatDoorCtB
import Derived.Test.YtfiabonacpepnaaGreatDoorTmP
namespace Go.Proofs.YtfiabonacpepnaaGreatDoor
open Go Go.Lib

structure Rd where
  ws : List (List UInt8)
  bad : Bool
def Rd.next (r : Rd) : List UInt8 × Rd :=
  if r.bad = true ∨ r.ws = [] then ([], ⟨r.ws, true⟩) else (r.ws.headD [], ⟨r.ws.drop 1, false⟩)
def Rd.word (r : Rd) (want : List UInt8) : Rd := ⟨r.next.2.ws, !(r.next.1 == want) || r.next.2.bad⟩
def Rd.number (r : Rd) : Int × Rd := ((digV r.next.1).1, ⟨r.next.2.ws, r.next.2.bad || !(digV r.next.1).2⟩)
def Rd.pct (r : Rd) : Int × Rd := ((pctV r.next.1).1, ⟨r.next.2.ws, r.next.2.bad || !(pctV r.next.1).2⟩)

def kPass : List UInt8 := [112, 97, 115, 115]
def kTax : List UInt8 := [116, 97, 120]
def kReserve : List UInt8 := [114, 101, 115, 101, 114, 118, 101]
def kCap : List UInt8 := [99, 97, 112]
def kRecoup : List UInt8 := [114, 101, 99, 111, 117, 112]
def kTo : List UInt8 := [116, 111]
def kAbove : List UInt8 := [97, 98, 111, 118, 101]
def kFor : List UInt8 := [102, 111, 114]

def passV (r : Rd) : TermV × Rd :=
  let p := r.pct
  let q := (p.2.word kTo).number
  if q.2.ws = [] then (⟨1, p.1, q.1, 0, []⟩, q.2)
  else
    let a := (q.2.word kAbove).number
    (⟨1, p.1, q.1, a.1, []⟩, ⟨a.2.ws, a.2.bad || a.1 == 0⟩)
def taxV (r : Rd) : TermV × Rd := (⟨2, r.pct.1, 0, 0, []⟩, r.pct.2)
def reserveV (r : Rd) : TermV × Rd :=
  let q := (r.pct.2.word kFor).number
  (⟨3, r.pct.1, q.1, 0, []⟩, q.2)
def capV (r : Rd) : TermV × Rd := (⟨4, r.number.1, 0, 0, []⟩, r.number.2)
def accV : List (List UInt8) → List Int × Rd
  | [] => ([], ⟨[], false⟩)
  | w :: t => if (digV w).2 = true then ((digV w).1 :: (accV t).1, (accV t).2) else ([(digV w).1], ⟨t, true⟩)
def recoupV (ws : List (List UInt8)) : TermV × Rd := (⟨5, 0, 0, 0, (accV ws).1⟩, (accV ws).2)
def zeroT : TermV := ⟨0, 0, 0, 0, []⟩
/-- how the rest of a line is read, by its first word -/
def formV (w : List UInt8) (t : List (List UInt8)) : Option (TermV × Rd) :=
  if w = kPass then some (passV ⟨t, false⟩) else if w = kTax then some (taxV ⟨t, false⟩) else if w = kReserve then some (reserveV ⟨t, false⟩)
  else if w = kCap then some (capV ⟨t, false⟩) else if w = kRecoup then some (recoupV t) else none
def termW (ws : List (List UInt8)) : TermV × Bool :=
  match formV (ws.headD []) (ws.drop 1) with
  | none => (zeroT, false)
  | some p => (p.1, !p.2.bad && p.2.ws.isEmpty && validT p.1)
/-- what package contract's term returns -/
def termV (s : List UInt8) : TermV × Bool := termW (splitL 32 s)

/-! the line of a term -/
def decI (n : Int) : List UInt8 := decDigits n.toNat
def pctI (n : Int) : List UInt8 := pctL n.toNat
def wordsT (t : TermV) : List (List UInt8) :=
  if t.k = 1 then [kPass, pctI t.n, kTo, decI t.m] ++ (if 0 < t.ab then [kAbove, decI t.ab] else [])
  else if t.k = 2 then [kTax, pctI t.n]
  else if t.k = 3 then [kReserve, pctI t.n, kFor, decI t.m]
  else if t.k = 4 then [kCap, decI t.n]
  else kRecoup :: t.acc.map decI
def lineT (t : TermV) : List UInt8 := join (wordsT t) [32]

theorem next_cons (w : List UInt8) (t : List (List UInt8)) : (Rd.mk (w :: t) false).next = (w, ⟨t, false⟩) := by
  unfold Rd.next; rw [if_neg (by simp)]; rfl
theorem next_nil : (Rd.mk [] false).next = ([], ⟨[], true⟩) := by unfold Rd.next; rw [if_pos (by simp)]
theorem next_bad (ws : List (List UInt8)) : (Rd.mk ws true).next = ([], ⟨ws, true⟩) := by unfold Rd.next; rw [if_pos (by simp)]
/-- a reader that is not bad behind a step was not bad ahead of it, and has taken a word -/
theorem next_good {r : Rd} (h : r.next.2.bad = false) : ∃ w t, r = ⟨w :: t, false⟩ ∧ r.next = (w, ⟨t, false⟩) := by
  obtain ⟨ws, b⟩ := r
  cases b with
  | true => rw [next_bad] at h; cases h
  | false =>
    cases ws with
    | nil => rw [next_nil] at h; cases h
    | cons w t => exact ⟨w, t, rfl, next_cons w t⟩
theorem word_good {r : Rd} {k : List UInt8} (h : (r.word k).bad = false) : ∃ t, r = ⟨k :: t, false⟩ ∧ r.word k = ⟨t, false⟩ := by
  unfold Rd.word at h ⊢
  simp only [Bool.or_eq_false_iff, Bool.not_eq_false', beq_iff_eq] at h
  obtain ⟨w, t, hr, hn⟩ := next_good h.2
  rw [hn] at h ⊢
  obtain rfl := h.1
  exact ⟨t, hr, by simp⟩
theorem number_good {r : Rd} (h : r.number.2.bad = false) : ∃ t, ∃ n : Nat, r = ⟨decDigits n :: t, false⟩ ∧ r.number = ((n : Int), ⟨t, false⟩) ∧ n < 9223372036854775808 := by
  unfold Rd.number at h ⊢
  simp only [Bool.or_eq_false_iff, Bool.not_eq_false'] at h
  obtain ⟨w, t, hr, hn⟩ := next_good h.1
  rw [hn] at h ⊢
  obtain ⟨k, hk, hlt, rfl⟩ := digV_sound (show digV w = ((digV w).1, true) by rw [← h.2])
  exact ⟨t, k, hr, by rw [digV_dec hlt]; rfl, hlt⟩
theorem pct_good {r : Rd} (h : r.pct.2.bad = false) : ∃ t, ∃ n : Nat, r = ⟨pctL n :: t, false⟩ ∧ r.pct = ((n : Int), ⟨t, false⟩) ∧ n < 1010000 := by
  unfold Rd.pct at h ⊢
  simp only [Bool.or_eq_false_iff, Bool.not_eq_false'] at h
  obtain ⟨w, t, hr, hn⟩ := next_good h.1
  rw [hn] at h ⊢
  obtain ⟨k, hk, hlt, rfl⟩ := pctV_sound (show pctV w = ((pctV w).1, true) by rw [← h.2])
  exact ⟨t, k, hr, by rw [pctV_pct hlt]; rfl, hlt⟩
theorem word_mk (k : List UInt8) (t : List (List UInt8)) : (Rd.mk (k :: t) false).word k = ⟨t, false⟩ := by
  unfold Rd.word; rw [next_cons]; simp
theorem number_mk {n : Nat} (h : n < 9223372036854775808) (t : List (List UInt8)) : (Rd.mk (decDigits n :: t) false).number = ((n : Int), ⟨t, false⟩) := by
  unfold Rd.number; rw [next_cons, digV_dec h]; rfl
theorem pct_mk {n : Nat} (h : n < 1010000) (t : List (List UInt8)) : (Rd.mk (pctL n :: t) false).pct = ((n : Int), ⟨t, false⟩) := by
  unfold Rd.pct; rw [next_cons, pctV_pct h]; rfl
/-- a bad reader stays bad -/
theorem next_keep {r : Rd} (h : r.bad = true) : r.next.2.bad = true := by unfold Rd.next; rw [if_pos (.inl h)]
theorem word_keep {r : Rd} (k : List UInt8) (h : r.bad = true) : (r.word k).bad = true := by unfold Rd.word; simp [next_keep h]
theorem number_keep {r : Rd} (h : r.bad = true) : r.number.2.bad = true := by unfold Rd.number; simp [next_keep h]
theorem acc_good : ∀ (ws : List (List UInt8)), (accV ws).2.bad = false → (accV ws).2.ws = [] ∧ ws = (accV ws).1.map decI ∧ ∀ a ∈ (accV ws).1, 0 ≤ a
  | [], _ => ⟨rfl, rfl, by simp [accV]⟩
  | w :: t, h => by
    unfold accV at h ⊢
    by_cases hd : (digV w).2 = true
    · rw [if_pos hd] at h ⊢
      obtain ⟨h1, h2, h3⟩ := acc_good t h
      obtain ⟨k, hk, hlt, rfl⟩ := digV_sound (show digV w = ((digV w).1, true) by rw [← hd])
      refine ⟨h1, ?_, ?_⟩
      · rw [List.map_cons, hk, ← h2]; rfl
      · intro a ha
        rcases List.mem_cons.1 ha with e | e
        · rw [e, hk]; omega
        · exact h3 a e
    · rw [if_neg hd] at h; cases h
theorem acc_mk : ∀ (l : List Int), (∀ a ∈ l, 0 ≤ a ∧ a < 9223372036854775808) → accV (l.map decI) = (l, ⟨[], false⟩)
  | [], _ => rfl
  | a :: l, h => by
    have ha := h a (by simp)
    rw [List.map_cons, accV]
    unfold decI
    rw [digV_dec (by omega), if_pos rfl, show (l.map fun n : Int => decDigits n.toNat) = l.map decI from rfl, acc_mk l (fun b hb => h b (by simp [hb]))]
    simp
    omega
theorem validT_cases {t : TermV} (h : validT t = true) :
    (t.k = 1 ∧ 1 ≤ t.n ∧ t.n ≤ 1000000 ∧ t.acc = [] ∧ 1 ≤ t.m ∧ t.m ≤ 1000000 ∧ 0 ≤ t.ab ∧ t.ab ≤ 1000000000000000) ∨
    (t.k = 2 ∧ 1 ≤ t.n ∧ t.n ≤ 1000000 ∧ t.acc = [] ∧ t.m = 0 ∧ t.ab = 0) ∨
    (t.k = 3 ∧ 1 ≤ t.n ∧ t.n ≤ 1000000 ∧ t.acc = [] ∧ 1 ≤ t.m ∧ t.m ≤ 24 ∧ t.ab = 0) ∨
    (t.k = 4 ∧ 0 ≤ t.n ∧ t.n ≤ 1000000000000000 ∧ t.m = 0 ∧ t.ab = 0 ∧ t.acc = []) ∨
    (t.k = 5 ∧ t.n = 0 ∧ t.m = 0 ∧ t.ab = 0 ∧ 1 ≤ t.acc.length ∧ t.acc.length ≤ 10 ∧ (∀ a ∈ t.acc, 1 ≤ a ∧ a ≤ 1000) ∧ t.acc.Nodup) := by
  unfold validT at h
  by_cases h1 : t.k = 1
  · rw [if_pos h1] at h
    simp only [inR, Bool.and_eq_true, decide_eq_true_eq, List.isEmpty_iff] at h
    exact .inl ⟨h1, by omega, by omega, h.1.1.2, by omega, by omega, by omega, by omega⟩
  rw [if_neg h1] at h
  by_cases h2 : t.k = 2
  · rw [if_pos h2] at h
    simp only [inR, Bool.and_eq_true, decide_eq_true_eq, List.isEmpty_iff, beq_iff_eq] at h
    exact .inr (.inl ⟨h2, by omega, by omega, h.1.1.2, by omega, by omega⟩)
  rw [if_neg h2] at h
  by_cases h3 : t.k = 3
  · rw [if_pos h3] at h
    simp only [inR, Bool.and_eq_true, decide_eq_true_eq, List.isEmpty_iff, beq_iff_eq] at h
    exact .inr (.inr (.inl ⟨h3, by omega, by omega, h.1.1.2, by omega, by omega, by omega⟩))
  rw [if_neg h3] at h
  by_cases h4 : t.k = 4
  · rw [if_pos h4] at h
    simp only [inR, Bool.and_eq_true, decide_eq_true_eq, List.isEmpty_iff, beq_iff_eq] at h
    exact .inr (.inr (.inr (.inl ⟨h4, by omega, by omega, by omega, by omega, h.2⟩)))
  rw [if_neg h4] at h
  by_cases h5 : t.k = 5
  · rw [if_pos h5] at h
    simp only [accOk, inR, Bool.and_eq_true, decide_eq_true_eq, beq_iff_eq, List.all_eq_true] at h
    exact .inr (.inr (.inr (.inr ⟨h5, by omega, by omega, by omega, by omega, by omega, fun a ha => h.1.1.1.1.2 a ha, h.1.1.1.2⟩)))
  · rw [if_neg h5] at h; cases h
theorem termW_sound {ws : List (List UInt8)} {t : TermV} (h : termW ws = (t, true)) : validT t = true ∧ wordsT t = ws := by
  obtain ⟨w, r, hw⟩ : ∃ w r, ws = w :: r ∨ ws = [] := by
    cases ws with
    | nil => exact ⟨[], [], .inr rfl⟩
    | cons w r => exact ⟨w, r, .inl rfl⟩
  rcases hw with rfl | rfl
  rotate_left
  · exfalso
    have : termW [] = (zeroT, false) := rfl
    rw [this] at h; cases h
  unfold termW at h
  simp only [List.headD_cons, List.drop_succ_cons, List.drop_zero] at h
  cases hf : formV w r with
  | none => rw [hf] at h; simp at h
  | some p =>
    obtain ⟨t', q⟩ := p
    rw [hf] at h
    simp only [Prod.mk.injEq, Bool.and_eq_true, Bool.not_eq_true', List.isEmpty_iff] at h
    obtain ⟨rfl, ⟨hb, hws⟩, hv⟩ := h
    refine ⟨hv, ?_⟩
    unfold formV at hf
    by_cases h1 : w = kPass
    · rw [if_pos h1] at hf
      simp only [Option.some.injEq] at hf
      unfold passV at hf
      simp only at hf
      obtain ⟨q2, hq2⟩ : ∃ q2, ((Rd.mk r false).pct.2.word kTo).number = q2 := ⟨_, rfl⟩
      rw [hq2] at hf
      by_cases he : q2.2.ws = []
      · rw [if_pos he] at hf
        simp only [Prod.mk.injEq] at hf
        obtain ⟨rfl, rfl⟩ := hf
        rw [← hq2] at hb
        obtain ⟨t3, n3, e3, e4, l3⟩ := number_good hb
        obtain ⟨t2, e5, e6⟩ := word_good (r := (Rd.mk r false).pct.2) (k := kTo) (by rw [e3])
        obtain ⟨t1, n1, e7, e8, l1⟩ := pct_good (r := Rd.mk r false) (by rw [e5])
        rw [e4] at hq2
        subst hq2
        simp only at he
        subst he
        rw [e6] at e3
        rw [e8] at e5
        simp only [Rd.mk.injEq, and_true] at e3 e5 e7
        subst e3
        subst e5
        subst e7
        subst h1
        rw [e8]
        unfold wordsT
        simp [pctI, decI]
      · rw [if_neg he] at hf
        simp only [Prod.mk.injEq] at hf
        obtain ⟨rfl, rfl⟩ := hf
        simp only [Bool.or_eq_false_iff] at hb
        obtain ⟨hb1, hb2⟩ := hb
        obtain ⟨t5, n5, f1, f2, l5⟩ := number_good hb1
        obtain ⟨t4, f3, f4⟩ := word_good (r := q2.2) (k := kAbove) (by rw [f1])
        rw [← hq2] at f3
        obtain ⟨t3, n3, e3, e4, l3⟩ := number_good (by rw [f3])
        obtain ⟨t2, e5, e6⟩ := word_good (r := (Rd.mk r false).pct.2) (k := kTo) (by rw [e3])
        obtain ⟨t1, n1, e7, e8, l1⟩ := pct_good (r := Rd.mk r false) (by rw [e5])
        rw [e4] at hq2 f3
        simp only [Rd.mk.injEq, and_true] at f3
        rw [f4] at f1
        simp only [Rd.mk.injEq, and_true] at f1
        rw [f2] at hws hb2 ⊢
        simp only at hws
        subst hws
        rw [e6] at e3
        rw [e8] at e5
        simp only [Rd.mk.injEq, and_true] at e3 e5 e7
        have hn5 : 0 < (n5 : Int) := by
          simp only [beq_eq_false_iff_ne] at hb2
          omega
        subst f1
        subst f3
        subst e3
        subst e5
        subst e7
        subst h1
        rw [e8, ← hq2]
        unfold wordsT
        simp only [if_pos hn5]
        simp [pctI, decI]
    rw [if_neg h1] at hf
    by_cases h2 : w = kTax
    · rw [if_pos h2] at hf
      simp only [Option.some.injEq, taxV, Prod.mk.injEq] at hf
      obtain ⟨rfl, rfl⟩ := hf
      obtain ⟨t1, n1, e7, e8, l1⟩ := pct_good hb
      rw [e8] at hws ⊢
      simp only [Rd.mk.injEq, and_true] at e7 hws
      subst hws; subst e7; subst h2
      unfold wordsT
      simp [pctI]
    rw [if_neg h2] at hf
    by_cases h3 : w = kReserve
    · rw [if_pos h3] at hf
      simp only [Option.some.injEq, reserveV, Prod.mk.injEq] at hf
      obtain ⟨rfl, rfl⟩ := hf
      obtain ⟨t3, n3, e3, e4, l3⟩ := number_good hb
      obtain ⟨t2, e5, e6⟩ := word_good (r := (Rd.mk r false).pct.2) (k := kFor) (by rw [e3])
      obtain ⟨t1, n1, e7, e8, l1⟩ := pct_good (r := Rd.mk r false) (by rw [e5])
      rw [e4] at hws ⊢
      simp only at hws
      subst hws
      rw [e6] at e3
      rw [e8] at e5
      simp only [Rd.mk.injEq, and_true] at e3 e5 e7
      subst e3
      subst e5
      subst e7
      subst h3
      rw [e8]
      unfold wordsT
      simp [pctI, decI]
    rw [if_neg h3] at hf
    by_cases h4 : w = kCap
    · rw [if_pos h4] at hf
      simp only [Option.some.injEq, capV, Prod.mk.injEq] at hf
      obtain ⟨rfl, rfl⟩ := hf
      obtain ⟨t1, n1, e7, e8, l1⟩ := number_good hb
      rw [e8] at hws ⊢
      simp only [Rd.mk.injEq, and_true] at e7 hws
      subst hws; subst e7; subst h4
      unfold wordsT
      simp [decI]
    rw [if_neg h4] at hf
    by_cases h5 : w = kRecoup
    · rw [if_pos h5] at hf
      simp only [Option.some.injEq, recoupV, Prod.mk.injEq] at hf
      obtain ⟨rfl, rfl⟩ := hf
      obtain ⟨_, e, _⟩ := acc_good r hb
      subst h5
      unfold wordsT
      simp only
      rw [if_neg (by decide), if_neg (by decide), if_neg (by decide), if_neg (by decide), ← e]
    · rw [if_neg h5] at hf; cases hf
theorem termW_mk {t : TermV} (h : validT t = true) : termW (wordsT t) = (t, true) := by
  have hv := h
  obtain ⟨k, n, m, ab, acc⟩ := t
  rcases validT_cases h with ⟨rfl, h2, h3, rfl, h5, h6, h7, h8⟩ | ⟨rfl, h2, h3, rfl, rfl, rfl⟩ | ⟨rfl, h2, h3, rfl, h5, h6, rfl⟩ | ⟨rfl, h2, h3, rfl, rfl, rfl⟩ | ⟨rfl, rfl, rfl, rfl, h5, h6, h7, h8⟩
  all_goals simp only at *
  · obtain ⟨n', rfl⟩ := Int.eq_ofNat_of_zero_le (show 0 ≤ n by omega)
    obtain ⟨m', rfl⟩ := Int.eq_ofNat_of_zero_le (show 0 ≤ m by omega)
    obtain ⟨a', rfl⟩ := Int.eq_ofNat_of_zero_le (show 0 ≤ ab by omega)
    unfold wordsT termW
    simp only [if_true]
    by_cases h0 : (0 : Int) < (a' : Int)
    · rw [if_pos h0]
      simp only [List.cons_append, List.nil_append, List.headD_cons, List.drop_succ_cons, List.drop_zero]
      unfold formV
      rw [if_pos rfl]
      unfold passV pctI decI
      simp only [Int.toNat_natCast]
      rw [pct_mk (by omega)]
      simp only
      rw [word_mk, number_mk (by omega)]
      simp only
      rw [if_neg (by simp), word_mk, number_mk (by omega)]
      simp only [hv]
      have : ((a' : Int) == 0) = false := by rw [beq_eq_false_iff_ne]; omega
      rw [this]
      rfl
    · rw [if_neg h0]
      simp only [List.append_nil, List.headD_cons, List.drop_succ_cons, List.drop_zero]
      unfold formV
      rw [if_pos rfl]
      unfold passV pctI decI
      simp only [Int.toNat_natCast]
      rw [pct_mk (by omega)]
      simp only
      rw [word_mk, number_mk (by omega)]
      simp only [if_true]
      obtain rfl : a' = 0 := by omega
      have hv2 : validT ⟨1, (n' : Int), (m' : Int), 0, []⟩ = true := hv
      rw [hv2]
      rfl
  · obtain ⟨n', rfl⟩ := Int.eq_ofNat_of_zero_le (show 0 ≤ n by omega)
    unfold wordsT termW
    simp only [if_true, if_neg (show ¬ (2 : Int) = 1 by decide), List.headD_cons, List.drop_succ_cons, List.drop_zero]
    unfold formV
    rw [if_neg (by decide), if_pos rfl]
    unfold taxV pctI
    simp only [Int.toNat_natCast]
    rw [pct_mk (by omega)]
    simp only [hv]
    rfl
  · obtain ⟨n', rfl⟩ := Int.eq_ofNat_of_zero_le (show 0 ≤ n by omega)
    obtain ⟨m', rfl⟩ := Int.eq_ofNat_of_zero_le (show 0 ≤ m by omega)
    unfold wordsT termW
    simp only [if_true, if_neg (show ¬ (3 : Int) = 1 by decide), if_neg (show ¬ (3 : Int) = 2 by decide), List.headD_cons, List.drop_succ_cons, List.drop_zero]
    unfold formV
    rw [if_neg (by decide), if_neg (by decide), if_pos rfl]
    unfold reserveV pctI decI
    simp only [Int.toNat_natCast]
    rw [pct_mk (by omega)]
    simp only
    rw [word_mk, number_mk (by omega)]
    simp only [hv]
    rfl
  · obtain ⟨n', rfl⟩ := Int.eq_ofNat_of_zero_le (show 0 ≤ n by omega)
    unfold wordsT termW
    simp only [if_true, if_neg (show ¬ (4 : Int) = 1 by decide), if_neg (show ¬ (4 : Int) = 2 by decide), if_neg (show ¬ (4 : Int) = 3 by decide), List.headD_cons, List.drop_succ_cons, List.drop_zero]
    unfold formV
    rw [if_neg (by decide), if_neg (by decide), if_neg (by decide), if_pos rfl]
    unfold capV decI
    simp only [Int.toNat_natCast]
    rw [number_mk (by omega)]
    simp only [hv]
    rfl
  · unfold wordsT termW
    simp only [if_neg (show ¬ (5 : Int) = 1 by decide), if_neg (show ¬ (5 : Int) = 2 by decide), if_neg (show ¬ (5 : Int) = 3 by decide), if_neg (show ¬ (5 : Int) = 4 by decide), List.headD_cons, List.drop_succ_cons, List.drop_zero]
    unfold formV
    rw [if_neg (by decide), if_neg (by decide), if_neg (by decide), if_neg (by decide), if_pos rfl]
    unfold recoupV
    rw [acc_mk acc (fun a ha => by have := h7 a ha; omega)]
    simp only [hv]
    rfl
theorem pct_no {c : UInt8} (h : isDig c = false) (h2 : c ≠ 46) (h3 : c ≠ 37) (n : Nat) : c ∉ pctL n := by
  unfold pctL
  simp only [List.mem_append, List.mem_singleton, not_or]
  refine ⟨⟨dig_no (dec_digs _) h, ?_⟩, h3⟩
  by_cases h0 : n % 10000 = 0
  · rw [if_pos h0]; simp
  · rw [if_neg h0]
    obtain ⟨j, _, _, _, _, h5⟩ := frac_spec (r := n % 10000) (by omega) (by omega)
    simp only [List.mem_cons, not_or]
    exact ⟨h2, dig_no h5 h⟩
theorem words_no {c : UInt8} (h : isDig c = false) (h2 : c ≠ 46) (h3 : c ≠ 37) (hk : c ∉ kPass ∧ c ∉ kTax ∧ c ∉ kReserve ∧ c ∉ kCap ∧ c ∉ kRecoup ∧ c ∉ kTo ∧ c ∉ kAbove ∧ c ∉ kFor) (t : TermV) : ∀ x ∈ wordsT t, c ∉ x := by
  obtain ⟨k1, k2, k3, k4, k5, k6, k7, k8⟩ := hk
  have hp := fun n => pct_no h h2 h3 n
  have hd := fun n => dig_no (dec_digs n) h
  intro x hx
  unfold wordsT at hx
  split at hx
  · split at hx
    · simp only [List.cons_append, List.nil_append, List.mem_cons, List.not_mem_nil, or_false] at hx
      rcases hx with rfl | rfl | rfl | rfl | rfl | rfl
      all_goals first | assumption | exact hp _ | exact hd _
    · simp only [List.append_nil, List.mem_cons, List.not_mem_nil, or_false] at hx
      rcases hx with rfl | rfl | rfl | rfl
      all_goals first | assumption | exact hp _ | exact hd _
  · split at hx
    · simp only [List.mem_cons, List.not_mem_nil, or_false] at hx
      rcases hx with rfl | rfl
      all_goals first | assumption | exact hp _ | exact hd _
    · split at hx
      · simp only [List.mem_cons, List.not_mem_nil, or_false] at hx
        rcases hx with rfl | rfl | rfl | rfl
        all_goals first | assumption | exact hp _ | exact hd _
      · split at hx
        · simp only [List.mem_cons, List.not_mem_nil, or_false] at hx
          rcases hx with rfl | rfl
          all_goals first | assumption | exact hp _ | exact hd _
        · rcases List.mem_cons.1 hx with rfl | hx
          · assumption
          · obtain ⟨a, _, rfl⟩ := List.mem_map.1 hx
            exact hd _
theorem words_ne (t : TermV) : wordsT t ≠ [] := by
  unfold wordsT
  split
  · simp
  · split
    · simp
    · split
      · simp
      · split <;> simp
theorem split_line (t : TermV) : splitL 32 (lineT t) = wordsT t :=
  split_join _ (words_ne t) (words_no (by decide) (by decide) (by decide) (by decide) t)
/-- THE LAW OF THE LANGUAGE: a line is read as a term exactly if it is the line of this valid term -/
theorem termV_iff (s : List UInt8) (t : TermV) : termV s = (t, true) ↔ validT t = true ∧ lineT t = s := by
  constructor
  · intro h
    obtain ⟨h1, h2⟩ := termW_sound h
    exact ⟨h1, by unfold lineT; rw [h2, join_split]⟩
  · rintro ⟨h1, rfl⟩
    unfold termV
    rw [split_line]
    exact termW_mk h1
theorem line_inj {t u : TermV} (ht : validT t = true) (hu : validT u = true) (h : lineT t = lineT u) : t = u := by
  have h1 := (termV_iff (lineT t) t).2 ⟨ht, rfl⟩
  have h2 := (termV_iff (lineT t) u).2 ⟨hu, h.symm⟩
  rw [h1] at h2
  simpa using h2
theorem line_no {c : UInt8} (h : isDig c = false) (h2 : c ≠ 46) (h3 : c ≠ 37) (h4 : c ≠ 32) (hk : c ∉ kPass ∧ c ∉ kTax ∧ c ∉ kReserve ∧ c ∉ kCap ∧ c ∉ kRecoup ∧ c ∉ kTo ∧ c ∉ kAbove ∧ c ∉ kFor) (t : TermV) : c ∉ lineT t := by
  have hw := words_no h h2 h3 hk t
  have key : ∀ ws : List (List UInt8), (∀ x ∈ ws, c ∉ x) → c ∉ join ws [32] := by
    intro ws
    induction ws with
    | nil => intro _; simp [join_nil]
    | cons x r ih =>
      intro hx
      cases r with
      | nil => rw [join_one]; exact hx x (by simp)
      | cons y r =>
        rw [join2]
        simp only [List.mem_append, List.mem_cons, not_or]
        exact ⟨hx x (by simp), h4, ih fun z hz => hx z (by simp [hz])⟩
  exact key _ hw
theorem line_nl (t : TermV) : (10 : UInt8) ∉ lineT t := line_no (by decide) (by decide) (by decide) (by decide) (by decide) t
theorem line_hd (t : TermV) : lineT t ≠ [] ∧ (lineT t).head? ≠ some 35 := by
  have e : ∀ (x : List UInt8) r, x ≠ [] → x.head? ≠ some 35 → join (x :: r) [32] ≠ [] ∧ (join (x :: r) [32]).head? ≠ some 35 := by
    intro x r hx hh
    rw [join_cons]
    exact ⟨by simp [hx], by rw [head_app hx]; exact hh⟩
  unfold lineT wordsT
  split
  · exact e _ _ (by decide) (by decide)
  · split
    · exact e _ _ (by decide) (by decide)
    · split
      · exact e _ _ (by decide) (by decide)
      · split
        · exact e _ _ (by decide) (by decide)
        · exact e _ _ (by decide) (by decide)
end Go.Proofs.YtfiabonacpepnaaGreatDoor
namespace Go.Proofs.YtfiabonacpepnaaGreatDoor
open Go Go.Lib

def ignoredL (l : List UInt8) : Bool := l.isEmpty || l.head? == some 35
def keepL (ls : List (List UInt8)) : List (List UInt8) := ls.filter fun l => !ignoredL l
/-- terms, number of the line, success: lines from the i-th on, the terms so far -/
def parseGo : List (List UInt8) → Nat → List TermV → List TermV × Nat × Bool
  | [], _, out => (out, 0, true)
  | l :: r, i, out =>
    if ignoredL l = true then parseGo r (i + 1) out
    else if (termV l).2 = true ∧ out.length ≠ 20 then parseGo r (i + 1) (out ++ [(termV l).1])
    else ([], i + 1, false)
def parseV (s : List UInt8) : List TermV × Nat × Bool := if s.length ≤ 2000 then parseGo (splitL 10 s) 0 [] else ([], 0, false)
def textT (l : List TermV) : List UInt8 := l.flatMap fun t => lineT t ++ [10]
def goodL (l : List TermV) : Bool := decide (l.length ≤ 20) && l.all validT
/-- what Print returns -/
def printV (l : List TermV) : List UInt8 := if goodL l = true then textT l else []

theorem parse_mk : ∀ (ls : List (List UInt8)) (i : Nat) (out ts : List TermV), keepL ls = ts.map lineT → (∀ t ∈ ts, validT t = true) → out.length + ts.length ≤ 20 → parseGo ls i out = (out ++ ts, 0, true)
  | [], i, out, ts, h, _, _ => by
    have : ts = [] := by simpa [keepL] using h.symm
    subst this
    simp [parseGo]
  | l :: r, i, out, ts, h, hv, hl => by
    unfold parseGo
    by_cases hi : ignoredL l = true
    · rw [if_pos hi]
      refine parse_mk r (i + 1) out ts ?_ hv hl
      rw [← h]; unfold keepL; rw [List.filter_cons_of_neg (by simp [hi])]
    · rw [if_neg hi]
      have hk : keepL (l :: r) = l :: keepL r := by unfold keepL; rw [List.filter_cons_of_pos (by simp [hi])]
      rw [hk] at h
      cases ts with
      | nil => simp at h
      | cons t ts =>
        simp only [List.map_cons, List.cons.injEq] at h
        have ht := (termV_iff l t).2 ⟨hv t (by simp), h.1.symm⟩
        rw [List.length_cons] at hl
        rw [ht, if_pos ⟨rfl, by omega⟩]
        have := parse_mk r (i + 1) (out ++ [t]) ts h.2 (fun u hu => hv u (by simp [hu])) (by simp; omega)
        rw [this]
        simp
theorem parse_ok : ∀ (ls : List (List UInt8)) (i : Nat) (out : List TermV), (parseGo ls i out).2.2 = true → out.length ≤ 20 → ∃ ts, parseGo ls i out = (out ++ ts, 0, true) ∧ keepL ls = ts.map lineT ∧ (∀ t ∈ ts, validT t = true) ∧ out.length + ts.length ≤ 20
  | [], i, out, _, hl => ⟨[], by simp [parseGo], rfl, by simp, by simpa using hl⟩
  | l :: r, i, out, h, hl => by
    unfold parseGo at h ⊢
    by_cases hi : ignoredL l = true
    · rw [if_pos hi] at h ⊢
      obtain ⟨ts, h1, h2, h3, h4⟩ := parse_ok r (i + 1) out h hl
      refine ⟨ts, h1, ?_, h3, h4⟩
      rw [← h2]; unfold keepL; rw [List.filter_cons_of_neg (by simp [hi])]
    · rw [if_neg hi] at h ⊢
      by_cases ho : (termV l).2 = true ∧ out.length ≠ 20
      · rw [if_pos ho] at h ⊢
        obtain ⟨ts, h1, h2, h3, h4⟩ := parse_ok r (i + 1) _ h (by simp; omega)
        obtain ⟨hv, hln⟩ := (termV_iff l (termV l).1).1 (by rw [← ho.1])
        refine ⟨(termV l).1 :: ts, ?_, ?_, ?_, ?_⟩
        · rw [h1]; simp
        · have hk : keepL (l :: r) = l :: keepL r := by unfold keepL; rw [List.filter_cons_of_pos (by simp [hi])]
          rw [hk, h2, List.map_cons, hln]
        · intro t ht
          rcases List.mem_cons.1 ht with e | e
          · rw [e]; exact hv
          · exact h3 t e
        · simp at h4 ⊢; omega
      · rw [if_neg ho] at h; cases h
theorem parse_bad : ∀ (ls : List (List UInt8)) (i : Nat) (out : List TermV), (parseGo ls i out).2.2 = false → ∃ j, j < ls.length ∧ parseGo ls i out = ([], i + j + 1, false) ∧ (parseGo (ls.take j) i out).2.2 = true ∧ ∀ r, parseGo (ls.take (j + 1) ++ r) i out = ([], i + j + 1, false)
  | [], i, out, h => by simp [parseGo] at h
  | l :: r, i, out, h => by
    unfold parseGo at h
    by_cases hi : ignoredL l = true
    · rw [if_pos hi] at h
      obtain ⟨j, h1, h2, h3, h4⟩ := parse_bad r (i + 1) out h
      refine ⟨j + 1, by simpa using h1, ?_, ?_, fun q => ?_⟩
      · rw [parseGo, if_pos hi, h2]; congr 2; omega
      · rw [List.take_succ_cons, parseGo, if_pos hi]; exact h3
      · rw [List.take_succ_cons, List.cons_append, parseGo, if_pos hi, h4 q]; congr 2; omega
    · rw [if_neg hi] at h
      by_cases ho : (termV l).2 = true ∧ out.length ≠ 20
      · rw [if_pos ho] at h
        obtain ⟨j, h1, h2, h3, h4⟩ := parse_bad r (i + 1) _ h
        refine ⟨j + 1, by simpa using h1, ?_, ?_, fun q => ?_⟩
        · rw [parseGo, if_neg hi, if_pos ho, h2]; congr 2; omega
        · rw [List.take_succ_cons, parseGo, if_neg hi, if_pos ho]; exact h3
        · rw [List.take_succ_cons, List.cons_append, parseGo, if_neg hi, if_pos ho, h4 q]; congr 2; omega
      · refine ⟨0, by simp, ?_, rfl, fun q => ?_⟩
        · rw [parseGo, if_neg hi, if_neg ho]
        · rw [List.take_succ_cons, List.cons_append, parseGo, if_neg hi, if_neg ho]
theorem parse_len (ls : List (List UInt8)) (i : Nat) (out : List TermV) (h : out.length ≤ 20) : (parseGo ls i out).1.length ≤ 20 := by
  cases hb : (parseGo ls i out).2.2 with
  | true =>
    obtain ⟨ts, h1, _, _, h4⟩ := parse_ok ls i out hb h
    rw [h1]; simp; omega
  | false =>
    obtain ⟨j, _, h2, _⟩ := parse_bad ls i out hb
    rw [h2]; simp
theorem keep_app (a b : List (List UInt8)) : keepL (a ++ b) = keepL a ++ keepL b := by unfold keepL; rw [List.filter_append]
theorem keep_lines (ts : List TermV) : keepL (ts.map lineT) = ts.map lineT := by
  unfold keepL
  rw [List.filter_eq_self]
  intro l hl
  obtain ⟨t, _, rfl⟩ := List.mem_map.1 hl
  have := line_hd t
  simp [ignoredL, this.1, this.2]
theorem split_text (ts : List TermV) (s : List UInt8) : splitL 10 (textT ts ++ s) = ts.map lineT ++ splitL 10 s := by
  induction ts with
  | nil => rfl
  | cons t ts ih =>
    unfold textT at ih ⊢
    rw [List.flatMap_cons, List.append_assoc, List.append_assoc, List.singleton_append, split_app _ _ (line_nl t), ih]
    rfl
theorem dec_len : ∀ (k n : Nat), n < 10 ^ (k + 1) → (decDigits n).length ≤ k + 1
  | 0, n, h => by rw [dec_small (by simpa using h)]; simp
  | k + 1, n, h => by
    by_cases h0 : n < 10
    · rw [dec_small h0]; simp
    · have := dec_len k (n / 10) (by rw [Nat.pow_succ] at h; omega)
      rw [dec_big h0, List.length_append]; simp; omega
theorem pct_len {n : Nat} (h : n ≤ 1000000) : (pctL n).length ≤ 8 ∧ 2 ≤ (pctL n).length := by
  have h1 := dec_len 2 (n / 10000) (by omega)
  have h2 := List.length_pos_iff.2 (dec_ne (n / 10000))
  unfold pctL
  rw [List.length_append, List.length_append]
  by_cases h0 : n % 10000 = 0
  · rw [if_pos h0]; simp; omega
  · rw [if_neg h0]
    obtain ⟨j, _, h3, _⟩ := frac_spec (r := n % 10000) (by omega) (by omega)
    have h4 := dec_len 1 (n / 10000) 
    have h5 : n < 1000000 := by omega
    have h6 := h4 (by omega)
    rw [List.length_cons]
    simp; omega
theorem line_len {t : TermV} (h : validT t = true) : (lineT t).length ≤ 60 := by
  have key : ∀ ws : List (List UInt8), (join ws [32]).length ≤ (ws.map (·.length + 1)).sum := by
    intro ws
    induction ws with
    | nil => simp [join_nil]
    | cons x r ih =>
      cases r with
      | nil => rw [join_one]; simp
      | cons y r => rw [join2]; simp at ih ⊢; omega
  have hk := key (wordsT t)
  refine Nat.le_trans hk ?_
  obtain ⟨k, n, m, ab, acc⟩ := t
  rcases validT_cases h with ⟨rfl, h2, h3, rfl, h5, h6, h7, h8⟩ | ⟨rfl, h2, h3, rfl, rfl, rfl⟩ | ⟨rfl, h2, h3, rfl, h5, h6, rfl⟩ | ⟨rfl, h2, h3, rfl, rfl, rfl⟩ | ⟨rfl, rfl, rfl, rfl, h5, h6, h7, h8⟩
  all_goals simp only at *
  · have a := (pct_len (n := n.toNat) (by omega)).1
    have b := dec_len 6 m.toNat (by omega)
    have c := dec_len 15 ab.toNat (by omega)
    unfold wordsT
    simp only [if_true]
    split <;> simp [kPass, kTo, kAbove, pctI, decI] <;> omega
  · have a := (pct_len (n := n.toNat) (by omega)).1
    unfold wordsT
    simp [kTax, pctI]; omega
  · have a := (pct_len (n := n.toNat) (by omega)).1
    have b := dec_len 1 m.toNat (by omega)
    unfold wordsT
    simp [kReserve, kFor, pctI, decI]; omega
  · have b := dec_len 15 n.toNat (by omega)
    unfold wordsT
    simp [kCap, decI]; omega
  · have key2 : ∀ l : List Int, (∀ a ∈ l, 1 ≤ a ∧ a ≤ 1000) → ((l.map decI).map (·.length + 1)).sum ≤ l.length * 5 := by
      intro l
      induction l with
      | nil => intro _; simp
      | cons a l ih =>
        intro hl
        have h1 := ih fun b hb => hl b (by simp [hb])
        have h2 := hl a (by simp)
        have h3 := dec_len 3 a.toNat (by omega)
        simp only [List.map_cons, List.sum_cons, List.length_cons, decI] at h1 ⊢
        omega
    have h9 := key2 acc h7
    unfold wordsT
    simp only [if_neg (show ¬ (5 : Int) = 1 by decide), if_neg (show ¬ (5 : Int) = 2 by decide), if_neg (show ¬ (5 : Int) = 3 by decide), if_neg (show ¬ (5 : Int) = 4 by decide), List.map_cons, List.sum_cons]
    have : kRecoup.length = 6 := rfl
    omega
theorem text_len {l : List TermV} (hv : ∀ t ∈ l, validT t = true) : (textT l).length ≤ l.length * 61 := by
  induction l with
  | nil => simp [textT]
  | cons t l ih =>
    have h1 := ih fun u hu => hv u (by simp [hu])
    have h2 := line_len (hv t (by simp))
    unfold textT at h1 ⊢
    rw [List.flatMap_cons, List.length_append, List.length_append, List.length_cons]
    simp at h1 ⊢; omega
theorem good_iff (l : List TermV) : goodL l = true ↔ l.length ≤ 20 ∧ ∀ t ∈ l, validT t = true := by
  unfold goodL; simp
theorem ofSplit_ok {s : List UInt8} (hs : s.length ≤ 2000) (h : (parseV s).2.2 = true) : ∃ ts, parseV s = (ts, 0, true) ∧ keepL (splitL 10 s) = ts.map lineT ∧ (∀ t ∈ ts, validT t = true) ∧ ts.length ≤ 20 := by
  unfold parseV at h ⊢
  rw [if_pos hs] at h ⊢
  obtain ⟨ts, h1, h2, h3, h4⟩ := parse_ok _ 0 [] h (by simp)
  exact ⟨ts, by rw [h1]; rfl, h2, h3, by simpa using h4⟩
theorem ofSplit_mk {s : List UInt8} (hs : s.length ≤ 2000) {ts : List TermV} (h : keepL (splitL 10 s) = ts.map lineT) (hv : ∀ t ∈ ts, validT t = true) (hl : ts.length ≤ 20) : parseV s = (ts, 0, true) := by
  unfold parseV
  rw [if_pos hs, parse_mk _ 0 [] ts h hv (by simpa using hl)]
  rfl
/-- P14.2: parsing what is printed -/
theorem round_trip {l : List TermV} (h : goodL l = true) : parseV (printV l) = (l, 0, true) := by
  obtain ⟨h1, h2⟩ := (good_iff l).1 h
  have hl := text_len h2
  unfold printV
  rw [if_pos h]
  refine ofSplit_mk (by omega) ?_ h2 h1
  have := split_text l []
  rw [List.append_nil] at this
  rw [this, keep_app, keep_lines]
  simp [splitL, keepL, ignoredL]
/-- P14.2: printing what is parsed -/
theorem parsed_again {s : List UInt8} (hs : s.length ≤ 2000) (h : (parseV s).2.2 = true) : goodL (parseV s).1 = true ∧ printV (parseV s).1 = (keepL (splitL 10 s)).flatMap (fun l => l ++ [10]) ∧ (parseV s).2.1 = 0 := by
  obtain ⟨ts, h1, h2, h3, h4⟩ := ofSplit_ok hs h
  rw [h1]
  have hg := (good_iff ts).2 ⟨h4, h3⟩
  refine ⟨hg, ?_, rfl⟩
  unfold printV
  rw [if_pos hg, h2]
  unfold textT
  rw [List.flatMap_map]
theorem parse_false {s : List UInt8} (h : (parseV s).2.2 = false) : (parseV s).1 = [] ∧ (1 ≤ (parseV s).2.1 ∨ 2000 < s.length) := by
  unfold parseV at h ⊢
  by_cases hs : s.length ≤ 2000
  · rw [if_pos hs] at h ⊢
    obtain ⟨j, _, h2, _⟩ := parse_bad _ 0 [] h
    rw [h2]
    exact ⟨rfl, .inl (by simp)⟩
  · rw [if_neg hs]; exact ⟨rfl, .inr (by omega)⟩
def kAnd : List UInt8 := [10, 35, 32, 97, 110, 100, 10, 10]
/-- P14.3 -/
theorem joined {s t : List UInt8} (hs : s.length ≤ 1000) (ht : t.length ≤ 900) :
    if (parseV s).2.2 = true ∧ (parseV t).2.2 = true ∧ (parseV s).1.length + (parseV t).1.length ≤ 20 then parseV (s ++ kAnd ++ t) = ((parseV s).1 ++ (parseV t).1, 0, true) else (parseV (s ++ kAnd ++ t)).2.2 = false := by
  have hsp : keepL (splitL 10 (s ++ kAnd ++ t)) = keepL (splitL 10 s) ++ keepL (splitL 10 t) := by
    have e : s ++ kAnd ++ t = s ++ 10 :: ([35, 32, 97, 110, 100] ++ 10 :: ([] ++ 10 :: t)) := by simp [kAnd]
    rw [e, split_two, split_two, split_two, keep_app, keep_app, keep_app]
    have e1 : keepL (splitL 10 [35, 32, 97, 110, 100]) = [] := by decide
    have e2 : keepL (splitL 10 []) = [] := by decide
    rw [e1, e2]
    rfl
  have hl : (s ++ kAnd ++ t).length ≤ 2000 := by
    have : kAnd.length = 8 := rfl
    simp only [List.length_append]; omega
  split
  · rename_i h
    obtain ⟨h1, h2, h3⟩ := h
    obtain ⟨a, ha, ka, va, la⟩ := ofSplit_ok (by omega) h1
    obtain ⟨b, hb, kb, vb, lb⟩ := ofSplit_ok (by omega) h2
    rw [ha, hb] at h3 ⊢
    refine ofSplit_mk hl ?_ ?_ ?_
    · rw [hsp, ka, kb, List.map_append]
    · intro x hx
      rcases List.mem_append.1 hx with e | e
      · exact va x e
      · exact vb x e
    · simpa using h3
  · rename_i h
    cases hb : (parseV (s ++ kAnd ++ t)).2.2 with
    | false => rfl
    | true =>
      exfalso
      obtain ⟨ts, _, kc, vc, lc⟩ := ofSplit_ok hl hb
      rw [hsp] at kc
      obtain ⟨a, b, rfl, e1, e2⟩ := List.map_eq_append_iff.1 kc.symm
      have pa := ofSplit_mk (s := s) (by omega) e1.symm (fun x hx => vc x (by simp [hx])) (by simp at lc; omega)
      have pb := ofSplit_mk (s := t) (by omega) e2.symm (fun x hx => vc x (by simp [hx])) (by simp at lc; omega)
      rw [pa, pb] at h
      exact h ⟨rfl, rfl, by simpa using lc⟩
/-- lines, each with a newline behind it -/
def linesL (ls : List (List UInt8)) : List UInt8 := ls.flatMap fun l => l ++ [10]
theorem split_lines (ls : List (List UInt8)) (h : ∀ l ∈ ls, (10 : UInt8) ∉ l) (s : List UInt8) : splitL 10 (linesL ls ++ s) = ls ++ splitL 10 s := by
  induction ls with
  | nil => rfl
  | cons l ls ih =>
    unfold linesL at ih ⊢
    rw [List.flatMap_cons, List.append_assoc, List.append_assoc, List.singleton_append, split_app _ _ (h l (by simp)), ih fun x hx => h x (by simp [hx])]
    rfl
theorem join_lines (ls : List (List UInt8)) (x : List UInt8) : join (ls ++ [x]) [10] = linesL ls ++ x := by
  induction ls with
  | nil => rw [List.nil_append, join_one]; rfl
  | cons l ls ih =>
    obtain ⟨y, r, hy⟩ : ∃ y r, ls ++ [x] = y :: r := by
      cases ls with
      | nil => exact ⟨_, _, rfl⟩
      | cons z t => exact ⟨_, _, rfl⟩
    rw [List.cons_append, hy, join2, ← hy, ih]
    unfold linesL
    rw [List.flatMap_cons]
    simp
theorem join_len (ls : List (List UInt8)) (r : List (List UInt8)) (h : ls ≠ []) : (join ls [10]).length ≤ (join (ls ++ r) [10]).length := by
  cases ls with
  | nil => exact absurd rfl h
  | cons x t =>
    rw [List.cons_append, join_cons, join_cons]
    simp [joinTail]
/-- P14.4: the lines before the one that is complained of are a contract, and with it they are none -/
theorem first_error {s : List UInt8} (hs : s.length ≤ 2000) (h : (parseV s).2.2 = false) : ∃ j l, (parseV s) = ([], j + 1, false) ∧ (splitL 10 s)[j]? = some l ∧ (parseV (linesL ((splitL 10 s).take j))).2.2 = true ∧ parseV (linesL ((splitL 10 s).take j) ++ l) = ([], j + 1, false) := by
  have h' := h
  unfold parseV at h'
  rw [if_pos hs] at h'
  obtain ⟨j, hj, h2, h3, h4⟩ := parse_bad _ 0 [] h'
  obtain ⟨l, hl⟩ : ∃ l, (splitL 10 s)[j]? = some l := ⟨_, List.getElem?_eq_getElem hj⟩
  have hno : ∀ x ∈ (splitL 10 s).take j, (10 : UInt8) ∉ x := fun x hx => split_mem (List.mem_of_mem_take hx)
  have hnl : (10 : UInt8) ∉ l := split_mem (List.mem_of_getElem? hl)
  have htk : (splitL 10 s).take (j + 1) = (splitL 10 s).take j ++ [l] := by rw [List.take_add_one, hl]; rfl
  have hlen : (linesL ((splitL 10 s).take j) ++ l).length ≤ 2000 := by
    rw [← join_lines, ← htk]
    have h5 := join_len ((splitL 10 s).take (j + 1)) ((splitL 10 s).drop (j + 1)) (by rw [htk]; simp)
    rw [List.take_append_drop, join_split] at h5
    omega
  have e1 := split_lines _ hno []
  rw [List.append_nil] at e1
  have e2 := split_lines _ hno l
  rw [split_word hnl] at e2
  rw [Nat.zero_add] at h2 h4
  refine ⟨j, l, ?_, hl, ?_, ?_⟩
  · unfold parseV; rw [if_pos hs, h2]
  · unfold parseV
    rw [if_pos (by simp only [List.length_append] at hlen; omega), e1]
    obtain ⟨ts, _, k1, v1, l1⟩ := parse_ok _ 0 [] h3 (by simp)
    have : keepL ((splitL 10 s).take j ++ splitL 10 []) = ts.map lineT := by
      rw [keep_app, k1]; simp [splitL, keepL, ignoredL]
    rw [parse_mk _ 0 [] ts this v1 (by simpa using l1)]
  · unfold parseV
    rw [if_pos hlen, e2, ← htk]
    have := h4 []
    rw [List.append_nil] at this
    exact this
end Go.Proofs.YtfiabonacpepnaaGreatDoor
