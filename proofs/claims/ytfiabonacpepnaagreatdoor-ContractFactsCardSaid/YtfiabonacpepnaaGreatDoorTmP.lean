/- Terms in plain words: no program in sight. -/

namespace Go.Proofs.YtfiabonacpepnaaGreatDoor

structure TermV where
  k : Int
  n : Int
  m : Int
  ab : Int
  acc : List Int
/-- the head of a row: what comes in -/
structure RowV where
  h : Int
  p : Int
  e : Int
  rc : Int
  rl : Int
  b : Int
/-- what is being settled -/
structure StV where
  left : Int
  pa : Int
  ta : Int
  re : Int
  ro : Int
  ca : Int
  ps : List (Int × Int)
  rs : List (Int × Int × Int)
  bs : List (Int × Int)

def inR (x a b : Int) : Bool := decide (a ≤ x) && decide (x ≤ b)
def accOk (l : List Int) : Bool := inR l.length 1 10 && l.all (fun x => inR x 1 1000) && decide l.Nodup
def validT (t : TermV) : Bool :=
  if t.k = 1 then inR t.n 1 1000000 && t.acc.isEmpty && inR t.m 1 1000000 && inR t.ab 0 1000000000000000
  else if t.k = 2 then inR t.n 1 1000000 && t.acc.isEmpty && t.m == 0 && t.ab == 0
  else if t.k = 3 then inR t.n 1 1000000 && t.acc.isEmpty && inR t.m 1 24 && t.ab == 0
  else if t.k = 4 then inR t.n 0 1000000000000000 && t.m == 0 && t.ab == 0 && t.acc.isEmpty
  else if t.k = 5 then accOk t.acc && t.n == 0 && t.m == 0 && t.ab == 0
  else false
def partN (x n : Int) : Int := x * n / 1000000
def findB (bs : List (Int × Int)) (a : Int) : Option Nat := bs.findIdx? fun b => b.1 == a
def recStep (S : StV) (a : Int) : StV :=
  match findB S.bs a with
  | none => S
  | some i => match S.bs[i]? with
    | none => S
    | some b => { S with left := S.left - min S.left (max b.2 0), ro := S.ro + min S.left (max b.2 0), bs := S.bs.set i (b.1, b.2 - min S.left (max b.2 0)) }
def passStep (S : StV) (t : TermV) : StV :=
  let x := partN (max (S.left - t.ab) 0) t.n
  { S with left := S.left - x, pa := S.pa + x, ps := S.ps ++ if 0 < x then [(t.m, x)] else [] }
def taxStep (S : StV) (t : TermV) : StV :=
  let x := partN S.left t.n
  { S with left := S.left - x, ta := S.ta + x }
def resStep (h p : Int) (S : StV) (t : TermV) : StV :=
  let x := partN S.left t.n
  { S with left := S.left - x, re := S.re + x, rs := S.rs ++ if 0 < x then [(h, p + t.m, x)] else [] }
def capStep (S : StV) (t : TermV) : StV :=
  let x := max (S.left - t.n) 0
  { S with left := S.left - x, ca := S.ca + x }
def doTerm (h p : Int) (S : StV) (t : TermV) : StV :=
  if t.k = 1 then passStep S t else if t.k = 2 then taxStep S t else if t.k = 3 then resStep h p S t else if t.k = 4 then capStep S t else t.acc.foldl recStep S
def stepT (h p : Int) (S : StV) (t : TermV) : StV := if validT t then doTerm h p S t else S
def RowV.sum (R : RowV) : Int := R.e + R.rc + R.rl + R.b
def openR (R : RowV) : Bool := inR R.e 0 1000000000000000000 && inR R.rc 0 1000000000000000000 && inR R.rl 0 1000000000000000000 && inR R.b 0 1000000000000000000 && decide (R.sum ≤ 1000000000000000000)
def startS (R : RowV) (bs : List (Int × Int)) : StV := ⟨R.sum, 0, 0, 0, 0, 0, [], [], bs⟩
def runS (l : List TermV) (R : RowV) (bs : List (Int × Int)) : StV := l.foldl (stepT R.h R.p) (startS R bs)
/-- the last step: whole cents are paid -/
def paidOf (S : StV) : Int := S.left - S.left % 10000
def carriedOf (S : StV) : Int := S.ca + S.left % 10000

/-- nothing is lost: what is left and what is booked add up to the whole -/
structure GoodS (T : Int) (S : StV) : Prop where
  l0 : 0 ≤ S.left
  p0 : 0 ≤ S.pa
  t0 : 0 ≤ S.ta
  r0 : 0 ≤ S.re
  o0 : 0 ≤ S.ro
  c0 : 0 ≤ S.ca
  sum : S.left + S.pa + S.ta + S.re + S.ro + S.ca = T
theorem partN_bd {x n : Int} (hx : 0 ≤ x) (hn : 0 ≤ n) (hn2 : n ≤ 1000000) : 0 ≤ partN x n ∧ partN x n ≤ x := by
  unfold partN
  have h1 : 0 ≤ x * n := Int.mul_nonneg hx hn
  have h2 : x * n ≤ x * 1000000 := Int.mul_le_mul_of_nonneg_left hn2 hx
  constructor
  · exact Int.ediv_nonneg h1 (by omega)
  · omega
theorem GoodS.part {T : Int} {S : StV} (h : GoodS T S) {n : Int} (hn : inR n 1 1000000 = true) : 0 ≤ partN S.left n ∧ partN S.left n ≤ S.left := by
  unfold inR at hn
  rw [Bool.and_eq_true, decide_eq_true_eq, decide_eq_true_eq] at hn
  exact partN_bd h.l0 (by omega) hn.2
theorem GoodS.recStep {T : Int} {S : StV} (h : GoodS T S) (a : Int) : GoodS T (recStep S a) := by
  unfold Go.Proofs.YtfiabonacpepnaaGreatDoor.recStep
  split
  · exact h
  · split
    · exact h
    · rename_i b _
      have := h.l0
      have := h.o0
      have := h.sum
      exact ⟨by dsimp only; omega, h.p0, h.t0, h.r0, by dsimp only; omega, h.c0, by dsimp only; omega⟩
theorem GoodS.recAll {T : Int} : ∀ (l : List Int) {S : StV}, GoodS T S → GoodS T (l.foldl Go.Proofs.YtfiabonacpepnaaGreatDoor.recStep S)
  | [], _, h => h
  | a :: l, _, h => GoodS.recAll l (h.recStep a)
theorem GoodS.pass {T : Int} {S : StV} (h : GoodS T S) {t : TermV} (hn : inR t.n 1 1000000 = true) (ha : 0 ≤ t.ab) : GoodS T (passStep S t) := by
  unfold inR at hn
  rw [Bool.and_eq_true, decide_eq_true_eq, decide_eq_true_eq] at hn
  have hp := partN_bd (x := max (S.left - t.ab) 0) (n := t.n) (by omega) (by omega) hn.2
  have h1 := h.l0
  have h2 := h.p0
  have h3 := h.sum
  exact ⟨by dsimp only [passStep]; omega, by dsimp only [passStep]; omega, h.t0, h.r0, h.o0, h.c0, by dsimp only [passStep]; omega⟩
theorem GoodS.tax {T : Int} {S : StV} (h : GoodS T S) {t : TermV} (hn : inR t.n 1 1000000 = true) : GoodS T (taxStep S t) := by
  have hp := h.part hn
  have h1 := h.l0
  have h2 := h.t0
  have h3 := h.sum
  exact ⟨by dsimp only [taxStep]; omega, h.p0, by dsimp only [taxStep]; omega, h.r0, h.o0, h.c0, by dsimp only [taxStep]; omega⟩
theorem GoodS.res {T : Int} {S : StV} (h : GoodS T S) {t : TermV} {hh p : Int} (hn : inR t.n 1 1000000 = true) : GoodS T (resStep hh p S t) := by
  have hp := h.part hn
  have h1 := h.l0
  have h2 := h.r0
  have h3 := h.sum
  exact ⟨by dsimp only [resStep]; omega, h.p0, h.t0, by dsimp only [resStep]; omega, h.o0, h.c0, by dsimp only [resStep]; omega⟩
theorem GoodS.cap {T : Int} {S : StV} (h : GoodS T S) {t : TermV} (hn : 0 ≤ t.n) : GoodS T (capStep S t) := by
  have h1 := h.l0
  have h2 := h.c0
  have h3 := h.sum
  exact ⟨by dsimp only [capStep]; omega, h.p0, h.t0, h.r0, h.o0, by dsimp only [capStep]; omega, by dsimp only [capStep]; omega⟩
theorem validT_kinds {t : TermV} (h : validT t = true) : t.k = 1 ∨ t.k = 2 ∨ t.k = 3 ∨ t.k = 4 ∨ t.k = 5 := by
  unfold validT at h
  split at h
  · exact .inl (by assumption)
  · split at h
    · exact .inr (.inl (by assumption))
    · split at h
      · exact .inr (.inr (.inl (by assumption)))
      · split at h
        · exact .inr (.inr (.inr (.inl (by assumption))))
        · split at h
          · exact .inr (.inr (.inr (.inr (by assumption))))
          · cases h
theorem validT_1 {t : TermV} (h : validT t = true) (hk : t.k = 1) : inR t.n 1 1000000 = true ∧ t.acc = [] ∧ inR t.m 1 1000000 = true ∧ inR t.ab 0 1000000000000000 = true := by
  unfold validT at h
  rw [if_pos hk] at h
  simp only [Bool.and_eq_true, List.isEmpty_iff] at h
  exact ⟨h.1.1.1, h.1.1.2, h.1.2, h.2⟩
theorem validT_2 {t : TermV} (h : validT t = true) (hk : t.k = 2) : inR t.n 1 1000000 = true ∧ t.acc = [] ∧ t.m = 0 ∧ t.ab = 0 := by
  unfold validT at h
  rw [if_neg (by omega), if_pos hk] at h
  simp only [Bool.and_eq_true, List.isEmpty_iff, beq_iff_eq] at h
  exact ⟨h.1.1.1, h.1.1.2, h.1.2, h.2⟩
theorem validT_3 {t : TermV} (h : validT t = true) (hk : t.k = 3) : inR t.n 1 1000000 = true ∧ t.acc = [] ∧ inR t.m 1 24 = true ∧ t.ab = 0 := by
  unfold validT at h
  rw [if_neg (by omega), if_neg (by omega), if_pos hk] at h
  simp only [Bool.and_eq_true, List.isEmpty_iff, beq_iff_eq] at h
  exact ⟨h.1.1.1, h.1.1.2, h.1.2, h.2⟩
theorem validT_4 {t : TermV} (h : validT t = true) (hk : t.k = 4) : inR t.n 0 1000000000000000 = true ∧ t.m = 0 ∧ t.ab = 0 ∧ t.acc = [] := by
  unfold validT at h
  rw [if_neg (by omega), if_neg (by omega), if_neg (by omega), if_pos hk] at h
  simp only [Bool.and_eq_true, List.isEmpty_iff, beq_iff_eq] at h
  exact ⟨h.1.1.1, h.1.1.2, h.1.2, h.2⟩
theorem validT_5 {t : TermV} (h : validT t = true) (hk : t.k = 5) : accOk t.acc = true ∧ t.n = 0 ∧ t.m = 0 ∧ t.ab = 0 := by
  unfold validT at h
  rw [if_neg (by omega), if_neg (by omega), if_neg (by omega), if_neg (by omega), if_pos hk] at h
  simp only [Bool.and_eq_true, beq_iff_eq] at h
  exact ⟨h.1.1.1, h.1.1.2, h.1.2, h.2⟩
theorem inR_iff {x a b : Int} : inR x a b = true ↔ a ≤ x ∧ x ≤ b := by
  unfold inR
  rw [Bool.and_eq_true, decide_eq_true_eq, decide_eq_true_eq]
theorem GoodS.term {T : Int} {S : StV} (h : GoodS T S) (hh p : Int) (t : TermV) : GoodS T (stepT hh p S t) := by
  unfold stepT
  split
  · rename_i hv
    unfold doTerm
    rcases validT_kinds hv with e | e | e | e | e
    · rw [if_pos e]; have := validT_1 hv e; exact h.pass this.1 (inR_iff.1 this.2.2.2).1
    · rw [if_neg (by omega), if_pos e]; exact h.tax (validT_2 hv e).1
    · rw [if_neg (by omega), if_neg (by omega), if_pos e]; exact h.res (validT_3 hv e).1
    · rw [if_neg (by omega), if_neg (by omega), if_neg (by omega), if_pos e]; exact h.cap (inR_iff.1 (validT_4 hv e).1).1
    · rw [if_neg (by omega), if_neg (by omega), if_neg (by omega), if_neg (by omega)]; exact GoodS.recAll _ h
  · exact h
theorem GoodS.run {T : Int} (hh p : Int) : ∀ (l : List TermV) {S : StV}, GoodS T S → GoodS T (l.foldl (stepT hh p) S)
  | [], _, h => h
  | t :: l, _, h => GoodS.run hh p l (h.term hh p t)
theorem openR_iff {R : RowV} : openR R = true ↔ (0 ≤ R.e ∧ R.e ≤ 1000000000000000000) ∧ (0 ≤ R.rc ∧ R.rc ≤ 1000000000000000000) ∧ (0 ≤ R.rl ∧ R.rl ≤ 1000000000000000000) ∧ (0 ≤ R.b ∧ R.b ≤ 1000000000000000000) ∧ R.sum ≤ 1000000000000000000 := by
  unfold openR
  simp only [Bool.and_eq_true, inR_iff, decide_eq_true_eq]
  constructor
  · intro h; exact ⟨h.1.1.1.1, h.1.1.1.2, h.1.1.2, h.1.2, h.2⟩
  · intro h; exact ⟨⟨⟨⟨h.1, h.2.1⟩, h.2.2.1⟩, h.2.2.2.1⟩, h.2.2.2.2⟩
theorem good_start {R : RowV} (h : openR R = true) (bs : List (Int × Int)) : GoodS R.sum (startS R bs) := by
  have := openR_iff.1 h
  refine ⟨?_, by simp [startS], by simp [startS], by simp [startS], by simp [startS], by simp [startS], by simp [startS]⟩
  show 0 ≤ R.sum
  unfold RowV.sum
  omega
end Go.Proofs.YtfiabonacpepnaaGreatDoor
