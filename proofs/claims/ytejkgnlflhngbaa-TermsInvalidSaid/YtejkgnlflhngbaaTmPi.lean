/- TermsInvalid in plain words: what is not valid and what is not named makes no difference. -/
import Derived.Test.YtejkgnlflhngbaaTmPp
namespace Go.Proofs.Ytejkgnlflhngbaa

def setL : List (Int × Int) → Int → Int → List (Int × Int)
  | [], _, _ => []
  | b :: l, a, y => if b.1 == a then (b.1, y) :: l else b :: setL l a y
theorem findB_eq : ∀ (l : List (Int × Int)) (a : Int), (findB l a = none ∧ l.find? (·.1 == a) = none) ∨ ∃ i b, findB l a = some i ∧ l[i]? = some b ∧ l.find? (·.1 == a) = some b ∧ ∀ y, l.set i (b.1, y) = setL l a y
  | [], a => .inl ⟨rfl, rfl⟩
  | c :: l, a => by
    by_cases h : (c.1 == a) = true
    · refine .inr ⟨0, c, ?_, rfl, ?_, fun y => ?_⟩
      · unfold findB; rw [List.findIdx?_cons, if_pos h]
      · rw [List.find?_cons, h]
      · show (c.1, y) :: l = setL (c :: l) a y
        unfold setL
        rw [if_pos h]
    · have h' : (c.1 == a) = false := by simpa using h
      rcases findB_eq l a with ⟨h1, h2⟩ | ⟨i, b, h1, h2, h3, h4⟩
      · refine .inl ⟨?_, ?_⟩
        · unfold findB at h1 ⊢; rw [List.findIdx?_cons, if_neg h, h1]; rfl
        · rw [List.find?_cons, h']; exact h2
      · refine .inr ⟨i + 1, b, ?_, h2, ?_, fun y => ?_⟩
        · unfold findB at h1 ⊢; rw [List.findIdx?_cons, if_neg h, h1]; rfl
        · rw [List.find?_cons, h']; exact h3
        · show c :: l.set i (b.1, y) = setL (c :: l) a y
          unfold setL
          rw [if_neg h, h4]
def recF (S : StV) (a : Int) : StV := match S.bs.find? (·.1 == a) with
  | none => S
  | some b => { S with left := S.left - min S.left (max b.2 0), ro := S.ro + min S.left (max b.2 0), bs := setL S.bs a (b.2 - min S.left (max b.2 0)) }
theorem recStep_eq (S : StV) (a : Int) : recStep S a = recF S a := by
  unfold recStep recF
  rcases findB_eq S.bs a with ⟨h1, h2⟩ | ⟨i, b, h1, h2, h3, h4⟩
  · rw [h1, h2]
  · rw [h1, h3]
    dsimp only
    rw [h2]
    dsimp only
    rw [h4]
def nmd (N : List Int) (b : Int × Int) : Bool := N.any (· == b.1)
theorem nmd_mem {N : List Int} {b : Int × Int} : nmd N b = true ↔ b.1 ∈ N := by
  unfold nmd
  simp
theorem nmd_fst {N : List Int} {b c : Int × Int} (h : b.1 = c.1) : nmd N b = nmd N c := by unfold nmd; rw [h]
theorem find_filter {N : List Int} {a : Int} (ha : a ∈ N) : ∀ (l : List (Int × Int)), (l.filter (nmd N)).find? (·.1 == a) = l.find? (·.1 == a)
  | [] => rfl
  | c :: l => by
    by_cases h : (c.1 == a) = true
    · have hn : nmd N c = true := nmd_mem.2 (by rw [beq_iff_eq] at h; rw [h]; exact ha)
      rw [List.filter_cons_of_pos hn, List.find?_cons, List.find?_cons, h]
    · have h' : (c.1 == a) = false := by simpa using h
      rw [List.find?_cons (as := l), h']
      by_cases hn : nmd N c = true
      · rw [List.filter_cons_of_pos hn, List.find?_cons, h']
        exact find_filter ha l
      · rw [List.filter_cons_of_neg hn]
        exact find_filter ha l
theorem set_filter {N : List Int} {a : Int} (ha : a ∈ N) (y : Int) : ∀ (l : List (Int × Int)), (setL l a y).filter (nmd N) = setL (l.filter (nmd N)) a y
  | [] => rfl
  | c :: l => by
    by_cases h : (c.1 == a) = true
    · have hn : nmd N c = true := nmd_mem.2 (by rw [beq_iff_eq] at h; rw [h]; exact ha)
      have hn2 : nmd N (c.1, y) = true := by rw [nmd_fst (b := (c.1, y)) (c := c) rfl]; exact hn
      rw [List.filter_cons_of_pos hn]
      unfold setL
      rw [if_pos h, if_pos h, List.filter_cons_of_pos hn2]
    · have e : setL (c :: l) a y = c :: setL l a y := by show (if c.1 == a then _ else _) = _; rw [if_neg h]
      rw [e]
      by_cases hn : nmd N c = true
      · rw [List.filter_cons_of_pos hn, List.filter_cons_of_pos hn, set_filter ha y l]
        show _ = (if c.1 == a then _ else _)
        rw [if_neg h]
      · rw [List.filter_cons_of_neg hn, List.filter_cons_of_neg hn, set_filter ha y l]
/-- the accounts stand; whoever is not named keeps its balance -/
def Stay (N : List Int) (l l' : List (Int × Int)) : Prop := l'.length = l.length ∧ ∀ (i : Nat) b b', l[i]? = some b → l'[i]? = some b' → b'.1 = b.1 ∧ (nmd N b = false → b' = b)
theorem Stay.refl (N : List Int) (l : List (Int × Int)) : Stay N l l := ⟨rfl, fun i b b' e e' => by rw [e] at e'; cases e'; exact ⟨rfl, fun _ => rfl⟩⟩
theorem Stay.set {N : List Int} {a : Int} (ha : a ∈ N) (y : Int) : ∀ (l : List (Int × Int)), Stay N l (setL l a y)
  | [] => Stay.refl N []
  | c :: l => by
    have ih := Stay.set ha y l
    unfold setL
    split
    · rename_i h
      have hn : nmd N c = true := nmd_mem.2 (by rw [beq_iff_eq] at h; rw [h]; exact ha)
      refine ⟨rfl, fun i b b' e e' => ?_⟩
      cases i with
      | zero =>
        simp at e e'
        subst e e'
        exact ⟨rfl, fun h => by rw [hn] at h; cases h⟩
      | succ i =>
        simp at e e'
        rw [e] at e'
        cases e'
        exact ⟨rfl, fun _ => rfl⟩
    · refine ⟨by simp [ih.1], fun i b b' e e' => ?_⟩
      cases i with
      | zero =>
        simp at e e'
        subst e e'
        exact ⟨rfl, fun _ => rfl⟩
      | succ i =>
        simp at e e'
        exact ih.2 i b b' e e'
theorem Stay.trans {N : List Int} {l m n : List (Int × Int)} (h1 : Stay N l m) (h2 : Stay N m n) : Stay N l n := by
  refine ⟨by rw [h2.1, h1.1], fun i b b' e e' => ?_⟩
  have hi : i < m.length := by rw [h1.1]; exact (List.getElem?_eq_some_iff.1 e).1
  have a1 := h1.2 i b _ e (List.getElem?_eq_getElem hi)
  have a2 := h2.2 i _ b' (List.getElem?_eq_getElem hi) e'
  refine ⟨by rw [a2.1, a1.1], fun h => ?_⟩
  have e1 := a1.2 h
  rw [a2.2 (by rw [e1]; exact h), e1]
/-- what the settlement of the named balances alone has to do with the whole one -/
structure Pair (N : List Int) (bs0 : List (Int × Int)) (S S' : StV) : Prop where
  eq : S' = { S with bs := S.bs.filter (nmd N) }
  stay : Stay N bs0 S.bs
theorem Pair.recF {N : List Int} {bs0 : List (Int × Int)} {S S' : StV} (h : Pair N bs0 S S') {a : Int} (ha : a ∈ N) : Pair N bs0 (recF S a) (recF S' a) := by
  have e := h.eq
  subst e
  unfold Go.Proofs.Ytejkgnlflhngbaa.recF
  dsimp only
  rw [find_filter ha]
  cases hf : S.bs.find? (·.1 == a) with
  | none => exact ⟨rfl, h.stay⟩
  | some b =>
    dsimp only
    refine ⟨?_, h.stay.trans (Stay.set ha _ _)⟩
    dsimp only
    rw [set_filter ha]
theorem Pair.recAll {N : List Int} {bs0 : List (Int × Int)} : ∀ (l : List Int) {S S' : StV}, (∀ a ∈ l, a ∈ N) → Pair N bs0 S S' → Pair N bs0 (l.foldl recStep S) (l.foldl recStep S')
  | [], _, _, _, h => h
  | a :: l, S, S', hl, h => by
    rw [List.foldl_cons, List.foldl_cons, recStep_eq, recStep_eq]
    exact Pair.recAll l (fun x hx => hl x (List.mem_cons_of_mem _ hx)) (h.recF (hl a List.mem_cons_self))
theorem Pair.do {N : List Int} {bs0 : List (Int × Int)} {S S' : StV} (h : Pair N bs0 S S') (hh p : Int) {t : TermV} (hv : validT t = true) (hN : t.k = 5 → ∀ a ∈ t.acc, a ∈ N) : Pair N bs0 (doTerm hh p S t) (doTerm hh p S' t) := by
  have e := h.eq
  unfold doTerm
  rcases validT_kinds hv with k | k | k | k | k
  · rw [if_pos k, if_pos k]; subst e; exact ⟨rfl, h.stay⟩
  · rw [if_neg (by omega), if_pos k, if_neg (by omega), if_pos k]; subst e; exact ⟨rfl, h.stay⟩
  · rw [if_neg (by omega), if_neg (by omega), if_pos k, if_neg (by omega), if_neg (by omega), if_pos k]; subst e; exact ⟨rfl, h.stay⟩
  · rw [if_neg (by omega), if_neg (by omega), if_neg (by omega), if_pos k, if_neg (by omega), if_neg (by omega), if_neg (by omega), if_pos k]; subst e; exact ⟨rfl, h.stay⟩
  · rw [if_neg (by omega), if_neg (by omega), if_neg (by omega), if_neg (by omega), if_neg (by omega), if_neg (by omega), if_neg (by omega), if_neg (by omega)]
    exact Pair.recAll _ (hN k) h
theorem Pair.run {N : List Int} {bs0 : List (Int × Int)} (hh p : Int) : ∀ (l : List TermV) {S S' : StV}, (∀ t ∈ l, validT t = true → t.k = 5 → ∀ a ∈ t.acc, a ∈ N) → Pair N bs0 S S' → Pair N bs0 (l.foldl (stepT hh p) S) ((l.filter validT).foldl (stepT hh p) S')
  | [], _, _, _, h => h
  | t :: l, S, S', hl, h => by
    have hl2 : ∀ u ∈ l, validT u = true → u.k = 5 → ∀ a ∈ u.acc, a ∈ N := fun u hu => hl u (List.mem_cons_of_mem _ hu)
    by_cases hv : validT t = true
    · rw [List.filter_cons_of_pos hv, List.foldl_cons, List.foldl_cons]
      refine Pair.run hh p l hl2 ?_
      unfold stepT
      rw [if_pos hv, if_pos hv]
      exact h.do hh p hv (hl t List.mem_cons_self hv)
    · rw [List.filter_cons_of_neg hv, List.foldl_cons]
      refine Pair.run hh p l hl2 ?_
      unfold stepT
      rw [if_neg hv]
      exact h
def named (l : List TermV) : List Int := l.flatMap fun t => if validT t then (if t.k == 5 then t.acc else []) else []
theorem named_mem {l : List TermV} : ∀ t ∈ l, validT t = true → t.k = 5 → ∀ a ∈ t.acc, a ∈ named l := by
  intro t ht hv hk a ha
  unfold named
  refine List.mem_flatMap.2 ⟨t, ht, ?_⟩
  rw [if_pos hv, if_pos (by simpa using hk)]
  exact ha
theorem invalid_law {R : RowV} (l : List TermV) (bs : List (Int × Int)) : Pair (named l) bs (runS l R bs) (runS (l.filter validT) R (bs.filter (nmd (named l)))) :=
  Pair.run R.h R.p l named_mem ⟨rfl, Stay.refl _ _⟩
/-- the last loop's pointer: how many named balances lie before i -/
def kAt (N : List Int) (bs : List (Int × Int)) (i : Nat) : Nat := ((bs.take i).filter (nmd N)).length
theorem filter_at {N : List Int} : ∀ (bs : List (Int × Int)) (i : Nat) b, bs[i]? = some b → nmd N b = true → (bs.filter (nmd N))[kAt N bs i]? = some b ∧ kAt N bs (i + 1) = kAt N bs i + 1
  | [], i, b, h, _ => by simp at h
  | c :: l, 0, b, h, hn => by
    simp at h
    subst h
    unfold kAt
    rw [List.filter_cons_of_pos hn]
    simp [List.filter_cons_of_pos hn]
  | c :: l, i + 1, b, h, hn => by
    have ih := filter_at l i b (by simpa using h) hn
    unfold kAt at ih ⊢
    rw [List.take_succ_cons, List.take_succ_cons]
    by_cases hc : nmd N c = true
    · rw [List.filter_cons_of_pos hc, List.filter_cons_of_pos hc, List.filter_cons_of_pos hc, List.length_cons, List.length_cons, List.getElem?_cons_succ]
      exact ⟨ih.1, by rw [ih.2]⟩
    · rw [List.filter_cons_of_neg hc, List.filter_cons_of_neg hc, List.filter_cons_of_neg hc]
      exact ih
theorem filter_skip {N : List Int} (bs : List (Int × Int)) (i : Nat) (b : Int × Int) (h : bs[i]? = some b) (hn : nmd N b = false) : kAt N bs (i + 1) = kAt N bs i := by
  unfold kAt
  rw [List.take_add_one, h]
  simp [hn]
theorem kAt_stay {N : List Int} {bs bs' : List (Int × Int)} (h : Stay N bs bs') (i : Nat) : kAt N bs' i = kAt N bs i := by
  have e : ∀ n, ((bs'.take n).map (nmd N)) = ((bs.take n).map (nmd N)) := by
    intro n
    apply List.ext_getElem?
    intro j
    rw [List.getElem?_map, List.getElem?_map, List.getElem?_take, List.getElem?_take]
    split
    · cases hb : bs[j]? with
      | none =>
        have := List.getElem?_eq_none_iff.1 hb
        rw [List.getElem?_eq_none (by rw [h.1]; exact this)]
      | some b =>
        have hj : j < bs'.length := by rw [h.1]; exact (List.getElem?_eq_some_iff.1 hb).1
        rw [List.getElem?_eq_getElem hj]
        have := h.2 j b _ hb (List.getElem?_eq_getElem hj)
        simp [nmd_fst this.1]
    · rfl
  have f : ∀ l : List (Int × Int), (l.filter (nmd N)).length = ((l.map (nmd N)).filter (· == true)).length := by
    intro l
    induction l with
    | nil => rfl
    | cons c l ih => cases hc : nmd N c <;> simp [hc, ih]
  unfold kAt
  rw [f, f, e]
theorem kAt_le {N : List Int} (bs : List (Int × Int)) (i : Nat) : kAt N bs i ≤ (bs.filter (nmd N)).length := by
  unfold kAt
  have h := List.take_append_drop i bs
  have h2 : bs.filter (nmd N) = (bs.take i).filter (nmd N) ++ (bs.drop i).filter (nmd N) := by rw [← List.filter_append, h]
  rw [h2, List.length_append]
  omega
theorem kAt_all {N : List Int} (bs : List (Int × Int)) : kAt N bs bs.length = (bs.filter (nmd N)).length := by
  unfold kAt
  rw [List.take_length]
/-- the last loop's tests -/
theorem invalid_last {N : List Int} {bs bs' : List (Int × Int)} (h : Stay N bs bs') (i : Nat) (b b' : Int × Int) (hb : bs[i]? = some b) (hb' : bs'[i]? = some b') :
    (nmd N b = true → (bs.filter (nmd N))[kAt N bs i]? = some b ∧ (bs'.filter (nmd N))[kAt N bs i]? = some b' ∧ kAt N bs (i + 1) = kAt N bs i + 1) ∧
    (nmd N b = false → b' = b ∧ kAt N bs (i + 1) = kAt N bs i ∧ ∀ c, (bs.filter (nmd N))[kAt N bs i]? = some c → c.1 ≠ b.1) := by
  have hs := h.2 i b b' hb hb'
  refine ⟨fun hn => ?_, fun hn => ⟨hs.2 hn, filter_skip bs i b hb hn, fun c hc e => ?_⟩⟩
  · have h1 := filter_at bs i b hb hn
    have h2 := filter_at bs' i b' hb' (by rw [nmd_fst hs.1]; exact hn)
    rw [kAt_stay h] at h2
    exact ⟨h1.1, h2.1, h1.2⟩
  · have hm : c ∈ bs.filter (nmd N) := List.mem_of_getElem? hc
    have := (List.mem_filter.1 hm).2
    rw [nmd_fst e, hn] at this
    cases this
end Go.Proofs.Ytejkgnlflhngbaa
