/- Binding: two accepted proofs of different entries hold a collision. -/
import Derived.Test.YtgmdjbhclihflaaDoorDgPc
namespace Go.Proofs.YtgmdjbhclihflaaDoor
open Go Go.RowKit Go.Lib Go.Shelf

/-- two different strings at the same place with the same Sum -/
def collB : List (List UInt8) → List (List UInt8) → Bool
  | x :: a, y :: b => (x != y && shaB x == shaB y) || collB a b
  | _, _ => false
theorem collB_head {x y : List UInt8} {a b : List (List UInt8)} (h : x ≠ y) (hs : shaB x = shaB y) : collB (x :: a) (y :: b) = true := by
  rw [collB, hs]; simp [h]
theorem collB_tail {x y : List UInt8} {a b : List (List UInt8)} (h : collB a b = true) : collB (x :: a) (y :: b) = true := by
  rw [collB, h]; simp
/-- the strings hashed for an accepted proof, from the root on, and the value; rp is the proof from its end on -/
def wayL : List (List UInt8) → Nat → Nat → List UInt8 → List (List UInt8) × List UInt8
  | [], _, _, s => ([0 :: s], leafB s)
  | x :: r, n, i, s => if n ≤ 1 then ([0 :: s], leafB s)
    else if i < leftN n then ((1 :: ((wayL r (leftN n) i s).2 ++ x)) :: (wayL r (leftN n) i s).1, nodeB (wayL r (leftN n) i s).2 x)
    else ((1 :: (x ++ (wayL r (n - leftN n) (i - leftN n) s).2)) :: (wayL r (n - leftN n) (i - leftN n) s).1, nodeB x (wayL r (n - leftN n) (i - leftN n) s).2)
theorem wayL_one {rp : List (List UInt8)} {n i : Nat} {s : List UInt8} (h : n ≤ 1 ∨ rp = []) : wayL rp n i s = ([0 :: s], leafB s) := by
  cases rp with
  | nil => rfl
  | cons x r => rw [wayL, if_pos (by rcases h with h | h; exact h; cases h)]
theorem wayL_lt {x : List UInt8} {r : List (List UInt8)} {n i : Nat} {s : List UInt8} (h : ¬ n ≤ 1) (hi : i < leftN n) : wayL (x :: r) n i s = ((1 :: ((wayL r (leftN n) i s).2 ++ x)) :: (wayL r (leftN n) i s).1, nodeB (wayL r (leftN n) i s).2 x) := by
  rw [wayL, if_neg h, if_pos hi]
theorem wayL_ge {x : List UInt8} {r : List (List UInt8)} {n i : Nat} {s : List UInt8} (h : ¬ n ≤ 1) (hi : ¬ i < leftN n) : wayL (x :: r) n i s = ((1 :: (x ++ (wayL r (n - leftN n) (i - leftN n) s).2)) :: (wayL r (n - leftN n) (i - leftN n) s).1, nodeB x (wayL r (n - leftN n) (i - leftN n) s).2) := by
  rw [wayL, if_neg h, if_neg hi]
theorem wayL_len : ∀ (rp : List (List UInt8)) (n i : Nat) (s : List UInt8), (wayL rp n i s).2.length = 32 := by
  intro rp
  cases rp with
  | nil => intro n i s; exact shaB_len _
  | cons x r =>
    intro n i s
    rw [wayL]
    split
    · exact shaB_len _
    · split <;> exact shaB_len _
theorem wayL_small : ∀ (rp : List (List UInt8)) (n i : Nat) (s : List UInt8) (K : Nat), s.length ≤ K → (∀ x ∈ rp, x.length ≤ K) → ∀ y ∈ (wayL rp n i s).1, y.length ≤ K + 33 := by
  intro rp
  induction rp with
  | nil => intro n i s K hs _ y hy; simp [wayL] at hy; subst hy; simp; omega
  | cons x r ih =>
    intro n i s K hs hx y hy
    have hx0 := hx x List.mem_cons_self
    by_cases h1 : n ≤ 1
    · rw [wayL_one (.inl h1)] at hy; simp at hy; subst hy; simp; omega
    · by_cases hi : i < leftN n
      · rw [wayL_lt h1 hi] at hy
        rcases List.mem_cons.1 hy with rfl | hy
        · have := wayL_len r (leftN n) i s
          simp; omega
        · exact ih _ _ _ _ hs (fun z hz => hx z (List.mem_cons_of_mem _ hz)) y hy
      · rw [wayL_ge h1 hi] at hy
        rcases List.mem_cons.1 hy with rfl | hy
        · have := wayL_len r (n - leftN n) (i - leftN n) s
          simp; omega
        · exact ih _ _ _ _ hs (fun z hz => hx z (List.mem_cons_of_mem _ hz)) y hy
theorem wayL_ver : ∀ (f n i : Nat) (s : List UInt8) (rp : List (List UInt8)) (v : List UInt8), verV f n i s rp = some v → (wayL rp n i s).2 = v := by
  intro f
  induction f with
  | zero => intro n i s rp v h; simp [verV] at h
  | succ f ih =>
    intro n i s rp v h
    by_cases h1 : n ≤ 1
    · rw [verV_one h1] at h
      split at h
      · next e => subst e; simp at h; rw [wayL_one (.inl h1)]; exact h
      · cases h
    · cases rp with
      | nil => rw [verV_nil h1] at h; cases h
      | cons x r =>
        rw [verV_cons h1] at h
        split at h
        · next hi =>
          obtain ⟨v', hv, rfl⟩ := Option.map_eq_some_iff.1 h
          rw [wayL_lt h1 hi, ih _ _ _ _ _ hv]; rfl
        · next hi =>
          obtain ⟨v', hv, rfl⟩ := Option.map_eq_some_iff.1 h
          rw [wayL_ge h1 hi, ih _ _ _ _ _ hv]; rfl
theorem binding : ∀ (f n i : Nat) (s t : List UInt8) (rp rq : List (List UInt8)) (v : List UInt8), verV f n i s rp = some v → verV f n i t rq = some v → s ≠ t → (∀ x ∈ rp, x.length = 32) → (∀ x ∈ rq, x.length = 32) → collB (wayL rp n i s).1 (wayL rq n i t).1 = true := by
  intro f
  induction f with
  | zero => intro n i s t rp rq v h; simp [verV] at h
  | succ f ih =>
    intro n i s t rp rq v h g hst hp hq
    by_cases h1 : n ≤ 1
    · rw [wayL_one (.inl h1), wayL_one (.inl h1)]
      rw [verV_one h1] at h g
      split at h
      · split at g
        · simp at h g
          exact collB_head (by simpa using hst) (h.trans g.symm)
        · cases g
      · cases h
    · cases rp with
      | nil => rw [verV_nil h1] at h; cases h
      | cons x r =>
        cases rq with
        | nil => rw [verV_nil h1] at g; cases g
        | cons y q =>
          rw [verV_cons h1] at h g
          have hx := hp x List.mem_cons_self
          have hy := hq y List.mem_cons_self
          have hp' := fun z hz => hp z (List.mem_cons_of_mem x hz)
          have hq' := fun z hz => hq z (List.mem_cons_of_mem y hz)
          by_cases hi : i < leftN n
          · rw [if_pos hi] at h g
            obtain ⟨v1, hv1, e1⟩ := Option.map_eq_some_iff.1 h
            obtain ⟨v2, hv2, e2⟩ := Option.map_eq_some_iff.1 g
            rw [wayL_lt h1 hi, wayL_lt h1 hi]
            have w1 := wayL_ver _ _ _ _ _ _ hv1
            have w2 := wayL_ver _ _ _ _ _ _ hv2
            rw [w1, w2]
            by_cases hd : (1 :: (v1 ++ x) : List UInt8) = 1 :: (v2 ++ y)
            · refine collB_tail (ih _ _ _ _ _ _ v1 hv1 ?_ hst hp' hq')
              have : v1 ++ x = v2 ++ y := by simpa using hd
              have := List.append_inj_left' this (by omega)
              rw [this]; exact hv2
            · exact collB_head hd (by exact e1.trans e2.symm)
          · rw [if_neg hi] at h g
            obtain ⟨v1, hv1, e1⟩ := Option.map_eq_some_iff.1 h
            obtain ⟨v2, hv2, e2⟩ := Option.map_eq_some_iff.1 g
            rw [wayL_ge h1 hi, wayL_ge h1 hi]
            have w1 := wayL_ver _ _ _ _ _ _ hv1
            have w2 := wayL_ver _ _ _ _ _ _ hv2
            rw [w1, w2]
            by_cases hd : (1 :: (x ++ v1) : List UInt8) = 1 :: (y ++ v2)
            · refine collB_tail (ih _ _ _ _ _ _ v1 hv1 ?_ hst hp' hq')
              have : x ++ v1 = y ++ v2 := by simpa using hd
              have := List.append_inj_right this (by omega)
              rw [this]; exact hv2
            · exact collB_head hd (by exact e1.trans e2.symm)
/-- the same for an extension -/
def sidesL : List (List UInt8) → List UInt8 → Nat → Nat → Bool → List (List UInt8) × List UInt8
  | [], old, _, _, _ => ([], old)
  | x :: r, old, m, n, wh => if n ≤ m then ([], if wh then old else (x :: r).getLast (by simp))
    else if m ≤ leftN n then ((1 :: ((sidesL r old m (leftN n) wh).2 ++ x)) :: (sidesL r old m (leftN n) wh).1, nodeB (sidesL r old m (leftN n) wh).2 x)
    else ((1 :: (x ++ (sidesL r old (m - leftN n) (n - leftN n) false).2)) :: (sidesL r old (m - leftN n) (n - leftN n) false).1, nodeB x (sidesL r old (m - leftN n) (n - leftN n) false).2)
theorem sidesL_nil (old : List UInt8) (m n : Nat) (wh : Bool) : sidesL [] old m n wh = ([], old) := rfl
theorem sidesL_end {x : List UInt8} {r : List (List UInt8)} {old : List UInt8} {m n : Nat} {wh : Bool} (h : n ≤ m) : sidesL (x :: r) old m n wh = ([], if wh then old else (x :: r).getLast (by simp)) := by
  rw [sidesL, if_pos h]
theorem sidesL_le {x : List UInt8} {r : List (List UInt8)} {old : List UInt8} {m n : Nat} {wh : Bool} (h : ¬ n ≤ m) (hi : m ≤ leftN n) : sidesL (x :: r) old m n wh = ((1 :: ((sidesL r old m (leftN n) wh).2 ++ x)) :: (sidesL r old m (leftN n) wh).1, nodeB (sidesL r old m (leftN n) wh).2 x) := by
  rw [sidesL, if_neg h, if_pos hi]
theorem sidesL_gt {x : List UInt8} {r : List (List UInt8)} {old : List UInt8} {m n : Nat} {wh : Bool} (h : ¬ n ≤ m) (hi : ¬ m ≤ leftN n) : sidesL (x :: r) old m n wh = ((1 :: (x ++ (sidesL r old (m - leftN n) (n - leftN n) false).2)) :: (sidesL r old (m - leftN n) (n - leftN n) false).1, nodeB x (sidesL r old (m - leftN n) (n - leftN n) false).2) := by
  rw [sidesL, if_neg h, if_neg hi]
theorem sidesL_len : ∀ (rp : List (List UInt8)) (old : List UInt8) (m n : Nat) (wh : Bool) (K : Nat), 32 ≤ K → old.length ≤ K → (∀ x ∈ rp, x.length ≤ K) → (sidesL rp old m n wh).2.length ≤ K := by
  intro rp old m n wh K hK ho hx
  cases rp with
  | nil => exact ho
  | cons x r =>
    rw [sidesL]
    split
    · dsimp only
      split
      · exact ho
      · exact hx _ (List.getLast_mem _)
    · split <;> (dsimp only; rw [show (nodeB _ _).length = 32 from shaB_len _]; exact hK)
theorem sidesL_small : ∀ (rp : List (List UInt8)) (old : List UInt8) (m n : Nat) (wh : Bool) (K : Nat), 32 ≤ K → old.length ≤ K → (∀ x ∈ rp, x.length ≤ K) → ∀ y ∈ (sidesL rp old m n wh).1, y.length ≤ 2 * K + 1 := by
  intro rp
  induction rp with
  | nil => intro old m n wh K _ _ _ y hy; simp [sidesL] at hy
  | cons x r ih =>
    intro old m n wh K hK ho hx y hy
    have hx0 := hx x List.mem_cons_self
    have hx' := fun z hz => hx z (List.mem_cons_of_mem x hz)
    by_cases h1 : n ≤ m
    · rw [sidesL_end h1] at hy; simp at hy
    · by_cases hi : m ≤ leftN n
      · rw [sidesL_le h1 hi] at hy
        rcases List.mem_cons.1 hy with rfl | hy
        · have := sidesL_len r old m (leftN n) wh K hK ho hx'
          simp; omega
        · exact ih _ _ _ _ _ hK ho hx' y hy
      · rw [sidesL_gt h1 hi] at hy
        rcases List.mem_cons.1 hy with rfl | hy
        · have := sidesL_len r old (m - leftN n) (n - leftN n) false K hK ho hx'
          simp; omega
        · exact ih _ _ _ _ _ hK ho hx' y hy
theorem sidesL_ver : ∀ (f m n : Nat) (old : List UInt8) (rp : List (List UInt8)) (wh : Bool) (a b : List UInt8), bothV f m n old rp wh = some (a, b) → (sidesL rp old m n wh).2 = b := by
  intro f
  induction f with
  | zero => intro m n old rp wh a b h; simp [bothV] at h
  | succ f ih =>
    intro m n old rp wh a b h
    by_cases h1 : n ≤ m
    · cases wh with
      | true =>
        rw [bothV_end h1] at h
        split at h
        · next e => subst e; simp at h; exact h.2
        · cases h
      | false =>
        rw [bothV_part h1] at h
        split at h
        · simp at h; rw [sidesL_end h1]; simpa using h.2
        · cases h
    · cases rp with
      | nil => rw [bothV_nil h1] at h; cases h
      | cons x r =>
        rw [bothV_cons h1] at h
        split at h
        · next hi =>
          obtain ⟨⟨a', b'⟩, hv, e⟩ := Option.map_eq_some_iff.1 h
          rw [sidesL_le h1 hi, ih _ _ _ _ _ _ _ hv]
          exact (Prod.mk.inj e).2
        · next hi =>
          obtain ⟨⟨a', b'⟩, hv, e⟩ := Option.map_eq_some_iff.1 h
          rw [sidesL_gt h1 hi, ih _ _ _ _ _ _ _ hv]
          exact (Prod.mk.inj e).2
theorem ext_binding : ∀ (f m n : Nat) (o p : List UInt8) (rp rq : List (List UInt8)) (wh : Bool) (a1 a2 b : List UInt8), bothV f m n o rp wh = some (a1, b) → bothV f m n p rq wh = some (a2, b) → a1 ≠ a2 → (∀ x ∈ rp, x.length = 32) → (∀ x ∈ rq, x.length = 32) → collB (sidesL rp o m n wh).1 (sidesL rq p m n wh).1 = true := by
  intro f
  induction f with
  | zero => intro m n o p rp rq wh a1 a2 b h; simp [bothV] at h
  | succ f ih =>
    intro m n o p rp rq wh a1 a2 b h g hst hp hq
    by_cases h1 : n ≤ m
    · exfalso
      cases wh with
      | true =>
        rw [bothV_end h1] at h g
        split at h
        · split at g
          · simp at h g
            exact hst (by rw [← h.1, ← g.1, h.2, g.2])
          · cases g
        · cases h
      | false =>
        rw [bothV_part h1] at h g
        split at h
        · split at g
          · simp at h g
            exact hst (by rw [← h.1, ← g.1, h.2, g.2])
          · cases g
        · cases h
    · cases rp with
      | nil => rw [bothV_nil h1] at h; cases h
      | cons x r =>
        cases rq with
        | nil => rw [bothV_nil h1] at g; cases g
        | cons y q =>
          rw [bothV_cons h1] at h g
          have hx := hp x List.mem_cons_self
          have hy := hq y List.mem_cons_self
          have hp' := fun z hz => hp z (List.mem_cons_of_mem x hz)
          have hq' := fun z hz => hq z (List.mem_cons_of_mem y hz)
          by_cases hi : m ≤ leftN n
          · rw [if_pos hi] at h g
            obtain ⟨⟨c1, v1⟩, hv1, e1⟩ := Option.map_eq_some_iff.1 h
            obtain ⟨⟨c2, v2⟩, hv2, e2⟩ := Option.map_eq_some_iff.1 g
            rw [sidesL_le h1 hi, sidesL_le h1 hi]
            have w1 := sidesL_ver _ _ _ _ _ _ _ _ hv1
            have w2 := sidesL_ver _ _ _ _ _ _ _ _ hv2
            rw [w1, w2]
            have f1 : c1 = a1 := (Prod.mk.inj e1).1
            have f2 : c2 = a2 := (Prod.mk.inj e2).1
            have g1 : nodeB v1 x = b := (Prod.mk.inj e1).2
            have g2 : nodeB v2 y = b := (Prod.mk.inj e2).2
            by_cases hd : (1 :: (v1 ++ x) : List UInt8) = 1 :: (v2 ++ y)
            · have : v1 ++ x = v2 ++ y := by simpa using hd
              have := List.append_inj_left' this (by omega)
              subst this
              subst f1 f2
              exact collB_tail (ih _ _ _ _ _ _ _ _ _ _ hv1 hv2 hst hp' hq')
            · exact collB_head hd (g1.trans g2.symm)
          · rw [if_neg hi] at h g
            obtain ⟨⟨c1, v1⟩, hv1, e1⟩ := Option.map_eq_some_iff.1 h
            obtain ⟨⟨c2, v2⟩, hv2, e2⟩ := Option.map_eq_some_iff.1 g
            rw [sidesL_gt h1 hi, sidesL_gt h1 hi]
            have w1 := sidesL_ver _ _ _ _ _ _ _ _ hv1
            have w2 := sidesL_ver _ _ _ _ _ _ _ _ hv2
            rw [w1, w2]
            have f1 : nodeB x c1 = a1 := (Prod.mk.inj e1).1
            have f2 : nodeB y c2 = a2 := (Prod.mk.inj e2).1
            have g1 : nodeB x v1 = b := (Prod.mk.inj e1).2
            have g2 : nodeB y v2 = b := (Prod.mk.inj e2).2
            by_cases hd : (1 :: (x ++ v1) : List UInt8) = 1 :: (y ++ v2)
            · have hd2 : x ++ v1 = y ++ v2 := by simpa using hd
              have e3 := List.append_inj_right hd2 (by omega)
              have e4 := List.append_inj_left hd2 (by omega)
              subst e3 e4
              refine collB_tail (ih _ _ _ _ _ _ _ _ _ _ hv1 hv2 (fun e => hst ?_) hp' hq')
              rw [← f1, ← f2, e]
            · exact collB_head hd (g1.trans g2.symm)
end Go.Proofs.YtgmdjbhclihflaaDoor
