/- The proofs that are made are accepted, and short. -/
import Derived.Test.YtgmdjbhclihflaaDoorDgPa
import Derived.Test.YtgmdjbhclihflaaDoorDgLa
namespace Go.Proofs.YtgmdjbhclihflaaDoor
open Go Go.RowKit Go.Lib Go.Shelf

theorem descL_ver : ∀ (f : Nat) (l : List (List UInt8)) (i : Nat) (x : List UInt8), l.length ≤ f → f ≤ 1000000 → l[i]? = some x → verV f l.length i x (descL f l i) = some (rootB l) := by
  intro f
  induction f with
  | zero => intro l i x h _ hx; rw [List.length_eq_zero_iff.1 (show l.length = 0 by omega)] at hx; simp at hx
  | succ f ih =>
    intro l i x h hf hx
    have hi : i < l.length := (List.getElem?_eq_some_iff.1 hx).1
    by_cases h1 : l.length ≤ 1
    · rw [stop_desc h1, verV_one h1, if_pos rfl]
      match l, h1, hi, hx with
      | [a], _, hi, hx =>
        obtain rfl : i = 0 := by simpa using hi
        simp at hx
        subst hx
        rw [rootB_one]
    · obtain ⟨b1, b2, b3⟩ := leftN_bd (show 2 ≤ l.length by omega) (by omega)
      have hsp := rootB_split (l := l) (by omega) (by omega)
      obtain ⟨k, hk⟩ : ∃ k, leftN l.length = k := ⟨_, rfl⟩
      rw [hk] at b1 b2 b3 hsp
      have ht : (l.take k).length = k := by rw [List.length_take]; omega
      have hd : (l.drop k).length = l.length - k := List.length_drop
      rw [descL, if_neg h1, hk]
      by_cases hik : i < k
      · rw [if_pos hik, verV_cons h1, hk, if_pos hik]
        have := ih (l.take k) i x (by omega) (by omega) (by rw [List.getElem?_take, if_pos hik]; exact hx)
        rw [ht] at this
        rw [this, hsp]
        rfl
      · rw [if_neg hik, verV_cons h1, hk, if_neg hik]
        have := ih (l.drop k) (i - k) x (by omega) (by omega) (by rw [List.getElem?_drop, show k + (i - k) = i by omega]; exact hx)
        rw [hd] at this
        rw [this, hsp]
        rfl
theorem proofB_ver {l : List (List UInt8)} {i : Nat} {x : List UInt8} (hl : l.length ≤ 1000000) (hx : l[i]? = some x) : verV l.length l.length i x (proofB l i).reverse = some (rootB l) := by
  unfold proofB
  rw [List.reverse_reverse]
  exact descL_ver _ l i x (Nat.le_refl _) hl hx
theorem partL_ver : ∀ (f : Nat) (l : List (List UInt8)) (m : Nat) (wh : Bool) (old : List UInt8), l.length ≤ f → f ≤ 1000000 → 1 ≤ m → m ≤ l.length → (wh = true → old = rootB (l.take m)) → bothV f m l.length old (partL f l m wh) wh = some (rootB (l.take m), rootB l) := by
  intro f
  induction f with
  | zero => intro l m wh old h _ h1 h2 _; omega
  | succ f ih =>
    intro l m wh old h hf h1 h2 ho
    by_cases hm : l.length ≤ m
    · have hmt : l.take m = l := List.take_of_length_le hm
      rw [partL, if_pos hm]
      cases wh with
      | true => rw [if_pos rfl, bothV_end hm, if_pos rfl, ho rfl, hmt]
      | false => rw [if_neg (by simp), bothV_part hm, hmt]
    · obtain ⟨b1, b2, b3⟩ := leftN_bd (show 2 ≤ l.length by omega) (by omega)
      have hsp := rootB_split (l := l) (by omega) (by omega)
      obtain ⟨k, hk⟩ : ∃ k, leftN l.length = k := ⟨_, rfl⟩
      obtain ⟨J, hJ⟩ : ∃ J, leftN l.length = 2 ^ J := ⟨_, rfl⟩
      rw [hk] at b1 b2 b3 hsp hJ
      have ht : (l.take k).length = k := by rw [List.length_take]; omega
      have hd : (l.drop k).length = l.length - k := List.length_drop
      rw [partL, if_neg hm, hk]
      by_cases hmk : m ≤ k
      · rw [if_pos hmk, bothV_cons hm, hk, if_pos hmk]
        have htt : (l.take k).take m = l.take m := by rw [List.take_take, Nat.min_eq_left hmk]
        have := ih (l.take k) m wh old (by omega) (by omega) h1 (by omega) (by rw [htt]; exact ho)
        rw [ht, htt] at this
        rw [this, hsp]
        rfl
      · rw [if_neg hmk, bothV_cons hm, hk, if_neg hmk]
        have := ih (l.drop k) (m - k) false old (by omega) (by omega) (by omega) (by omega) (fun h => by cases h)
        rw [hd] at this
        have hmm : l.take m = l.take k ++ (l.drop k).take (m - k) := by
          rw [← List.take_add, show k + (m - k) = m by omega]
        have hr := rootB_app (a := l.take k) (b := (l.drop k).take (m - k)) (J := J) (by omega) (by rw [List.length_take]; omega) (by rw [List.length_take]; omega)
        rw [this, hsp, hmm, hr]
        rfl
theorem extB_ver {l : List (List UInt8)} {m : Nat} (hl : l.length ≤ 1000000) (h1 : 1 ≤ m) (h2 : m ≤ l.length) : bothV l.length m l.length (rootB (l.take m)) (extB l m).reverse true = some (rootB (l.take m), rootB l) := by
  unfold extB
  rw [if_neg (by omega), List.reverse_reverse]
  exact partL_ver _ l m true _ (Nat.le_refl _) hl h1 h2 (fun _ => rfl)
theorem stackS_digs : ∀ (n : Nat) (l : List (List UInt8)), l.length = n → AllD (stackS l) := by
  intro n
  induction n with
  | zero => intro l h q hq; rw [List.length_eq_zero_iff.1 h] at hq; simp [stackS] at hq
  | succ n ih =>
    intro l h
    rcases List.eq_nil_or_concat l with rfl | ⟨l', s, rfl⟩
    · simp at h
    · rw [List.concat_eq_append] at h ⊢
      rw [stackS_snoc]
      refine mergeS_d _ _ (Nat.le_refl _) (fun q hq => ?_)
      rcases List.mem_cons.1 hq with rfl | hq
      · exact shaB_len _
      · exact ih l' (by simpa using h) q hq
theorem rootB_len (l : List (List UInt8)) : (rootB l).length = 32 := by
  unfold rootB
  cases h : stackS l with
  | nil => exact shaB_len _
  | cons p r =>
    refine fold_len r p.2 ?_
    have hd : AllD (stackS l) := stackS_digs _ l rfl
    exact hd p (by rw [h]; exact List.mem_cons_self)
theorem descL_digs : ∀ (f : Nat) (l : List (List UInt8)) (i : Nat), ∀ x ∈ descL f l i, x.length = 32 := by
  intro f
  induction f with
  | zero => intro l i x hx; simp [descL] at hx
  | succ f ih =>
    intro l i x hx
    rw [descL] at hx
    split at hx
    · simp at hx
    · split at hx <;> rcases List.mem_cons.1 hx with rfl | hx
      · exact rootB_len _
      · exact ih _ _ x hx
      · exact rootB_len _
      · exact ih _ _ x hx
theorem proofB_digs (l : List (List UInt8)) (i : Nat) : allD (proofB l i) = true := allD_iff.2 (fun x hx => descL_digs _ _ _ x (List.mem_reverse.1 hx))
theorem partL_digs : ∀ (f : Nat) (l : List (List UInt8)) (m : Nat) (wh : Bool), ∀ x ∈ partL f l m wh, x.length = 32 := by
  intro f
  induction f with
  | zero => intro l i wh x hx; simp [partL] at hx
  | succ f ih =>
    intro l i wh x hx
    rw [partL] at hx
    split at hx
    · split at hx
      · simp at hx
      · simp at hx; subst hx; exact rootB_len _
    · split at hx <;> rcases List.mem_cons.1 hx with rfl | hx
      · exact rootB_len _
      · exact ih _ _ _ x hx
      · exact rootB_len _
      · exact ih _ _ _ x hx
theorem extB_digs (l : List (List UInt8)) (m : Nat) : allD (extB l m) = true := allD_iff.2 (fun x hx => by
  unfold extB at hx
  split at hx
  · simp at hx
  · exact partL_digs _ _ _ _ x (List.mem_reverse.1 hx))
end Go.Proofs.YtgmdjbhclihflaaDoor
