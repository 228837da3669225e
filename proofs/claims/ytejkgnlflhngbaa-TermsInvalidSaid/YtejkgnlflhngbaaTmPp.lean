/- What a settlement keeps, in plain words: passes, reserves, balances, caps, the whole. -/
import Derived.Test.YtejkgnlflhngbaaTmMo
namespace Go.Proofs.Ytejkgnlflhngbaa

def sumR : List (Int × Int × Int) → Int
  | [] => 0
  | b :: l => b.2.2 + sumR l
theorem sumB_app : ∀ (l m : List (Int × Int)), sumB (l ++ m) = sumB l + sumB m
  | [], m => by show sumB m = 0 + sumB m; omega
  | b :: l, m => by show b.2 + sumB (l ++ m) = b.2 + sumB l + sumB m; rw [sumB_app l m]; omega
theorem sumR_app : ∀ (l m : List (Int × Int × Int)), sumR (l ++ m) = sumR l + sumR m
  | [], m => by show sumR m = 0 + sumR m; omega
  | b :: l, m => by show b.2.2 + sumR (l ++ m) = b.2.2 + sumR l + sumR m; rw [sumR_app l m]; omega
theorem sumB_nonneg : ∀ (l : List (Int × Int)), (∀ x ∈ l, 0 ≤ x.2) → 0 ≤ sumB l
  | [], _ => Int.le_refl _
  | b :: l, h => by
    have := sumB_nonneg l fun x hx => h x (List.mem_cons_of_mem _ hx)
    have := h b List.mem_cons_self
    show 0 ≤ b.2 + sumB l
    omega
theorem sumR_nonneg : ∀ (l : List (Int × Int × Int)), (∀ x ∈ l, 0 ≤ x.2.2) → 0 ≤ sumR l
  | [], _ => Int.le_refl _
  | b :: l, h => by
    have := sumR_nonneg l fun x hx => h x (List.mem_cons_of_mem _ hx)
    have := h b List.mem_cons_self
    show 0 ≤ b.2.2 + sumR l
    omega
theorem sumB_take (l : List (Int × Int)) (k : Nat) (b : Int × Int) (h : l[k]? = some b) : sumB (l.take (k + 1)) = sumB (l.take k) + b.2 := by
  rw [List.take_add_one, h, sumB_app]
  show _ + (b.2 + 0) = _
  omega
theorem sumR_take (l : List (Int × Int × Int)) (k : Nat) (b : Int × Int × Int) (h : l[k]? = some b) : sumR (l.take (k + 1)) = sumR (l.take k) + b.2.2 := by
  rw [List.take_add_one, h, sumR_app]
  show _ + (b.2.2 + 0) = _
  omega
theorem sumB_takes {l : List (Int × Int)} (h : ∀ x ∈ l, 0 ≤ x.2) (k : Nat) : 0 ≤ sumB (l.take k) ∧ sumB (l.take k) ≤ sumB l := by
  have h1 := sumB_app (l.take k) (l.drop k)
  rw [List.take_append_drop] at h1
  have h2 := sumB_nonneg (l.take k) fun x hx => h x (List.mem_of_mem_take hx)
  have h3 := sumB_nonneg (l.drop k) fun x hx => h x (List.mem_of_mem_drop hx)
  omega
theorem sumR_takes {l : List (Int × Int × Int)} (h : ∀ x ∈ l, 0 ≤ x.2.2) (k : Nat) : 0 ≤ sumR (l.take k) ∧ sumR (l.take k) ≤ sumR l := by
  have h1 := sumR_app (l.take k) (l.drop k)
  rw [List.take_append_drop] at h1
  have h2 := sumR_nonneg (l.take k) fun x hx => h x (List.mem_of_mem_take hx)
  have h3 := sumR_nonneg (l.drop k) fun x hx => h x (List.mem_of_mem_drop hx)
  omega
/-- by how much balances have become less, up to the k-th -/
def difB (l l' : List (Int × Int)) (k : Nat) : Int := sumB (l.take k) - sumB (l'.take k)
theorem difB_succ {l l' : List (Int × Int)} {k : Nat} {b b' : Int × Int} (h : l[k]? = some b) (h' : l'[k]? = some b') : difB l l' (k + 1) = difB l l' k + (b.2 - b'.2) := by
  unfold difB
  rw [sumB_take l k b h, sumB_take l' k b' h']
  omega
theorem difB_mono {l l' : List (Int × Int)} (hl : l'.length = l.length) (h : ∀ (i : Nat) b b', l[i]? = some b → l'[i]? = some b' → b'.2 ≤ b.2) : ∀ (k m : Nat), difB l l' k ≤ difB l l' (k + m)
  | k, 0 => Int.le_refl _
  | k, m + 1 => by
    have ih := difB_mono hl h k m
    by_cases hk : k + m < l.length
    · have e : l[k + m]? = some l[k + m] := List.getElem?_eq_getElem hk
      have e' : l'[k + m]? = some (l'[k + m]'(by omega)) := List.getElem?_eq_getElem (by omega)
      have := difB_succ e e'
      have := h _ _ _ e e'
      show _ ≤ difB l l' (k + m + 1)
      omega
    · have e1 : difB l l' (k + m + 1) = difB l l' (k + m) := by
        unfold difB
        rw [List.take_of_length_le (by omega), List.take_of_length_le (by omega), List.take_of_length_le (i := k + m) (by omega), List.take_of_length_le (i := k + m) (by omega)]
      show _ ≤ difB l l' (k + m + 1)
      omega
theorem difB_bd {l l' : List (Int × Int)} (hl : l'.length = l.length) (h : ∀ (i : Nat) b b', l[i]? = some b → l'[i]? = some b' → b'.2 ≤ b.2) (k : Nat) : 0 ≤ difB l l' k ∧ difB l l' k ≤ sumB l - sumB l' := by
  have h1 := difB_mono hl h 0 k
  have h2 := difB_mono hl h k l.length
  have h0 : difB l l' 0 = 0 := rfl
  have h3 : difB l l' (k + l.length) = sumB l - sumB l' := by
    unfold difB
    rw [List.take_of_length_le (by omega), List.take_of_length_le (by omega)]
  rw [Nat.zero_add] at h1
  omega
/-- what the books of a settlement keep -/
structure Books (h p : Int) (bs0 : List (Int × Int)) (S : StV) : Prop where
  l0 : 0 ≤ S.left
  ps : ∀ x ∈ S.ps, 1 ≤ x.2
  pa : S.pa = sumB S.ps
  rs : ∀ x ∈ S.rs, 1 ≤ x.2.2 ∧ x.1 = h ∧ p < x.2.1 ∧ x.2.1 ≤ p + 24
  re : S.re = sumR S.rs
  len : S.bs.length = bs0.length
  bs : ∀ (i : Nat) b b', bs0[i]? = some b → S.bs[i]? = some b' → b'.1 = b.1 ∧ b'.2 ≤ b.2 ∧ (b'.2 < b.2 → 0 ≤ b'.2)
  ro : S.ro + sumB S.bs = sumB bs0
theorem Books.start {R : RowV} (h : openR R = true) (bs : List (Int × Int)) : Books R.h R.p bs (startS R bs) :=
  ⟨(good_start h bs).l0, by simp [startS], rfl, by simp [startS], rfl, rfl, fun i b b' e e' => by
    have e2 : bs[i]? = some b' := e'
    rw [e] at e2
    cases e2
    exact ⟨rfl, Int.le_refl _, fun h => by omega⟩, by show 0 + sumB bs = sumB bs; omega⟩
theorem Books.recStep {h p : Int} {bs0 : List (Int × Int)} {S : StV} (H : Books h p bs0 S) (a : Int) : Books h p bs0 (recStep S a) := by
  unfold Go.Proofs.Ytejkgnlflhngbaa.recStep
  split
  · exact H
  · split
    · exact H
    · rename_i i _ _ b hb
      have h1 := H.l0
      have h2 := H.ro
      obtain ⟨hi, _⟩ := List.getElem?_eq_some_iff.1 hb
      refine ⟨by dsimp only; omega, H.ps, H.pa, H.rs, H.re, by simpa using H.len, fun j c c' e e' => ?_, ?_⟩
      · dsimp only at e'
        rw [List.getElem?_set] at e'
        by_cases hij : i = j
        · subst hij
          simp [hi] at e'
          subst e'
          have := H.bs i c b e hb
          exact ⟨this.1, by dsimp only; omega, by dsimp only; omega⟩
        · rw [if_neg hij] at e'
          exact H.bs j c c' e e'
      · dsimp only
        rw [sumB_set _ _ _ _ _ hb]
        omega
theorem Books.recAll {h p : Int} {bs0 : List (Int × Int)} : ∀ (l : List Int) {S : StV}, Books h p bs0 S → Books h p bs0 (l.foldl Go.Proofs.Ytejkgnlflhngbaa.recStep S)
  | [], _, h => h
  | a :: l, _, h => Books.recAll l (h.recStep a)
theorem Books.term {h p : Int} {bs0 : List (Int × Int)} {S : StV} (H : Books h p bs0 S) (t : TermV) : Books h p bs0 (stepT h p S t) := by
  unfold stepT
  split
  · rename_i hv
    unfold doTerm
    have h1 := H.l0
    rcases validT_kinds hv with e | e | e | e | e
    · rw [if_pos e]
      have hv1 := validT_1 hv e
      have hn := inR_iff.1 hv1.1
      have ha := inR_iff.1 hv1.2.2.2
      obtain ⟨x, hx⟩ : ∃ x, partN (max (S.left - t.ab) 0) t.n = x := ⟨_, rfl⟩
      have hb := partN_bd (x := max (S.left - t.ab) 0) (n := t.n) (by omega) (by omega) hn.2
      rw [hx] at hb
      unfold passStep
      dsimp only
      rw [hx]
      refine ⟨by dsimp only; omega, ?_, ?_, H.rs, H.re, H.len, H.bs, H.ro⟩
      · intro y hy
        dsimp only at hy
        rcases List.mem_append.1 hy with hy | hy
        · exact H.ps y hy
        · split at hy
          · simp at hy; subst hy; dsimp only; omega
          · simp at hy
      · dsimp only
        rw [sumB_app, ← H.pa]
        split
        · show S.pa + x = S.pa + (x + 0); omega
        · show S.pa + x = S.pa + 0; omega
    · rw [if_neg (by omega), if_pos e]
      have hn := inR_iff.1 (validT_2 hv e).1
      have hb := partN_bd h1 (show 0 ≤ t.n by omega) hn.2
      unfold taxStep
      exact ⟨by dsimp only; omega, H.ps, H.pa, H.rs, H.re, H.len, H.bs, H.ro⟩
    · rw [if_neg (by omega), if_neg (by omega), if_pos e]
      have hv3 := validT_3 hv e
      have hn := inR_iff.1 hv3.1
      have hm := inR_iff.1 hv3.2.2.1
      have hb := partN_bd h1 (show 0 ≤ t.n by omega) hn.2
      obtain ⟨x, hx⟩ : ∃ x, partN S.left t.n = x := ⟨_, rfl⟩
      rw [hx] at hb
      unfold resStep
      dsimp only
      rw [hx]
      refine ⟨by dsimp only; omega, H.ps, H.pa, ?_, ?_, H.len, H.bs, H.ro⟩
      · intro y hy
        dsimp only at hy
        rcases List.mem_append.1 hy with hy | hy
        · exact H.rs y hy
        · split at hy
          · simp at hy; subst hy; dsimp only; omega
          · simp at hy
      · dsimp only
        rw [sumR_app, ← H.re]
        split
        · show S.re + x = S.re + (x + 0); omega
        · show S.re + x = S.re + 0; omega
    · rw [if_neg (by omega), if_neg (by omega), if_neg (by omega), if_pos e]
      have hn := inR_iff.1 (validT_4 hv e).1
      unfold capStep
      exact ⟨by dsimp only; omega, H.ps, H.pa, H.rs, H.re, H.len, H.bs, H.ro⟩
    · rw [if_neg (by omega), if_neg (by omega), if_neg (by omega), if_neg (by omega)]
      exact Books.recAll _ H
  · exact H
theorem Books.run {h p : Int} {bs0 : List (Int × Int)} : ∀ (l : List TermV) {S : StV}, Books h p bs0 S → Books h p bs0 (l.foldl (stepT h p) S)
  | [], _, H => H
  | t :: l, _, H => Books.run l (H.term t)

/-! Capped -/
theorem recStep_left (S : StV) (a : Int) (h : 0 ≤ S.left) : (recStep S a).left ≤ S.left ∧ (recStep S a).ca = S.ca := by
  unfold recStep
  split
  · exact ⟨Int.le_refl _, rfl⟩
  · split
    · exact ⟨Int.le_refl _, rfl⟩
    · exact ⟨by dsimp only; omega, rfl⟩
theorem recAll_left {T : Int} : ∀ (l : List Int) {S : StV}, GoodS T S → (l.foldl recStep S).left ≤ S.left ∧ (l.foldl recStep S).ca = S.ca
  | [], _, _ => ⟨Int.le_refl _, rfl⟩
  | a :: l, S, h => by
    have h1 := recAll_left l (h.recStep a)
    have h2 := recStep_left S a h.l0
    rw [List.foldl_cons]
    exact ⟨by omega, by rw [h1.2, h2.2]⟩
theorem step_left {T : Int} {S : StV} (h : GoodS T S) (hh p : Int) (t : TermV) : (stepT hh p S t).left ≤ S.left ∧ ((validT t && t.k == 4) = true → (stepT hh p S t).left ≤ t.n) ∧ ((validT t && t.k == 4) = false → (stepT hh p S t).ca = S.ca) := by
  have h0 := h.l0
  unfold stepT
  split
  · rename_i hv
    rw [hv, Bool.true_and]
    unfold doTerm
    rcases validT_kinds hv with e | e | e | e | e
    · rw [if_pos e]
      have hv1 := validT_1 hv e
      have hn := inR_iff.1 hv1.1
      have ha := inR_iff.1 hv1.2.2.2
      have hb := partN_bd (x := max (S.left - t.ab) 0) (n := t.n) (by omega) (by omega) hn.2
      unfold passStep
      exact ⟨by dsimp only; omega, fun hk => by simp [e] at hk, fun _ => rfl⟩
    · rw [if_neg (by omega), if_pos e]
      have hn := inR_iff.1 (validT_2 hv e).1
      have hb := partN_bd h0 (show 0 ≤ t.n by omega) hn.2
      unfold taxStep
      exact ⟨by dsimp only; omega, fun hk => by simp [e] at hk, fun _ => rfl⟩
    · rw [if_neg (by omega), if_neg (by omega), if_pos e]
      have hn := inR_iff.1 (validT_3 hv e).1
      have hb := partN_bd h0 (show 0 ≤ t.n by omega) hn.2
      unfold resStep
      exact ⟨by dsimp only; omega, fun hk => by simp [e] at hk, fun _ => rfl⟩
    · rw [if_neg (by omega), if_neg (by omega), if_neg (by omega), if_pos e]
      have hn := inR_iff.1 (validT_4 hv e).1
      unfold capStep
      exact ⟨by dsimp only; omega, fun _ => by dsimp only; omega, fun hk => by simp [e] at hk⟩
    · rw [if_neg (by omega), if_neg (by omega), if_neg (by omega), if_neg (by omega)]
      have := recAll_left t.acc h
      exact ⟨this.1, fun hk => by simp [e] at hk, fun _ => this.2⟩
  · rename_i hv
    exact ⟨Int.le_refl _, fun hk => by simp [hv] at hk, fun _ => rfl⟩
theorem run_left {T : Int} (hh p : Int) : ∀ (l : List TermV) {S : StV}, GoodS T S → (l.foldl (stepT hh p) S).left ≤ S.left ∧ (∀ t ∈ l, (validT t && t.k == 4) = true → (l.foldl (stepT hh p) S).left ≤ t.n) ∧ ((∀ t ∈ l, (validT t && t.k == 4) = false) → (l.foldl (stepT hh p) S).ca = S.ca)
  | [], _, _ => ⟨Int.le_refl _, by simp, fun _ => rfl⟩
  | t :: l, S, h => by
    have h1 := run_left hh p l (h.term hh p t)
    have h2 := step_left h hh p t
    rw [List.foldl_cons]
    refine ⟨by omega, fun u hu hk => ?_, fun hk => ?_⟩
    · rcases List.mem_cons.1 hu with rfl | hu
      · have := h2.2.1 hk; omega
      · exact h1.2.1 u hu hk
    · rw [h1.2.2 fun u hu => hk u (List.mem_cons_of_mem _ hu), h2.2.2 (hk t List.mem_cons_self)]
/-- what is owed in all, up to 2^60 -/
def owedN (l : List (Int × Int)) : Int := l.foldl (fun o b => min (o + max (min b.2 1152921504606846976) 0) 1152921504606846976) 0
def sumPos : List (Int × Int) → Int
  | [] => 0
  | b :: l => max b.2 0 + sumPos l
theorem sumPos_app : ∀ (l m : List (Int × Int)), sumPos (l ++ m) = sumPos l + sumPos m
  | [], m => by show sumPos m = 0 + sumPos m; omega
  | b :: l, m => by show max b.2 0 + sumPos (l ++ m) = max b.2 0 + sumPos l + sumPos m; rw [sumPos_app l m]; omega
theorem sumPos_nonneg : ∀ (l : List (Int × Int)), 0 ≤ sumPos l
  | [] => Int.le_refl _
  | b :: l => by have := sumPos_nonneg l; show 0 ≤ max b.2 0 + sumPos l; omega
theorem owed_aux : ∀ (l : List (Int × Int)) (o A : Int), 0 ≤ A → o = min A 1152921504606846976 → l.foldl (fun o b => min (o + max (min b.2 1152921504606846976) 0) 1152921504606846976) o = min (A + sumPos l) 1152921504606846976
  | [], o, A, _, h => by rw [h]; show min A _ = min (A + 0) _; rw [Int.add_zero]
  | b :: l, o, A, hA, h => by
    rw [List.foldl_cons, owed_aux l _ (A + max b.2 0) (by omega) (by rw [h]; omega)]
    show min (A + max b.2 0 + sumPos l) _ = min (A + (max b.2 0 + sumPos l)) _
    rw [Int.add_assoc]
theorem owedN_eq (l : List (Int × Int)) : owedN l = min (sumPos l) 1152921504606846976 := by
  have := owed_aux l 0 0 (Int.le_refl _) (by omega)
  rw [Int.zero_add] at this
  exact this
theorem sub_le_pos : ∀ (l l' : List (Int × Int)), l'.length = l.length → (∀ (i : Nat) b b', l[i]? = some b → l'[i]? = some b' → b'.1 = b.1 ∧ b'.2 ≤ b.2 ∧ (b'.2 < b.2 → 0 ≤ b'.2)) → sumB l - sumB l' ≤ sumPos l
  | [], [], _, _ => by show (0 : Int) - 0 ≤ 0; omega
  | [], _ :: _, h, _ => by simp at h
  | _ :: _, [], h, _ => by simp at h
  | b :: l, b' :: l', hl, h => by
    have h0 := h 0 b b' rfl rfl
    have h1 := sub_le_pos l l' (by simpa using hl) fun i c c' e e' => h (i + 1) c c' (by simpa using e) (by simpa using e')
    show b.2 + sumB l - (b'.2 + sumB l') ≤ max b.2 0 + sumPos l
    omega
theorem capped_law {R : RowV} (l : List TermV) (bs : List (Int × Int)) (ho : openR R = true) :
    let S := runS l R bs
    (∀ t ∈ l, (validT t && t.k == 4) = true → paidOf S ≤ t.n) ∧ ((l.any fun t => validT t && t.k == 4) = false → carriedOf S < 10000) ∧ S.ro ≤ owedN bs ∧
      (∀ (i : Nat) b b', bs[i]? = some b → S.bs[i]? = some b' → b.2 ≤ 0 → b' = b) ∧ S.bs.length = bs.length := by
  have hg := good_start ho bs
  have hgr := GoodS.run R.h R.p l hg
  have hr := run_left R.h R.p l hg
  have hB := Books.run l (Books.start ho bs)
  have hs := (openR_iff.1 ho).2.2.2.2
  unfold runS
  obtain ⟨S, hS⟩ : ∃ z, l.foldl (stepT R.h R.p) (startS R bs) = z := ⟨_, rfl⟩
  rw [hS] at hgr hr hB ⊢
  dsimp only
  have h1 := hgr.l0
  have h2 := hgr.p0
  have h3 := hgr.t0
  have h4 := hgr.r0
  have h5 := hgr.o0
  have h6 := hgr.c0
  have h7 := hgr.sum
  refine ⟨fun t ht hk => ?_, fun hk => ?_, ?_, fun i b b' e e' hb => ?_, hB.len⟩
  · have := hr.2.1 t ht hk
    unfold paidOf
    omega
  · have := hr.2.2 fun t ht => by
      have := List.any_eq_false.1 hk t ht
      simpa using this
    unfold carriedOf
    rw [this]
    show 0 + S.left % 10000 < 10000
    omega
  · rw [owedN_eq]
    have a1 := sub_le_pos bs S.bs hB.len hB.bs
    have a2 := hB.ro
    omega
  · have := hB.bs i b b' e e'
    obtain ⟨x, y⟩ := b
    obtain ⟨x', y'⟩ := b'
    dsimp only at this hb
    have e1 : x' = x := this.1
    have e2 : y' = y := by omega
    rw [e1, e2]

/-! the whole -/
theorem partN_zero (n : Int) : partN 0 n = 0 := by unfold partN; simp
theorem recStep_zero (S : StV) (a : Int) (h : S.left = 0) : recStep S a = S := by
  unfold recStep
  split
  · rfl
  · split
    · rfl
    · rename_i i _ _ b hb
      have e : min S.left (max b.2 0) = 0 := by omega
      rw [e]
      obtain ⟨hi, hb2⟩ := List.getElem?_eq_some_iff.1 hb
      have : S.bs.set i (b.1, b.2 - 0) = S.bs := by
        rw [Int.sub_zero, ← hb2]
        exact List.set_getElem_self hi
      rw [this, Int.sub_zero, Int.add_zero]
theorem recAll_zero : ∀ (l : List Int) (S : StV), S.left = 0 → l.foldl recStep S = S
  | [], _, _ => rfl
  | a :: l, S, h => by rw [List.foldl_cons, recStep_zero S a h]; exact recAll_zero l S h
theorem step_zero (hh p : Int) (S : StV) (t : TermV) (h : S.left = 0) : stepT hh p S t = S := by
  obtain ⟨left, pa, ta, re, ro, ca, ps, rs, bs⟩ := S
  dsimp only at h
  subst h
  unfold stepT
  split
  · rename_i hv
    unfold doTerm
    rcases validT_kinds hv with e | e | e | e | e
    · rw [if_pos e]
      have ha := inR_iff.1 (validT_1 hv e).2.2.2
      unfold passStep
      dsimp only
      rw [show max (0 - t.ab) 0 = 0 by omega, partN_zero]
      simp
    · rw [if_neg (by omega), if_pos e]
      unfold taxStep
      dsimp only
      rw [partN_zero]
      simp
    · rw [if_neg (by omega), if_neg (by omega), if_pos e]
      unfold resStep
      dsimp only
      rw [partN_zero]
      simp
    · rw [if_neg (by omega), if_neg (by omega), if_neg (by omega), if_pos e]
      have hn := inR_iff.1 (validT_4 hv e).1
      unfold capStep
      dsimp only
      rw [show max (0 - t.n) 0 = 0 by omega]
      simp
    · rw [if_neg (by omega), if_neg (by omega), if_neg (by omega), if_neg (by omega)]
      exact recAll_zero _ _ rfl
  · rfl
theorem run_zero (hh p : Int) : ∀ (l : List TermV) (S : StV), S.left = 0 → l.foldl (stepT hh p) S = S
  | [], _, _ => rfl
  | t :: l, S, h => by rw [List.foldl_cons, step_zero hh p S t h]; exact run_zero hh p l S h
def wholeT (k : Nat) : TermV := match k with
  | 0 => ⟨2, 1000000, 0, 0, []⟩
  | 1 => ⟨1, 1000000, 9, 0, []⟩
  | _ => ⟨3, 1000000, 1, 0, []⟩
theorem partN_whole (x : Int) : partN x 1000000 = x := by unfold partN; omega
theorem whole_law {R : RowV} (k : Nat) (l : List TermV) (bs : List (Int × Int)) (ho : openR R = true) :
    let S := runS (wholeT k :: l) R bs
    S.left = 0 ∧ S.ta + S.pa + S.re = R.sum ∧ 0 ≤ S.ta ∧ 0 ≤ S.pa ∧ 0 ≤ S.re ∧ S.ro = 0 ∧ S.ca = 0 ∧ S.bs = bs := by
  have h0 : 0 ≤ R.sum := (good_start ho bs).l0
  have hm : max (R.sum - 0) 0 = R.sum := by omega
  unfold runS
  rw [List.foldl_cons]
  match k with
  | 0 =>
    have e : stepT R.h R.p (startS R bs) (wholeT 0) = ⟨0, 0, R.sum, 0, 0, 0, [], [], bs⟩ := by
      show taxStep (startS R bs) (wholeT 0) = _
      unfold taxStep
      show StV.mk (R.sum - partN R.sum 1000000) 0 (0 + partN R.sum 1000000) 0 0 0 [] [] bs = _
      rw [partN_whole, Int.zero_add, Int.sub_self]
    rw [e, run_zero _ _ _ _ rfl]
    exact ⟨rfl, by dsimp only; omega, h0, Int.le_refl _, Int.le_refl _, rfl, rfl, rfl⟩
  | 1 =>
    have e : ∃ ps, stepT R.h R.p (startS R bs) (wholeT 1) = ⟨0, R.sum, 0, 0, 0, 0, ps, [], bs⟩ := by
      refine ⟨(passStep (startS R bs) (wholeT 1)).ps, ?_⟩
      show StV.mk (R.sum - partN (max (R.sum - 0) 0) 1000000) (0 + partN (max (R.sum - 0) 0) 1000000) 0 0 0 0 (passStep (startS R bs) (wholeT 1)).ps [] bs = _
      rw [hm, partN_whole, Int.zero_add, Int.sub_self]
    obtain ⟨ps, e⟩ := e
    rw [e, run_zero _ _ _ _ rfl]
    exact ⟨rfl, by dsimp only; omega, Int.le_refl _, h0, Int.le_refl _, rfl, rfl, rfl⟩
  | k + 2 =>
    have e : ∃ rs, stepT R.h R.p (startS R bs) (wholeT (k + 2)) = ⟨0, 0, 0, R.sum, 0, 0, [], rs, bs⟩ := by
      refine ⟨(resStep R.h R.p (startS R bs) (wholeT (k + 2))).rs, ?_⟩
      show StV.mk (R.sum - partN R.sum 1000000) 0 0 (0 + partN R.sum 1000000) 0 0 [] (resStep R.h R.p (startS R bs) (wholeT (k + 2))).rs bs = _
      rw [partN_whole, Int.zero_add, Int.sub_self]
    obtain ⟨rs, e⟩ := e
    rw [e, run_zero _ _ _ _ rfl]
    exact ⟨rfl, by dsimp only; omega, Int.le_refl _, Int.le_refl _, h0, rfl, rfl, rfl⟩
end Go.Proofs.Ytejkgnlflhngbaa
