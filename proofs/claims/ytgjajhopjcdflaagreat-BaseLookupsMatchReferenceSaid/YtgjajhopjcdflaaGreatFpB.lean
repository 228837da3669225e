import Derived.Test.YtgjajhopjcdflaaGreatFkQ
import Derived.Test.YtgjajhopjcdflaaGreatFkX
namespace Go.Proofs.YtgjajhopjcdflaaGreat
open Go Go.RowKit Go.Lib Go.Shelf Go.Maps

theorem cmpB_swap : ∀ a b : List UInt8, Lib.compareBytes b a = -Lib.compareBytes a b
  | [], [] => rfl
  | [], _ :: _ => rfl
  | _ :: _, [] => rfl
  | x :: a, y :: b => by
    unfold Lib.compareBytes
    have ih := cmpB_swap a b
    by_cases h1 : x < y
    · have h2 : ¬ y < x := by simp only [UInt8.lt_iff_toNat_lt] at *; omega
      rw [if_pos h1, if_neg h2, if_pos h1]
      rfl
    · by_cases h2 : y < x
      · rw [if_pos h2, if_neg h1, if_pos h2]
      · rw [if_neg h2, if_neg h1, if_neg h1, if_neg h2]; exact ih
theorem cmpB_eq : ∀ a b : List UInt8, Lib.compareBytes a b = 0 → a = b
  | [], [], _ => rfl
  | [], _ :: _, h => by simp [Lib.compareBytes] at h
  | _ :: _, [], h => by simp [Lib.compareBytes] at h
  | x :: a, y :: b, h => by
    unfold Lib.compareBytes at h
    split at h
    · cases h
    · split at h
      · cases h
      · rename_i h1 h2
        rw [cmpB_eq a b h, show x = y from UInt8.toNat_inj.1 (by simp only [UInt8.lt_iff_toNat_lt] at *; omega)]
theorem cmpB_self : ∀ a : List UInt8, Lib.compareBytes a a = 0
  | [] => rfl
  | x :: a => by
    unfold Lib.compareBytes
    have h : ¬ x < x := by simp only [UInt8.lt_iff_toNat_lt] at *; omega
    rw [if_neg h, if_neg h]; exact cmpB_self a
theorem cmpB_trans : ∀ a b c : List UInt8, 0 < Lib.compareBytes a b → 0 < Lib.compareBytes b c → 0 < Lib.compareBytes a c
  | [], [], _, h, _ => by simp [Lib.compareBytes] at h
  | [], _ :: _, _, h, _ => by simp [Lib.compareBytes] at h
  | _ :: _, [], [], _, h => by simp [Lib.compareBytes] at h
  | _ :: _, [], _ :: _, _, h => by simp [Lib.compareBytes] at h
  | _ :: _, _ :: _, [], _, _ => by simp [Lib.compareBytes]
  | x :: a, y :: b, z :: c, h1, h2 => by
    unfold Lib.compareBytes at *
    simp only [UInt8.lt_iff_toNat_lt] at *
    by_cases e1 : x.toNat < y.toNat
    · rw [if_pos e1] at h1; omega
    · rw [if_neg e1] at h1
      by_cases e2 : y.toNat < z.toNat
      · rw [if_pos e2] at h2; omega
      · rw [if_neg e2] at h2
        rw [if_neg (by omega)]
        by_cases e3 : z.toNat < x.toNat
        · rw [if_pos e3]; omega
        · rw [if_neg e3]
          rw [if_neg (by omega)] at h1 h2
          exact cmpB_trans a b c h1 h2
/-- what stands ahead of an encoding is one -/
theorem enc_cancel {a b : Int} (a0 : -4611686018427387903 ≤ a) (a1 : a ≤ 4611686018427387903) (b0 : -4611686018427387903 ≤ b) (b1 : b ≤ 4611686018427387903) {r s : List UInt8} (h : WireP.enc (WireP.zz a) ++ r = WireP.enc (WireP.zz b) ++ s) : a = b ∧ r = s := by
  have h1 := WireP.dec_enc a0 a1 r
  rw [h, WireP.dec_enc b0 b1 s] at h1
  simp only [Option.some.injEq, Prod.mk.injEq] at h1
  obtain ⟨e, _⟩ := h1
  subst e
  exact ⟨rfl, List.append_cancel_left h⟩
def Bd (x : Int) : Prop := -4611686018427387903 ≤ x ∧ x ≤ 4611686018427387903
theorem put_bd {x : Int} (h : Bd x) : (putSpec x).1 = WireP.enc (WireP.zz x) := by
  unfold putSpec
  rw [if_neg (by have := h.1; have := h.2; omega)]
theorem encs_cancel (f g : FactV) : ∀ (js : List Nat) (r s : List UInt8), (∀ j ∈ js, Bd (f.n j) ∧ Bd (g.n j)) → js.flatMap (fun i => (putSpec (f.n i)).1) ++ r = js.flatMap (fun i => (putSpec (g.n i)).1) ++ s → (∀ j ∈ js, f.n j = g.n j) ∧ r = s
  | [], r, s, _, h => ⟨by simp, by simpa using h⟩
  | j :: js, r, s, hb, h => by
    rw [List.flatMap_cons, List.flatMap_cons, List.append_assoc, List.append_assoc, put_bd (hb j (by simp)).1, put_bd (hb j (by simp)).2] at h
    obtain ⟨e, h2⟩ := enc_cancel (hb j (by simp)).1.1 (hb j (by simp)).1.2 (hb j (by simp)).2.1 (hb j (by simp)).2.2 h
    obtain ⟨h3, h4⟩ := encs_cancel f g js r s (fun i hi => hb i (by simp [hi])) h2
    refine ⟨fun i hi => ?_, h4⟩
    rcases List.mem_cons.1 hi with rfl | hi
    · exact e
    · exact h3 i hi
theorem fields_bd (f : FactV) : ∀ x ∈ fieldsF f, 0 ≤ x.2.1 ∧ (x.2.2 ≤ 1000000000000 ∨ (f.n 0 = 3 ∧ x.2.2 = IntKind.i64.wrap (f.n 12 - 1))) := by
  have hc : ∀ (l : List (Nat × Int × Int)), l.all (fun x => decide (0 ≤ x.2.1) && decide (x.2.2 ≤ 1000000000000)) = true → ∀ x ∈ l, 0 ≤ x.2.1 ∧ (x.2.2 ≤ 1000000000000 ∨ (f.n 0 = 3 ∧ x.2.2 = IntKind.i64.wrap (f.n 12 - 1))) := by
    intro l h x hx
    have := List.all_eq_true.1 h x hx
    simp only [Bool.and_eq_true, decide_eq_true_eq] at this
    exact ⟨this.1, .inl this.2⟩
  intro x hx
  unfold fieldsF at hx
  split at hx
  · exact hc _ (by decide) x hx
  split at hx
  · exact hc _ (by decide) x hx
  split at hx
  · rename_i h3
    simp only [f_claim, List.mem_cons, List.not_mem_nil, or_false] at hx
    rcases hx with rfl | rfl | rfl | rfl | rfl | rfl | rfl | rfl
    all_goals first | exact ⟨by decide, .inl (by decide)⟩ | exact ⟨Int.le_refl _, .inr ⟨h3, rfl⟩⟩
  split at hx
  · exact hc _ (by decide) x hx
  split at hx
  · exact hc _ (by decide) x hx
  split at hx
  · exact hc _ (by decide) x hx
  split at hx
  · exact hc _ (by decide) x hx
  split at hx
  · exact hc _ (by decide) x hx
  split at hx
  · exact hc _ (by decide) x hx
  split at hx
  · exact hc _ (by decide) x hx
  · simp at hx
theorem valid_parts {f : FactV} (h : validB f = true) : (1 ≤ f.n 0 ∧ f.n 0 ≤ 10) ∧ (1 ≤ f.n 2 ∧ f.n 2 ≤ 1000 ∧ f.text.size ≤ 2000) ∧ (∀ x ∈ fieldsF f, x.2.1 ≤ f.n x.1 ∧ f.n x.1 ≤ x.2.2) ∧ ∀ j, j < 17 → (zeroF f ((fieldsF f).map (·.1)) (hasText f)).n j = (bareK (f.n 0) (f.n 2)).n j := by
  unfold validB at h
  simp only [Bool.and_eq_true, decide_eq_true_eq] at h
  obtain ⟨h1, h2, h3, h4⟩ := h
  refine ⟨h1, h2, fun x hx => ?_, (sameF_iff.1 h4).1⟩
  have := List.all_eq_true.1 h3 x hx
  simpa using this
theorem valid_bd {f : FactV} (h : validB f = true) (j : Nat) (hj : j < 17) : Bd (f.n j) := by
  obtain ⟨h1, h2, h3, h4⟩ := valid_parts h
  by_cases hm : j ∈ (fieldsF f).map (·.1)
  · obtain ⟨x, hx, rfl⟩ := List.mem_map.1 hm
    have hb := fields_bd f x hx
    have hl := h3 x hx
    unfold Bd
    rcases hb.2 with hu | ⟨hk, hu⟩
    · omega
    · have h12 : ((12, 1, 1200) : Nat × Int × Int) ∈ fieldsF f := by
        unfold fieldsF
        rw [if_neg (by omega), if_neg (by omega), if_pos hk]
        simp [f_claim]
      have h5 := h3 _ h12
      dsimp only at h5
      rw [IntKind.wrap_i64] at hu
      omega
  · have h5 := h4 j hj
    rw [zeroF_get _ _ _ _ hm] at h5
    rw [h5]
    unfold Bd
    show -4611686018427387903 ≤ (if j = 0 then f.n 0 else if j = 2 then f.n 2 else 0) ∧ (if j = 0 then f.n 0 else if j = 2 then f.n 2 else 0) ≤ 4611686018427387903
    repeat' split
    all_goals omega
/-- nothing behind the seventeen numbers -/
def Canon (f : FactV) : Prop := ∀ j, 17 ≤ j → f.n j = 0
theorem FactV.ext2 {f g : FactV} (h1 : ∀ j, f.n j = g.n j) (h2 : f.text = g.text) : f = g := by
  obtain ⟨a, b⟩ := f
  obtain ⟨c, d⟩ := g
  have : a = c := funext h1
  subst this
  have : b = d := h2
  subst this
  rfl
theorem enc_inj {f g : FactV} (hf : validB f = true) (hg : validB g = true) (cf : Canon f) (cg : Canon g) (h : encL f = encL g) : f = g := by
  unfold encL encN at h
  obtain ⟨h1, h2⟩ := encs_cancel f g (List.range 17) _ _ (fun j hj => ⟨valid_bd hf j (List.mem_range.1 hj), valid_bd hg j (List.mem_range.1 hj)⟩) h
  refine FactV.ext2 (fun j => ?_) ?_
  · by_cases hj : j < 17
    · exact h1 j (List.mem_range.2 hj)
    · rw [cf j (by omega), cg j (by omega)]
  · have l1 : f.text.data.toList.length ≤ 2000 := by have := (valid_parts hf).2.1.2.2; rw [Array.length_toList]; exact this
    have l2 : g.text.data.toList.length ≤ 2000 := by have := (valid_parts hg).2.1.2.2; rw [Array.length_toList]; exact this
    unfold putStrSpec at h2
    rw [if_neg (by omega), if_neg (by omega)] at h2
    obtain ⟨_, h3⟩ := enc_cancel (by omega) (by omega) (by omega) (by omega) h2
    exact ByteArray.ext (Array.toList_inj.1 h3)
theorem keyEq_symm {f g : FactV} (h : keyEq f g = true) : keyEq g f = true := keyEq_iff.2 (keyEq_iff.1 h).symm
theorem keyEq_trans {f g h : FactV} (h1 : keyEq f g = true) (h2 : keyEq g h = true) : keyEq f h = true := keyEq_iff.2 ((keyEq_iff.1 h1).trans (keyEq_iff.1 h2))
theorem keyEq_refl (f : FactV) : keyEq f f = true := keyEq_iff.2 rfl
theorem prev_iff {f g : FactV} : prevB f g = true ↔ validB f = true ∧ validB g = true ∧ keyEq f g = true ∧ (g.n 2 < f.n 2 ∨ (f.n 2 = g.n 2 ∧ 0 < Lib.compareBytes (encL f) (encL g))) := by
  unfold prevB
  simp only [Bool.and_eq_true]
  by_cases h : f.n 2 = g.n 2
  · rw [if_pos h]
    simp [h]
  · rw [if_neg h]
    simp [h]
theorem prev_irr (f : FactV) : prevB f f = false := by
  cases h : prevB f f
  · rfl
  · have h2 := (prev_iff.1 h).2.2.2
    rw [cmpB_self] at h2
    omega
theorem prev_trans {f g h : FactV} (h1 : prevB f g = true) (h2 : prevB g h = true) : prevB f h = true := by
  obtain ⟨a1, a2, a3, a4⟩ := prev_iff.1 h1
  obtain ⟨b1, b2, b3, b4⟩ := prev_iff.1 h2
  refine prev_iff.2 ⟨a1, b2, keyEq_trans a3 b3, ?_⟩
  rcases a4 with a4 | ⟨a4, a5⟩
  · rcases b4 with b4 | ⟨b4, _⟩ <;> exact .inl (by omega)
  · rcases b4 with b4 | ⟨b4, b5⟩
    · exact .inl (by omega)
    · exact .inr ⟨by omega, cmpB_trans _ _ _ a5 b5⟩
theorem prev_asym {f g : FactV} (h1 : prevB f g = true) (h2 : prevB g f = true) : False := by
  have := prev_trans h1 h2
  rw [prev_irr] at this
  cases this
theorem prev_total {f g : FactV} (hf : validB f = true) (hg : validB g = true) (cf : Canon f) (cg : Canon g) (hk : keyEq f g = true) : f = g ∨ prevB f g = true ∨ prevB g f = true := by
  rcases Int.lt_trichotomy (f.n 2) (g.n 2) with h | h | h
  · exact .inr (.inr (prev_iff.2 ⟨hg, hf, keyEq_symm hk, .inl h⟩))
  · rcases Int.lt_trichotomy (Lib.compareBytes (encL f) (encL g)) 0 with h2 | h2 | h2
    · exact .inr (.inr (prev_iff.2 ⟨hg, hf, keyEq_symm hk, .inr ⟨h.symm, by rw [cmpB_swap]; omega⟩⟩))
    · exact .inl (enc_inj hf hg cf cg (cmpB_eq _ _ h2))
    · exact .inr (.inl (prev_iff.2 ⟨hf, hg, hk, .inr ⟨h, h2⟩⟩))
  · exact .inr (.inl (prev_iff.2 ⟨hf, hg, hk, .inl h⟩))
/-- f is the fact of its key in l that prevails -/
def Best (l : List FactV) (f : FactV) : Prop := f ∈ l ∧ validB f = true ∧ ∀ g ∈ l, validB g = true → keyEq f g = true → g = f ∨ prevB f g = true
theorem Best.one {l : List FactV} {f g : FactV} (hf : Best l f) (hg : Best l g) (hk : keyEq f g = true) : f = g := by
  rcases hf.2.2 g hg.1 hg.2.1 hk with h | h
  · exact h.symm
  · rcases hg.2.2 f hf.1 hf.2.1 (keyEq_symm hk) with h2 | h2
    · exact h2
    · exact (prev_asym h h2).elim
theorem mem_putL {L : List FactV} {f x : FactV} : x ∈ putL L f ↔ (x ∈ L ∧ keyEq f x = false) ∨ x = f := by
  unfold putL
  split
  · rename_i h
    obtain ⟨g, hg, hk⟩ := List.any_eq_true.1 h
    rw [List.mem_map]
    constructor
    · rintro ⟨y, hy, he⟩
      split at he
      · exact .inr he.symm
      · rename_i hn
        exact .inl ⟨he ▸ hy, by rw [← he]; simpa using hn⟩
    · rintro (⟨hx, hn⟩ | rfl)
      · exact ⟨x, hx, by simp [hn]⟩
      · exact ⟨g, hg, by simp [hk]⟩
  · rename_i h
    rw [List.mem_append, List.mem_singleton]
    have hn : ∀ y ∈ L, keyEq f y = false := by
      intro y hy
      cases hy2 : keyEq f y
      · rfl
      · exact absurd (List.any_eq_true.2 ⟨y, hy, hy2⟩) h
    constructor
    · rintro (hx | rfl)
      · exact .inl ⟨hx, hn x hx⟩
      · exact .inr rfl
    · rintro (⟨hx, _⟩ | rfl)
      · exact .inl hx
      · exact .inr rfl
theorem snoc_ind {α : Type} {P : List α → Prop} (h0 : P []) (h1 : ∀ l x, P l → P (l ++ [x])) (l : List α) : P l := by
  rw [← List.reverse_reverse l]
  induction l.reverse with
  | nil => exact h0
  | cons x l ih => rw [List.reverse_cons]; exact h1 _ _ ih
theorem Best.ext {l : List FactV} {f x : FactV} (h : Best l f) (hx : validB x = true → keyEq f x = true → x = f ∨ prevB f x = true) : Best (l ++ [x]) f := by
  refine ⟨by simp [h.1], h.2.1, fun g hg hv hk => ?_⟩
  rcases List.mem_append.1 hg with hg | hg
  · exact h.2.2 g hg hv hk
  · rw [List.mem_singleton.1 hg] at hv hk ⊢
    exact hx hv hk
theorem Best.old {l : List FactV} {f x : FactV} (h : Best (l ++ [x]) f) (hf : f ∈ l) : Best l f := ⟨hf, h.2.1, fun g hg => h.2.2 g (by simp [hg])⟩
/-- the best facts are those that prevail; and each valid fact's key is there -/
theorem bestL_iff (l : List FactV) : (∀ f ∈ l, Canon f) → (∀ f, f ∈ bestL l ↔ Best l f) ∧ ∀ g ∈ l, validB g = true → ∃ f ∈ bestL l, keyEq f g = true := by
  refine snoc_ind (P := fun l => (∀ f ∈ l, Canon f) → (∀ f, f ∈ bestL l ↔ Best l f) ∧ ∀ g ∈ l, validB g = true → ∃ f ∈ bestL l, keyEq f g = true) ?_ ?_ l
  · intro _
    exact ⟨fun f => ⟨fun h => by simp [bestL] at h, fun h => by simp [Best] at h⟩, by simp⟩
  · intro l x ih hc
    obtain ⟨ih1, ih2⟩ := ih (fun f hf => hc f (by simp [hf]))
    have cx := hc x (by simp)
    rw [bestL_snoc]
    cases hv : validB x
    · have hs : stepB (bestL l) x = bestL l := by unfold stepB; rw [hv]; rfl
      rw [hs]
      refine ⟨fun f => ⟨fun h => ((ih1 f).1 h).ext (fun h2 => by rw [hv] at h2; cases h2), fun h => (ih1 f).2 (h.old ?_)⟩, fun g hg hg2 => ?_⟩
      · rcases List.mem_append.1 h.1 with h1 | h1
        · exact h1
        · rw [List.mem_singleton.1 h1] at h; have := h.2.1; rw [hv] at this; cases this
      · rcases List.mem_append.1 hg with h1 | h1
        · exact ih2 g h1 hg2
        · rw [List.mem_singleton.1 h1, hv] at hg2; cases hg2
    · -- what a list with x put in holds
      have put : ∀ (hb : ∀ h ∈ l, validB h = true → keyEq x h = true → prevB x h = true), (∀ f, f ∈ putL (bestL l) x ↔ Best (l ++ [x]) f) ∧ ∀ g ∈ l ++ [x], validB g = true → ∃ f ∈ putL (bestL l) x, keyEq f g = true := by
        intro hb
        have bx : Best (l ++ [x]) x := by
          refine ⟨by simp, hv, fun g hg hgv hk => ?_⟩
          rcases List.mem_append.1 hg with h1 | h1
          · exact .inr (hb g h1 hgv hk)
          · exact .inl (List.mem_singleton.1 h1)
        refine ⟨fun f => ?_, fun g hg hgv => ?_⟩
        · rw [mem_putL]
          constructor
          · rintro (⟨h1, h2⟩ | rfl)
            · refine ((ih1 f).1 h1).ext (fun _ h3 => ?_)
              rw [keyEq_symm h3] at h2
              cases h2
            · exact bx
          · intro h
            rcases List.mem_append.1 h.1 with h1 | h1
            · cases hk : keyEq x f
              · exact .inl ⟨(ih1 f).2 (h.old h1), rfl⟩
              · exact .inr (Best.one h bx (keyEq_symm hk))
            · exact .inr (List.mem_singleton.1 h1)
        · rcases List.mem_append.1 hg with h1 | h1
          · obtain ⟨f, hf, hk⟩ := ih2 g h1 hgv
            cases hx : keyEq x f
            · exact ⟨f, mem_putL.2 (.inl ⟨hf, hx⟩), hk⟩
            · exact ⟨x, mem_putL.2 (.inr rfl), keyEq_trans hx hk⟩
          · rw [List.mem_singleton.1 h1]
            exact ⟨x, mem_putL.2 (.inr rfl), keyEq_refl x⟩
      cases hfi : (bestL l).find? (keyEq x) with
      | none =>
        have hs : stepB (bestL l) x = putL (bestL l) x := by unfold stepB; rw [hv, hfi]; rfl
        rw [hs]
        refine put (fun h hh hhv hk => ?_)
        obtain ⟨f, hf, hk2⟩ := ih2 h hh hhv
        have := List.find?_eq_none.1 hfi f hf
        exact absurd (keyEq_trans hk (keyEq_symm hk2)) this
      | some g =>
        have hg := List.mem_of_find?_eq_some hfi
        have hgk : keyEq x g = true := List.find?_some hfi
        have bg := (ih1 g).1 hg
        cases hp : prevB x g
        · have hs : stepB (bestL l) x = bestL l := by unfold stepB; rw [hv, hfi]; simp [hp]
          rw [hs]
          have hxg : x = g ∨ prevB g x = true := by
            rcases prev_total hv bg.2.1 cx (hc g (by simp [bg.1])) hgk with h | h | h
            · exact .inl h
            · rw [hp] at h; cases h
            · exact .inr h
          refine ⟨fun f => ⟨fun h => ?_, fun h => ?_⟩, fun h hh hhv => ?_⟩
          · have bf := (ih1 f).1 h
            refine bf.ext (fun _ hk => ?_)
            have e := Best.one bf bg (keyEq_trans hk hgk)
            rw [e]
            exact hxg
          · rcases List.mem_append.1 h.1 with h1 | h1
            · exact (ih1 f).2 (h.old h1)
            · have e := List.mem_singleton.1 h1
              subst e
              rcases h.2.2 g (by simp [bg.1]) bg.2.1 hgk with h2 | h2
              · rw [← h2]; exact hg
              · rw [hp] at h2; cases h2
          · rcases List.mem_append.1 hh with h1 | h1
            · exact ih2 h h1 hhv
            · rw [List.mem_singleton.1 h1]
              exact ⟨g, hg, keyEq_symm hgk⟩
        · have hs : stepB (bestL l) x = putL (bestL l) x := by unfold stepB; rw [hv, hfi]; simp [hp]
          rw [hs]
          refine put (fun h hh hhv hk => ?_)
          rcases bg.2.2 h hh hhv (keyEq_trans (keyEq_symm hgk) hk) with h1 | h1
          · rw [h1]; exact hp
          · exact prev_trans hp h1
/-- the base of a list hangs on the set of its facts alone -/
theorem best_set {l m : List FactV} (hl : ∀ f ∈ l, Canon f) (hlm : ∀ f, f ∈ l ↔ f ∈ m) : ∀ f, f ∈ bestL l ↔ f ∈ bestL m := by
  intro f
  rw [(bestL_iff l hl).1 f, (bestL_iff m (fun g hg => hl g ((hlm g).2 hg))).1 f]
  unfold Best
  constructor
  · rintro ⟨h1, h2, h3⟩
    exact ⟨(hlm f).1 h1, h2, fun g hg => h3 g ((hlm g).2 hg)⟩
  · rintro ⟨h1, h2, h3⟩
    exact ⟨(hlm f).2 h1, h2, fun g hg => h3 g ((hlm g).1 hg)⟩
end Go.Proofs.YtgjajhopjcdflaaGreat
namespace Go.Proofs.YtgjajhopjcdflaaGreat
open Go Go.RowKit Go.Lib Go.Shelf Go.Maps

theorem kLt_irr (a : Int × Int × Int) : ¬ kLt a a := by unfold kLt; omega
theorem kLt_trans {a b c : Int × Int × Int} (h1 : kLt a b) (h2 : kLt b c) : kLt a c := by unfold kLt at *; omega
theorem sorted_unique : ∀ (fs gs : List FactV), fs.Pairwise (fun a b => kLt (kT a) (kT b)) → gs.Pairwise (fun a b => kLt (kT a) (kT b)) → (∀ f, f ∈ fs ↔ f ∈ gs) → fs = gs
  | [], [], _, _, _ => rfl
  | [], g :: gs, _, _, h => by have := (h g).2 (by simp); simp at this
  | f :: fs, [], _, _, h => by have := (h f).1 (by simp); simp at this
  | f :: fs, g :: gs, h1, h2, h => by
    rw [List.pairwise_cons] at h1 h2
    have e : f = g := by
      rcases List.mem_cons.1 ((h f).1 (by simp)) with e | e
      · exact e
      · rcases List.mem_cons.1 ((h g).2 (by simp)) with e2 | e2
        · exact e2.symm
        · exact absurd (kLt_trans (h1.1 g e2) (h2.1 f e)) (kLt_irr _)
    subst e
    rw [sorted_unique fs gs h1.2 h2.2 (fun x => ?_)]
    constructor
    · intro hx
      rcases List.mem_cons.1 ((h x).1 (by simp [hx])) with e | e
      · subst e; exact absurd (h1.1 x hx) (kLt_irr _)
      · exact e
    · intro hx
      rcases List.mem_cons.1 ((h x).2 (by simp [hx])) with e | e
      · subst e; exact absurd (h2.1 x hx) (kLt_irr _)
      · exact e
theorem sameF_refl (f : FactV) : sameF f f = true := sameF_iff.2 ⟨fun _ _ => rfl, rfl⟩
theorem sameL_refl : ∀ l : List FactV, sameL l l = true
  | [] => rfl
  | f :: l => by simp [sameL, sameF_refl, sameL_refl l]
theorem sameBs_refl (L : Nat → List FactV) : sameBs L L = true := by
  unfold sameBs
  rw [List.all_eq_true]
  exact fun q _ => sameL_refl _
/-- two bases of the same set of facts are the same -/
theorem base_set {l m fs gs : List FactV} (hl : ∀ f ∈ l, Canon f) (hlm : ∀ f, f ∈ l ↔ f ∈ m) (h1 : fs.Perm (bestL l)) (h2 : gs.Perm (bestL m)) (s1 : fs.Pairwise (fun a b => kLt (kT a) (kT b))) (s2 : gs.Pairwise (fun a b => kLt (kT a) (kT b))) : fs = gs :=
  sorted_unique fs gs s1 s2 (fun f => (h1.mem_iff.trans (best_set hl hlm f)).trans h2.mem_iff.symm)
theorem fields_same {f g : FactV} (h : sameF f g = true) (cf : Canon f) (cg : Canon g) : f = g := by
  obtain ⟨h1, h2⟩ := sameF_iff.1 h
  refine FactV.ext2 (fun j => ?_) h2
  by_cases hj : j < 17
  · exact h1 j hj
  · rw [cf j (by omega), cg j (by omega)]
end Go.Proofs.YtgjajhopjcdflaaGreat
