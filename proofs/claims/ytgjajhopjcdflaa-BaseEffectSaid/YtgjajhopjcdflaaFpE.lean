/- Plain law of chapter 07: a contract, rules or a method more. -/
import Derived.Test.YtgjajhopjcdflaaFpD
import Derived.Test.YtgjajhopjcdflaaFkZ
import Derived.Test.YtgjajhopjcdflaaFlE
namespace Go.Proofs.Ytgjajhopjcdflaa
open Go Go.RowKit Go.Lib Go.Shelf Go.Maps

/-- a fact with version 900 -/
def verF (g : FactV) : FactV := ⟨fun j => if j = 2 then 900 else g.n j, g.text⟩
theorem ver_cells (g : FactV) : g.cells.setIfInBounds 2 (.int .i64 900) = (verF g).cells := by
  unfold FactV.cells verF
  simp
theorem ver_canon {g : FactV} (h : Canon g) : Canon (verF g) := fun j hj => by
  show (if j = 2 then (900 : Int) else g.n j) = 0
  rw [if_neg (by omega)]
  exact h j hj
theorem ver_ok {g : FactV} (h : FactOk g) : FactOk (verF g) := fun j => by
  show -9223372036854775808 ≤ (if j = 2 then (900 : Int) else g.n j) ∧ (if j = 2 then (900 : Int) else g.n j) ≤ 9223372036854775807
  split
  · omega
  · exact h j
theorem makeF_ver (k a b v n p : Nat) (h1 : 1 ≤ k) (h2 : k ≤ 10) : (makeF k a b v n p).n 2 = (v : Int) := by
  rcases (by omega : k = 1 ∨ k = 2 ∨ k = 3 ∨ k = 4 ∨ k = 5 ∨ k = 6 ∨ k = 7 ∨ k = 8 ∨ k = 9 ∨ k = 10) with rfl | rfl | rfl | rfl | rfl | rfl | rfl | rfl | rfl | rfl <;> rfl
theorem make_version (x : Nat → Int) : (makeX x).n 2 ≤ 4 := by
  have b0 := pickN_bd (x 0) 10 (by omega)
  have b3 := pickN_bd (x 3) 4 (by omega)
  unfold makeX
  rw [makeF_ver _ _ _ _ _ _ (by omega) (by omega)]
  omega
theorem makeF_kind (k a b v n p : Nat) (h1 : 1 ≤ k) (h2 : k ≤ 10) : (makeF k a b v n p).n 0 = (k : Int) := by
  rcases (by omega : k = 1 ∨ k = 2 ∨ k = 3 ∨ k = 4 ∨ k = 5 ∨ k = 6 ∨ k = 7 ∨ k = 8 ∨ k = 9 ∨ k = 10) with rfl | rfl | rfl | rfl | rfl | rfl | rfl | rfl | rfl | rfl <;> rfl
theorem valid_of (f : FactV) (h0 : 1 ≤ f.n 0 ∧ f.n 0 ≤ 10) (h2 : 1 ≤ f.n 2 ∧ f.n 2 ≤ 1000) (ht : f.text.size ≤ 2000) (hx : hasText f = true ∨ f.text = ⟨#[]⟩) (hf : ∀ x ∈ fieldsF f, x.2.1 ≤ f.n x.1 ∧ f.n x.1 ≤ x.2.2) (hz : ∀ j, j < 17 → j ≠ 0 → j ≠ 2 → j ∉ (fieldsF f).map (·.1) → f.n j = 0) (hd : 0 ∉ (fieldsF f).map (·.1) ∧ 2 ∉ (fieldsF f).map (·.1)) : validB f = true := by
  unfold validB
  simp only [Bool.and_eq_true, decide_eq_true_eq]
  refine ⟨h0, ⟨h2.1, h2.2, ht⟩, List.all_eq_true.2 (fun x hx => by simpa using hf x hx), sameF_iff.2 ⟨fun j hj => ?_, ?_⟩⟩
  · show (if j ∈ (fieldsF f).map (·.1) then (0 : Int) else f.n j) = if j = 0 then f.n 0 else if j = 2 then f.n 2 else 0
    by_cases h00 : j = 0
    · subst h00; rw [if_neg hd.1, if_pos rfl]
    · by_cases h22 : j = 2
      · subst h22; rw [if_neg hd.2, if_neg h00, if_pos rfl]
      · rw [if_neg h00, if_neg h22]
        split
        · rfl
        · exact hz j hj h00 h22 ‹_›
  · show (if hasText f = true then (⟨#[]⟩ : ByteArray) else f.text) = ⟨#[]⟩
    rcases hx with h | h
    · rw [if_pos h]
    · split
      · rfl
      · exact h
theorem ver_valid4 (a p : Nat) (t : ByteArray) (v : Int) (ha : 1 ≤ a ∧ a ≤ 4) (hp : p < 4) (ht : t.size ≤ 100) : validB (verF (mkF [4, 0, v, 0, 0, 0, 0, 0, 0, a, 0, p, 0, 0, 0, 0, 0] t)) = true := by
  refine valid_of _ (by show (1 : Int) ≤ 4 ∧ (4 : Int) ≤ 10; decide) (by show (1 : Int) ≤ 900 ∧ (900 : Int) ≤ 1000; decide) (Nat.le_trans ht (by omega)) (.inl rfl) ?_ ?_ (by show 0 ∉ f_contract.map (·.1) ∧ 2 ∉ f_contract.map (·.1); decide)
  · intro x hx
    rcases List.mem_cons.1 (show x ∈ f_contract from hx) with rfl | hx
    · show (1 : Int) ≤ (a : Int) ∧ (a : Int) ≤ 1000000; omega
    · rw [List.mem_singleton.1 hx]; show (0 : Int) ≤ (p : Int) ∧ (p : Int) ≤ 1199; omega
  · intro j hj h0 h2 hn
    have h9 : j ≠ 9 := fun e => hn (by subst e; show 9 ∈ f_contract.map (·.1); decide)
    have h11 : j ≠ 11 := fun e => hn (by subst e; show 11 ∈ f_contract.map (·.1); decide)
    rcases (by omega : j = 1 ∨ j = 3 ∨ j = 4 ∨ j = 5 ∨ j = 6 ∨ j = 7 ∨ j = 8 ∨ j = 10 ∨ j = 12 ∨ j = 13 ∨ j = 14 ∨ j = 15 ∨ j = 16) with rfl | rfl | rfl | rfl | rfl | rfl | rfl | rfl | rfl | rfl | rfl | rfl | rfl <;> rfl
theorem ver_valid9 (p : Nat) (t : ByteArray) (v : Int) (hp : p < 4) (ht : t.size ≤ 100) : validB (verF (mkF [9, 0, v, 0, 0, 0, 0, 0, 0, 0, 0, p, 0, 0, 0, 0, 0] t)) = true := by
  refine valid_of _ (by show (1 : Int) ≤ 9 ∧ (9 : Int) ≤ 10; decide) (by show (1 : Int) ≤ 900 ∧ (900 : Int) ≤ 1000; decide) (Nat.le_trans ht (by omega)) (.inl rfl) ?_ ?_ (by show 0 ∉ f_rules.map (·.1) ∧ 2 ∉ f_rules.map (·.1); decide)
  · intro x hx
    rw [List.mem_singleton.1 (show x ∈ f_rules from hx)]; show (0 : Int) ≤ (p : Int) ∧ (p : Int) ≤ 1199; omega
  · intro j hj h0 h2 hn
    have h11 : j ≠ 11 := fun e => hn (by subst e; show 11 ∈ f_rules.map (·.1); decide)
    rcases (by omega : j = 1 ∨ j = 3 ∨ j = 4 ∨ j = 5 ∨ j = 6 ∨ j = 7 ∨ j = 8 ∨ j = 9 ∨ j = 10 ∨ j = 12 ∨ j = 13 ∨ j = 14 ∨ j = 15 ∨ j = 16) with rfl | rfl | rfl | rfl | rfl | rfl | rfl | rfl | rfl | rfl | rfl | rfl | rfl | rfl <;> rfl
theorem ver_valid10 (a p n : Nat) (v : Int) (ha : 1 ≤ a ∧ a ≤ 4) (hp : p < 4) (hn : 1 ≤ n ∧ n ≤ 2) : validB (verF (mkF [10, 0, v, 0, 0, 0, 0, 0, a, 0, 0, p, 0, 0, 0, 0, n] ⟨#[]⟩)) = true := by
  refine valid_of _ (by show (1 : Int) ≤ 10 ∧ (10 : Int) ≤ 10; decide) (by show (1 : Int) ≤ 900 ∧ (900 : Int) ≤ 1000; decide) (by show (0 : Nat) ≤ 2000; decide) (.inr rfl) ?_ ?_ (by show 0 ∉ f_method.map (·.1) ∧ 2 ∉ f_method.map (·.1); decide)
  · intro x hx
    rcases List.mem_cons.1 (show x ∈ f_method from hx) with rfl | hx
    · show (0 : Int) ≤ (a : Int) ∧ (a : Int) ≤ 7; omega
    · rcases List.mem_cons.1 hx with rfl | hx
      · show (0 : Int) ≤ (p : Int) ∧ (p : Int) ≤ 1199; omega
      · rw [List.mem_singleton.1 hx]; show (1 : Int) ≤ (n : Int) ∧ (n : Int) ≤ 2; omega
  · intro j hj h0 h2 hm
    have h8 : j ≠ 8 := fun e => hm (by subst e; show 8 ∈ f_method.map (·.1); decide)
    have h11 : j ≠ 11 := fun e => hm (by subst e; show 11 ∈ f_method.map (·.1); decide)
    have h16 : j ≠ 16 := fun e => hm (by subst e; show 16 ∈ f_method.map (·.1); decide)
    rcases (by omega : j = 1 ∨ j = 3 ∨ j = 4 ∨ j = 5 ∨ j = 6 ∨ j = 7 ∨ j = 9 ∨ j = 10 ∨ j = 12 ∨ j = 13 ∨ j = 14 ∨ j = 15) with rfl | rfl | rfl | rfl | rfl | rfl | rfl | rfl | rfl | rfl | rfl | rfl <;> rfl
theorem ver_valid (x : Nat → Int) (h : (makeX x).n 0 = 4 ∨ (makeX x).n 0 = 9 ∨ (makeX x).n 0 = 10) : validB (verF (makeX x)) = true := by
  have b0 := pickN_bd (x 0) 10 (by omega)
  have b1 := pickN_bd (x 1) 4 (by omega)
  have b4 := pickN_bd (x 4) 1000 (by omega)
  have b5 := pickN_bd (x 5) 4 (by omega)
  unfold makeX at h ⊢
  obtain ⟨k, hk⟩ : ∃ z, 1 + (pickN (x 0) 10).toNat = z := ⟨_, rfl⟩
  obtain ⟨a, ha⟩ : ∃ z, 1 + (pickN (x 1) 4).toNat = z := ⟨_, rfl⟩
  obtain ⟨b, hb⟩ : ∃ z, 1 + (pickN (x 2) 3).toNat = z := ⟨_, rfl⟩
  obtain ⟨v, hv⟩ : ∃ z, 1 + (pickN (x 3) 4).toNat = z := ⟨_, rfl⟩
  obtain ⟨n, hn⟩ : ∃ z, (pickN (x 4) 1000).toNat = z := ⟨_, rfl⟩
  obtain ⟨p, hp⟩ : ∃ z, (pickN (x 5) 4).toNat = z := ⟨_, rfl⟩
  rw [hk, ha, hb, hv, hn, hp] at h ⊢
  rw [makeF_kind k a b v n p (by omega) (by omega)] at h
  rcases (by omega : k = 4 ∨ k = 9 ∨ k = 10) with rfl | rfl | rfl
  · refine ver_valid4 a p _ _ (by omega) (by omega) ?_
    rcases (by omega : n % 4 = 0 ∨ n % 4 = 1 ∨ n % 4 = 2 ∨ n % 4 = 3) with e | e | e | e <;> rw [e] <;> decide
  · refine ver_valid9 p _ _ (by omega) ?_
    rcases (by omega : n % 3 = 0 ∨ n % 3 = 1 ∨ n % 3 = 2) with e | e | e <;> rw [e] <;> decide
  · exact ver_valid10 a p (1 + n % 2) _ (by omega) (by omega) (by omega)
theorem valid_zero {g : FactV} (h : validB g = true) (j : Nat) (hj : j < 17) (h0 : j ≠ 0) (h2 : j ≠ 2) (hn : j ∉ (fieldsF g).map (·.1)) : g.n j = 0 := by
  have := (valid_parts h).2.2.2 j hj
  rw [zeroF_get _ _ _ _ hn] at this
  rw [this]
  show (if j = 0 then g.n 0 else if j = 2 then g.n 2 else (0 : Int)) = 0
  rw [if_neg h0, if_neg h2]
/-- begins later than f, and is in effect at p -/
def laterB (f : FactV) (p : Int) (g : FactV) : Bool := g.n 0 == f.n 0 && (g.n 9 == f.n 9 && (g.n 8 == f.n 8 && (decide (f.n 11 < g.n 11) && decide (g.n 11 ≤ p))))
def laterL (f : FactV) (p : Int) (l : List FactV) : Bool := l.any (laterB f p)
theorem later_take {f g : FactV} {p : Int} {l : List FactV} {j : Nat} (h : l[j]? = some g) : laterL f p (l.take (j + 1)) = (laterL f p (l.take j) || laterB f p g) := by
  rw [take_next h]; simp [laterL]
/-- the law of what is in effect, for a sort 'is' of facts of the kind q + 1 -/
theorem effect_law {l fs gs : List FactV} {f : FactV} (q : Nat) (is : FactV → Bool) (p : Int) (hl : ∀ x ∈ l, Canon x ∧ x.n 2 ≤ 4) (hf : Canon f) (hv : validB f = true) (h9 : f.n 2 = 900) (hq : f.n 0 = (q : Int) + 1) (hisf : is f = true)
    (hkey : ∀ x y, validB x = true → validB y = true → x.n 0 = (q : Int) + 1 → y.n 0 = (q : Int) + 1 → is x = true → is y = true → x.n 11 = y.n 11 → keyEq x y = true)
    (hkf : ∀ x, x.n 0 = (q : Int) + 1 → keyEq x f = true → x.n 11 = f.n 11)
    (hlater : ∀ g, validB g = true → g.n 0 = (q : Int) + 1 → is g = true → f.n 11 < g.n 11 → g.n 11 ≤ p → laterB f p g = true) (hlater2 : ∀ g, laterB f p g = true → is g = true)
    (h1 : fs.Perm (bestL l)) (h2 : gs.Perm (bestL (l ++ [f]))) (s1 : fs.Pairwise (fun a b => kLt (kT a) (kT b))) (s2 : gs.Pairwise (fun a b => kLt (kT a) (kT b))) :
    ((p < f.n 11 ∨ laterL f p gs = true) → inEff is p (fs.filter (kindF q)) = inEff is p (gs.filter (kindF q))) ∧ (¬ p < f.n 11 → laterL f p gs = false → inEff is p (gs.filter (kindF q)) = some f) := by
  have hlc : ∀ x ∈ l, Canon x := fun x hx => (hl x hx).1
  have hl2 : ∀ x ∈ l ++ [f], Canon x := by
    intro x hx
    rcases List.mem_append.1 hx with h | h
    · exact hlc x h
    · rw [List.mem_singleton.1 h]; exact hf
  have memG : ∀ x, x ∈ gs ↔ Best (l ++ [f]) x := fun x => h2.mem_iff.trans ((bestL_iff _ hl2).1 x)
  have ho := add_others hlc hf h1 h2 s1 s2
  have hkind : ∀ (x : FactV) (m : List FactV), x ∈ m.filter (kindF q) → x ∈ m ∧ x.n 0 = (q : Int) + 1 := fun x m h => ⟨(List.mem_filter.1 h).1, kind_iff.1 (List.mem_filter.1 h).2⟩
  have hvg : ∀ x ∈ gs, validB x = true := fun x hx => ((memG x).1 hx).2.1
  have hT : ∀ x : FactV, x.n 11 ≠ f.n 11 → (x ∈ gs.filter (kindF q) ↔ x ∈ fs.filter (kindF q)) := by
    intro x hx
    have key : ∀ m : List FactV, x ∈ m.filter (kindF q) ↔ x ∈ otherK f m ∧ kindF q x = true := by
      intro m
      unfold otherK
      rw [List.mem_filter, List.mem_filter]
      constructor
      · rintro ⟨h3, h4⟩
        refine ⟨⟨h3, ?_⟩, h4⟩
        cases hk : keyEq x f
        · rfl
        · exact absurd (hkf x (kind_iff.1 h4) hk) hx
      · rintro ⟨⟨h3, _⟩, h4⟩; exact ⟨h3, h4⟩
    rw [key gs, key fs, ho]
  have uniq : ∀ x y, x ∈ gs.filter (kindF q) → y ∈ gs.filter (kindF q) → is x = true → is y = true → x.n 11 = y.n 11 → x = y := by
    intro x y hx hy ix iy e
    obtain ⟨hx1, hx2⟩ := hkind x gs hx
    obtain ⟨hy1, hy2⟩ := hkind y gs hy
    exact Best.one ((memG x).1 hx1) ((memG y).1 hy1) (hkey x y (hvg x hx1) (hvg y hy1) hx2 hy2 ix iy e)
  constructor
  · intro hb
    refine (eff_same is p (gs.filter (kindF q)) (fs.filter (kindF q)) (fun x => if p < f.n 11 then x.n 11 ≤ p else f.n 11 < x.n 11) (fun x hx => hT x ?_) (fun x y hx1 hx2 hy hyx _ => ?_) ?_ uniq).symm
    · split at hx <;> omega
    · split at hy
      · rw [if_pos ‹_›]; exact hx2
      · rw [if_neg ‹_›]; omega
    · by_cases hp : p < f.n 11
      · right
        intro x _ hx _
        rw [if_pos hp]; exact hx
      · left
        rcases hb with h | h
        · exact absurd h hp
        · obtain ⟨t, ht1, ht2⟩ := List.any_eq_true.1 h
          have his := hlater2 t ht2
          unfold laterB at ht2
          simp only [Bool.and_eq_true, beq_iff_eq, decide_eq_true_eq] at ht2
          refine ⟨t, List.mem_filter.2 ⟨ht1, kind_iff.2 (by rw [ht2.1, hq])⟩, his, ht2.2.2.2.2, ?_⟩
          rw [if_neg hp]
          exact ht2.2.2.2.1
  · intro hp hlt
    have hfg : f ∈ gs := (memG f).2 ⟨by simp, hv, fun g hg hgv hk => by
      rcases List.mem_append.1 hg with h | h
      · refine .inr (prev_iff.2 ⟨hv, hgv, hk, .inl ?_⟩)
        have := (hl g h).2
        omega
      · exact .inl (List.mem_singleton.1 h)⟩
    have hff : f ∈ gs.filter (kindF q) := List.mem_filter.2 ⟨hfg, kind_iff.2 hq⟩
    have hsp := inEff_spec is p (gs.filter (kindF q))
    cases e : inEff is p (gs.filter (kindF q)) with
    | none =>
      rw [e] at hsp
      exact absurd ⟨hisf, by omega⟩ (hsp f hff)
    | some y =>
      rw [e] at hsp
      simp only at hsp
      obtain ⟨hy1, hy2⟩ := hkind y gs hsp.1
      have hge := hsp.2.2 f hff hisf (by omega)
      have hle : ¬ f.n 11 < y.n 11 := fun h => by
        have := hlater y (hvg y hy1) hy2 hsp.2.1.1 h hsp.2.1.2
        have h3 : laterL f p gs = true := List.any_eq_true.2 ⟨y, hy1, this⟩
        rw [hlt] at h3
        cases h3
      rw [uniq y f hsp.1 hff hsp.2.1.1 hisf (by omega)]
theorem fields4 {g : FactV} (h : g.n 0 = 4) : fieldsF g = f_contract := by unfold fieldsF; simp [h]
theorem fields9 {g : FactV} (h : g.n 0 = 9) : fieldsF g = f_rules := by unfold fieldsF; simp [h]
theorem fields10 {g : FactV} (h : g.n 0 = 10) : fieldsF g = f_method := by unfold fieldsF; simp [h]
theorem key4 {g : FactV} (h : g.n 0 = 4) : key2 g = (g.n 9, g.n 11) := by unfold key2; simp [h]
theorem key9 {g : FactV} (h : g.n 0 = 9) : key2 g = (g.n 11, 0) := by unfold key2; simp [h]
theorem key10 {g : FactV} (h : g.n 0 = 10) : key2 g = (g.n 8, g.n 11) := by unfold key2; simp [h]
theorem keyEq_of {x y : FactV} (h0 : x.n 0 = y.n 0) (h2 : key2 x = key2 y) : keyEq x y = true := by unfold keyEq; simp [h0, h2]
theorem keyEq_to {x y : FactV} (h : keyEq x y = true) : x.n 0 = y.n 0 ∧ key2 x = key2 y := by
  have := keyEq_kT.1 h
  unfold kT at this
  simp only [Prod.mk.injEq] at this
  exact ⟨this.1, Prod.ext this.2.1 this.2.2⟩
section
variable {l fs gs : List FactV} {f : FactV} (p : Int) (hl : ∀ x ∈ l, Canon x ∧ x.n 2 ≤ 4) (hf : Canon f) (hv : validB f = true) (h9 : f.n 2 = 900) (h1 : fs.Perm (bestL l)) (h2 : gs.Perm (bestL (l ++ [f]))) (s1 : fs.Pairwise (fun a b => kLt (kT a) (kT b))) (s2 : gs.Pairwise (fun a b => kLt (kT a) (kT b)))
include hl hf hv h9 h1 h2 s1 s2
theorem effect_contract (hq : f.n 0 = 4) : ((p < f.n 11 ∨ laterL f p gs = true) → contractF (fun q => fs.filter (kindF q)) (f.n 9) p = contractF (fun q => gs.filter (kindF q)) (f.n 9) p) ∧ (¬ p < f.n 11 → laterL f p gs = false → contractF (fun q => gs.filter (kindF q)) (f.n 9) p = some f) := by
  refine effect_law 3 (fun g => g.n 9 == f.n 9) p hl hf hv h9 hq (by simp) (fun x y _ _ hx hy ix iy e => ?_) (fun x hx hk => ?_) (fun g hg hgk ig hlt hle => ?_) (fun g hg => ?_) h1 h2 s1 s2
  · have hx : x.n 0 = 4 := hx
    have hy : y.n 0 = 4 := hy
    simp only [beq_iff_eq] at ix iy
    exact keyEq_of (hx.trans hy.symm) (by rw [key4 hx, key4 hy, ix, iy, e])
  · have := (keyEq_to hk).2
    rw [key4 (show x.n 0 = 4 from hx), key4 hq] at this
    exact (Prod.mk.inj this).2
  · have hgk : g.n 0 = 4 := hgk
    have z1 := valid_zero hg 8 (by omega) (by omega) (by omega) (by rw [fields4 hgk]; decide)
    have z2 := valid_zero hv 8 (by omega) (by omega) (by omega) (by rw [fields4 hq]; decide)
    unfold laterB
    simp only [Bool.and_eq_true, beq_iff_eq, decide_eq_true_eq] at ig ⊢
    exact ⟨hgk.trans hq.symm, ig, z1.trans z2.symm, hlt, hle⟩
  · unfold laterB at hg
    simp only [Bool.and_eq_true] at hg
    exact hg.2.1
theorem effect_rules (hq : f.n 0 = 9) : ((p < f.n 11 ∨ laterL f p gs = true) → rulesF (fun q => fs.filter (kindF q)) p = rulesF (fun q => gs.filter (kindF q)) p) ∧ (¬ p < f.n 11 → laterL f p gs = false → rulesF (fun q => gs.filter (kindF q)) p = some f) := by
  refine effect_law 8 (fun _ => true) p hl hf hv h9 hq rfl (fun x y _ _ hx hy ix iy e => ?_) (fun x hx hk => ?_) (fun g hg hgk ig hlt hle => ?_) (fun g hg => rfl) h1 h2 s1 s2
  · have hx : x.n 0 = 9 := hx
    have hy : y.n 0 = 9 := hy
    exact keyEq_of (hx.trans hy.symm) (by rw [key9 hx, key9 hy, e])
  · have := (keyEq_to hk).2
    rw [key9 (show x.n 0 = 9 from hx), key9 hq] at this
    exact (Prod.mk.inj this).1
  · have hgk : g.n 0 = 9 := hgk
    have z1 := valid_zero hg 8 (by omega) (by omega) (by omega) (by rw [fields9 hgk]; decide)
    have z2 := valid_zero hv 8 (by omega) (by omega) (by omega) (by rw [fields9 hq]; decide)
    have z3 := valid_zero hg 9 (by omega) (by omega) (by omega) (by rw [fields9 hgk]; decide)
    have z4 := valid_zero hv 9 (by omega) (by omega) (by omega) (by rw [fields9 hq]; decide)
    unfold laterB
    simp only [Bool.and_eq_true, beq_iff_eq, decide_eq_true_eq]
    exact ⟨hgk.trans hq.symm, z3.trans z4.symm, z1.trans z2.symm, hlt, hle⟩
theorem effect_method (hq : f.n 0 = 10) : ((p < f.n 11 ∨ laterL f p gs = true) → methodF (fun q => fs.filter (kindF q)) (f.n 8) p = methodF (fun q => gs.filter (kindF q)) (f.n 8) p) ∧ (¬ p < f.n 11 → laterL f p gs = false → methodF (fun q => gs.filter (kindF q)) (f.n 8) p = some f) := by
  refine effect_law 9 (fun g => g.n 8 == f.n 8) p hl hf hv h9 hq (by simp) (fun x y _ _ hx hy ix iy e => ?_) (fun x hx hk => ?_) (fun g hg hgk ig hlt hle => ?_) (fun g hg => ?_) h1 h2 s1 s2
  · have hx : x.n 0 = 10 := hx
    have hy : y.n 0 = 10 := hy
    simp only [beq_iff_eq] at ix iy
    exact keyEq_of (hx.trans hy.symm) (by rw [key10 hx, key10 hy, ix, iy, e])
  · have := (keyEq_to hk).2
    rw [key10 (show x.n 0 = 10 from hx), key10 hq] at this
    exact (Prod.mk.inj this).2
  · have hgk : g.n 0 = 10 := hgk
    have z3 := valid_zero hg 9 (by omega) (by omega) (by omega) (by rw [fields10 hgk]; decide)
    have z4 := valid_zero hv 9 (by omega) (by omega) (by omega) (by rw [fields10 hq]; decide)
    unfold laterB
    simp only [Bool.and_eq_true, beq_iff_eq, decide_eq_true_eq] at ig ⊢
    exact ⟨hgk.trans hq.symm, z3.trans z4.symm, ig, hlt, hle⟩
  · unfold laterB at hg
    simp only [Bool.and_eq_true] at hg
    exact hg.2.2.1
end
end Go.Proofs.Ytgjajhopjcdflaa
