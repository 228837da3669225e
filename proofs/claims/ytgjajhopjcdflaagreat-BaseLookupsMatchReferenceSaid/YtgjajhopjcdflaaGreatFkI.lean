import Derived.Test.YtgjajhopjcdflaaGreatFkD
import Derived.ChangeKeysEq
import Derived.Test.YtgjajhopjcdflaaGreatFkC
namespace Go.Proofs.YtgjajhopjcdflaaGreat
open Go Go.RowKit Go.Lib Go.Shelf Go.Maps

theorem eqFields_all {P : Program} (w : World) (d : Nat) (xs ys : Array Value) (t : Field → Bool) : ∀ fs : List Field, (∀ f ∈ fs, f.name ≠ "_" ∧ ∃ a b, (part f.type xs f.offset).run P w = .ok a w ∧ (part f.type ys f.offset).run P w = .ok b w ∧ (Op.equalIn d f.type a b).run P w = .ok (t f) w) → (Op.eqFields d xs ys fs).run P w = .ok (fs.all t) w
  | [], _ => by simp [Op.eqFields]
  | f :: fs, h => by
    obtain ⟨hn, a, b, h1, h2, h3⟩ := h f (by simp)
    have ih := eqFields_all w d xs ys t fs fun g hg => h g (by simp [hg])
    simp only [Op.eqFields, hn, ne_eq, not_false_eq_true, if_true, Sem.run_bind, h1, h2, h3, Result.andThen_ok, List.all_cons]
    cases t f <;> simp [ih]
theorem fact_fields : (Tryz.prog.fieldsOf 34).toList.all (fun f => f.name != "_" && (match Tryz.prog.underlying f.type with
  | some (.int .i64) => decide (f.offset < 17)
  | some .string => f.offset == 17
  | _ => false)) = true := by kernel_rfl
theorem fact_under : Tryz.prog.underlying 34 = some (.struct (Tryz.prog.fieldsOf 34)) := by kernel_rfl
theorem fact_stood : Tryz.prog.stoodInHeld 34 = false := by kernel_rfl
theorem fact_size : (Tryz.prog.info? 34).map (·.size) = some 18 := by kernel_rfl
theorem fact_offs : (Tryz.prog.fieldsOf 34).toList.map (·.offset) = List.range 18 := by kernel_rfl
theorem cells_get (f : FactV) (j : Nat) (h : j < 17) : f.cells[j]? = some (.int .i64 (f.n j)) := by
  rcases (by omega : j = 0 ∨ j = 1 ∨ j = 2 ∨ j = 3 ∨ j = 4 ∨ j = 5 ∨ j = 6 ∨ j = 7 ∨ j = 8 ∨ j = 9 ∨ j = 10 ∨ j = 11 ∨ j = 12 ∨ j = 13 ∨ j = 14 ∨ j = 15 ∨ j = 16) with rfl | rfl | rfl | rfl | rfl | rfl | rfl | rfl | rfl | rfl | rfl | rfl | rfl | rfl | rfl | rfl | rfl <;> rfl
/-- two facts are the same, field by field -/
def sameJ (f g : FactV) (j : Nat) : Bool := if j < 17 then f.n j == g.n j else decide (f.text = g.text)
def sameF (f g : FactV) : Bool := (List.range 18).all (sameJ f g)
theorem sameF_iff {f g : FactV} : sameF f g = true ↔ (∀ j, j < 17 → f.n j = g.n j) ∧ f.text = g.text := by
  unfold sameF
  rw [List.all_eq_true]
  constructor
  · intro h
    refine ⟨fun j hj => ?_, ?_⟩
    · have := h j (List.mem_range.2 (by omega))
      unfold sameJ at this
      rw [if_pos hj] at this
      exact eq_of_beq this
    · have := h 17 (List.mem_range.2 (by omega))
      unfold sameJ at this
      rw [if_neg (by omega)] at this
      exact of_decide_eq_true this
  · rintro ⟨h1, h2⟩ j hj
    unfold sameJ
    by_cases h : j < 17
    · rw [if_pos h, h1 j h]; exact beq_self_eq_true _
    · rw [if_neg h]; exact decide_eq_true h2
theorem text_eq (a b : ByteArray) : (a.toList == b.toList) = decide (a = b) := by
  by_cases h : a = b
  · subst h; rw [decide_eq_true rfl]; exact beq_self_eq_true _
  · rw [decide_eq_false h]
    refine beq_eq_false_iff_ne.2 (fun e => h ?_)
    rw [ByteArray.toList_eq, ByteArray.toList_eq] at e
    exact ByteArray.ext (Array.toList_inj.1 e)
theorem eq_facts (f g : FactV) (w : World) : (Op.equalIn 10000 34 (.agg f.cells) (.agg g.cells)).run Tryz.prog w = .ok (sameF f g) w := by
  rw [run_equalIn_struct w 9999 34 f.cells g.cells fact_under fact_stood, eqFields_all w 9999 f.cells g.cells (fun x => sameJ f g x.offset)]
  · unfold sameF
    rw [← fact_offs, List.all_map]
    rfl
  · intro x hx
    have h := List.all_eq_true.1 fact_fields x hx
    rw [Bool.and_eq_true] at h
    obtain ⟨h1, h2⟩ := h
    refine ⟨by simpa using h1, ?_⟩
    split at h2
    · rename_i hu
      have hj : x.offset < 17 := by simpa using h2
      refine ⟨_, _, run_part_plain w (by unfold Program.plainKey; rw [hu]) (cells_get f x.offset hj), run_part_plain w (by unfold Program.plainKey; rw [hu]) (cells_get g x.offset hj), ?_⟩
      rw [run_equalIn_int w 9998 _ _ _ _ _ hu]
      unfold sameJ
      rw [if_pos hj]
    · rename_i hu
      have hj : x.offset = 17 := by simpa using h2
      refine ⟨_, _, run_part_plain w (by unfold Program.plainKey; rw [hu]) (by rw [hj]; rfl : f.cells[x.offset]? = some (.string f.text)), run_part_plain w (by unfold Program.plainKey; rw [hu]) (by rw [hj]; rfl : g.cells[x.offset]? = some (.string g.text)), ?_⟩
      rw [run_equalIn_string w 9998 _ _ _ hu]
      unfold sameJ
      rw [if_neg (by omega)]
      rw [text_eq]
    · cases h2
end Go.Proofs.YtgjajhopjcdflaaGreat
namespace Go.Proofs.YtgjajhopjcdflaaGreat
open Go Go.RowKit Go.Lib Go.Shelf Go.Maps

set_option maxRecDepth 100000 in
set_option maxHeartbeats 2000000 in
theorem fsame_any (f g : FactV) (w : World) :
    Calls Tryz.prog 40 #[.agg f.cells, .agg g.cells] w fun e w' => e = .returned (.bool (sameF f g)) ∧ Below w.heap.size w w' := by
  have heq := eq_facts f g
  have hcf : (Tryz.prog.info? 34).map (·.size) = some f.cells.size := fact_size
  have hcg : (Tryz.prog.info? 34).map (·.size) = some g.cells.size := fact_size
  obtain ⟨S, hS⟩ : ∃ z, sameF f g = z := ⟨_, rfl⟩
  obtain ⟨cf, hf⟩ : ∃ z, f.cells = z := ⟨_, rfl⟩
  obtain ⟨cg, hg⟩ : ∃ z, g.cells = z := ⟨_, rfl⟩
  rw [hf] at heq hcf ⊢
  rw [hg] at heq hcg ⊢
  simp only [hS] at heq ⊢
  have r1 : RowAt ((w.alloc (.cells cf 34)).alloc (.cells cg 34)) w.heap.size 34 cf := (RowAt.new w _ _).alloc _
  have r2 : RowAt ((w.alloc (.cells cf 34)).alloc (.cells cg 34)) (w.heap.size + 1) 34 cg := by
    have h := RowAt.new (w.alloc (.cells cf 34)) 34 cg
    simpa using h
  have HB := Lib.hid (show Below w.heap.size w ((w.alloc (.cells cf 34)).alloc (.cells cg 34)) from ((Below.refl _ _).alloc (Nat.le_refl _) _).alloc (by simp) _)
  have HF : Hid (∀ j v, cf[j]? = some v → (((w.alloc (.cells cf 34)).alloc (.cells cg 34))).cell? ⟨w.heap.size, 0 + j, none⟩ = some v) := Lib.hid (fun j v hv => by rw [Nat.zero_add, r1.cell j]; exact hv)
  have HG : Hid (∀ j v, cg[j]? = some v → (((w.alloc (.cells cf 34)).alloc (.cells cg 34))).cell? ⟨w.heap.size + 1, 0 + j, none⟩ = some v) := Lib.hid (fun j v hv => by rw [Nat.zero_add, r2.cell j]; exact hv)
  have HCF := Lib.hid hcf
  have HCG := Lib.hid hcg
  clear r1 r2 hf hg hS hcf hcg
  go_enter Tryz.func40, Tryz.ntmps40
  go_wp2_with (first | ((with_reducible refine load_cs (o := ⟨some 5, _, _, _, _, _⟩) (.tmp 2) w.heap.size cf HF.out HCF.out ?_ ?_ ?_ ?_); rfl; rfl; rfl) | ((with_reducible refine load_cs (o := ⟨some 6, _, _, _, _, _⟩) (.tmp 3) (w.heap.size + 1) cg HG.out HCG.out ?_ ?_ ?_ ?_); rfl; rfl; rfl))
  go_ret
  exact ⟨rfl, HB.out⟩
set_option maxRecDepth 100000 in
set_option maxHeartbeats 2000000 in
theorem rsame_any (f g : FactV) (w : World) :
    Calls Tryz.prog 16 #[.agg f.cells, .agg g.cells] w fun e w' => e = .returned (.bool (sameF f g)) ∧ Below w.heap.size w w' := by
  have heq := eq_facts f g
  have hcf : (Tryz.prog.info? 34).map (·.size) = some f.cells.size := fact_size
  have hcg : (Tryz.prog.info? 34).map (·.size) = some g.cells.size := fact_size
  obtain ⟨S, hS⟩ : ∃ z, sameF f g = z := ⟨_, rfl⟩
  obtain ⟨cf, hf⟩ : ∃ z, f.cells = z := ⟨_, rfl⟩
  obtain ⟨cg, hg⟩ : ∃ z, g.cells = z := ⟨_, rfl⟩
  rw [hf] at heq hcf ⊢
  rw [hg] at heq hcg ⊢
  simp only [hS] at heq ⊢
  have r1 : RowAt ((w.alloc (.cells cf 34)).alloc (.cells cg 34)) w.heap.size 34 cf := (RowAt.new w _ _).alloc _
  have r2 : RowAt ((w.alloc (.cells cf 34)).alloc (.cells cg 34)) (w.heap.size + 1) 34 cg := by
    have h := RowAt.new (w.alloc (.cells cf 34)) 34 cg
    simpa using h
  have HB := Lib.hid (show Below w.heap.size w ((w.alloc (.cells cf 34)).alloc (.cells cg 34)) from ((Below.refl _ _).alloc (Nat.le_refl _) _).alloc (by simp) _)
  have HF : Hid (∀ j v, cf[j]? = some v → (((w.alloc (.cells cf 34)).alloc (.cells cg 34))).cell? ⟨w.heap.size, 0 + j, none⟩ = some v) := Lib.hid (fun j v hv => by rw [Nat.zero_add, r1.cell j]; exact hv)
  have HG : Hid (∀ j v, cg[j]? = some v → (((w.alloc (.cells cf 34)).alloc (.cells cg 34))).cell? ⟨w.heap.size + 1, 0 + j, none⟩ = some v) := Lib.hid (fun j v hv => by rw [Nat.zero_add, r2.cell j]; exact hv)
  have HCF := Lib.hid hcf
  have HCG := Lib.hid hcg
  clear r1 r2 hf hg hS hcf hcg
  go_enter Tryz.func16, Tryz.ntmps16
  go_wp2_with (first | ((with_reducible refine load_cs (o := ⟨some 5, _, _, _, _, _⟩) (.tmp 2) w.heap.size cf HF.out HCF.out ?_ ?_ ?_ ?_); rfl; rfl; rfl) | ((with_reducible refine load_cs (o := ⟨some 6, _, _, _, _, _⟩) (.tmp 3) (w.heap.size + 1) cg HG.out HCG.out ?_ ?_ ?_ ?_); rfl; rfl; rfl))
  go_ret
  exact ⟨rfl, HB.out⟩
end Go.Proofs.YtgjajhopjcdflaaGreat
namespace Go.Proofs.YtgjajhopjcdflaaGreat
open Go Go.RowKit Go.Lib Go.Shelf Go.Maps

/-- the fields of a fact: their places, the least and the most -/
def fieldsF (f : FactV) : List (Nat × Int × Int) :=
  if f.n 0 = 1 then f_play else if f.n 0 = 2 then f_mark else if f.n 0 = 3 then f_claim (IntKind.i64.wrap (f.n 12 - 1)) else if f.n 0 = 4 then f_contract else if f.n 0 = 5 then f_revenue
  else if f.n 0 = 6 then f_subscription else if f.n 0 = 7 then f_rate else if f.n 0 = 8 then f_advance else if f.n 0 = 9 then f_rules else if f.n 0 = 10 then f_method else []
/-- the numbers of a fact are integers of 64 bits -/
def FactOk (f : FactV) : Prop := ∀ j, -9223372036854775808 ≤ f.n j ∧ f.n j ≤ 9223372036854775807
theorem fields_kind (f : FactV) {j a c : Nat} {b : Bool} (hm : (j, a, b, c) ∈ knList) (hj : f.n 0 = (j : Int)) (rb : Nat) (w : World) (hr : w.cell? ⟨rb, 12, none⟩ = some (.int .i64 (f.n 12))) :
    Calls Tryz.prog a #[.pointer (some ⟨rb, 0, none⟩)] w fun e w' => ∃ g, e = .returned (.slice (some ⟨g, 0, none⟩) (fieldsF f).length (fieldsF f).length) ∧ w.heap.size ≤ g ∧ RowAt w' g 83 (fCells rb (fieldsF f)).toArray ∧ Below w.heap.size w w' := by
  simp only [knList, List.mem_cons, List.not_mem_nil, or_false, Prod.mk.injEq] at hm
  rcases hm with ⟨rfl, rfl, _, _⟩ | ⟨rfl, rfl, _, _⟩ | ⟨rfl, rfl, _, _⟩ | ⟨rfl, rfl, _, _⟩ | ⟨rfl, rfl, _, _⟩ | ⟨rfl, rfl, _, _⟩ | ⟨rfl, rfl, _, _⟩ | ⟨rfl, rfl, _, _⟩ | ⟨rfl, rfl, _, _⟩ | ⟨rfl, rfl, _, _⟩
  · rw [show fieldsF f = f_play by simp [fieldsF, hj]]; exact r_play rb w
  · rw [show fieldsF f = f_mark by simp [fieldsF, hj]]; exact r_mark rb w
  · rw [show fieldsF f = f_claim (IntKind.i64.wrap (f.n 12 - 1)) by simp [fieldsF, hj]]; exact r_claim rb (f.n 12) w hr
  · rw [show fieldsF f = f_contract by simp [fieldsF, hj]]; exact r_contract rb w
  · rw [show fieldsF f = f_revenue by simp [fieldsF, hj]]; exact r_revenue rb w
  · rw [show fieldsF f = f_subscription by simp [fieldsF, hj]]; exact r_subscription rb w
  · rw [show fieldsF f = f_rate by simp [fieldsF, hj]]; exact r_rate rb w
  · rw [show fieldsF f = f_advance by simp [fieldsF, hj]]; exact r_advance rb w
  · rw [show fieldsF f = f_rules by simp [fieldsF, hj]]; exact r_rules rb w
  · rw [show fieldsF f = f_method by simp [fieldsF, hj]]; exact r_method rb w
/-- a fact with some numbers zeroed -/
def zeroF (f : FactV) (l : List Nat) (txt : Bool) : FactV := ⟨fun j => if j ∈ l then 0 else f.n j, if txt then ⟨#[]⟩ else f.text⟩
/-- a fact of its kind and version alone -/
def bareK (k v : Int) : FactV := ⟨fun j => if j = 0 then k else if j = 2 then v else 0, ⟨#[]⟩⟩
def hasText (f : FactV) : Bool := decide (f.n 0 = 4) || decide (f.n 0 = 9)
/-- what Valid asks -/
def validB (f : FactV) : Bool :=
  decide (1 ≤ f.n 0 ∧ f.n 0 ≤ 10) && (decide (1 ≤ f.n 2 ∧ f.n 2 ≤ 1000 ∧ f.text.size ≤ 2000) && ((fieldsF f).all (fun x => decide (x.2.1 ≤ f.n x.1) && decide (f.n x.1 ≤ x.2.2)) && sameF (zeroF f ((fieldsF f).map (·.1)) (hasText f)) (bareK (f.n 0) (f.n 2))))
end Go.Proofs.YtgjajhopjcdflaaGreat
namespace Go.Proofs.YtgjajhopjcdflaaGreat
open Go Go.RowKit Go.Lib Go.Shelf Go.Maps

theorem fCells_get (rb : Nat) : ∀ (l : List (Nat × Int × Int)) (i : Nat) (x : Nat × Int × Int), l[i]? = some x → (fCells rb l)[i * 3]? = some (.pointer (some ⟨rb, x.1, none⟩)) ∧ (fCells rb l)[i * 3 + 1]? = some (.int .i64 x.2.1) ∧ (fCells rb l)[i * 3 + 2]? = some (.int .i64 x.2.2)
  | [], i, x, h => by simp at h
  | y :: l, 0, x, h => by
    simp at h
    subst h
    exact ⟨rfl, rfl, rfl⟩
  | y :: l, i + 1, x, h => by
    have ih := fCells_get rb l i x (by simpa using h)
    have e : fCells rb (y :: l) = .pointer (some ⟨rb, y.1, none⟩) :: .int .i64 y.2.1 :: .int .i64 y.2.2 :: fCells rb l := rfl
    rw [e, show (i + 1) * 3 = i * 3 + 1 + 1 + 1 by omega, show i * 3 + 1 + 1 + 1 + 1 = (i * 3 + 1) + 1 + 1 + 1 by omega, show i * 3 + 1 + 1 + 1 + 2 = (i * 3 + 2) + 1 + 1 + 1 by omega]
    simpa using ih
theorem zeroF_nil (f : FactV) : (zeroF f [] false).cells = f.cells := by
  simp [zeroF, FactV.cells]
theorem zeroF_get (f : FactV) (l : List Nat) (t : Bool) (i : Nat) (hi : i ∉ l) : (zeroF f l t).n i = f.n i := by
  show (if i ∈ l then 0 else f.n i) = _
  rw [if_neg hi]
theorem zeroF_set (f : FactV) (l : List Nat) (i : Nat) (hi : i < 17) : (zeroF f l false).cells.setIfInBounds i (.int .i64 0) = (zeroF f (l ++ [i]) false).cells := by
  apply Array.ext_getElem?
  intro j
  rw [Array.getElem?_setIfInBounds]
  have hs : (zeroF f l false).cells.size = 18 := rfl
  by_cases hij : i = j
  · subst hij
    rw [if_pos rfl, if_pos (by omega), cells_get _ i hi]
    simp [zeroF]
  · rw [if_neg hij]
    by_cases hj : j < 17
    · rw [cells_get _ j hj, cells_get _ j hj]
      simp only [zeroF, List.mem_append, List.mem_singleton]
      have : j ≠ i := fun e => hij e.symm
      simp [this]
    · by_cases h17 : j = 17
      · subst h17; rfl
      · rw [Array.getElem?_eq_none (by show 18 ≤ j; omega), Array.getElem?_eq_none (by show 18 ≤ j; omega)]
theorem zeroF_text (f : FactV) (l : List Nat) : (zeroF f l false).cells.setIfInBounds 17 (.string ⟨#[]⟩) = (zeroF f l true).cells := by
  simp [zeroF, FactV.cells]
/-- the places of a kind's fields are apart, and below 17 -/
theorem fields_apart (f : FactV) : ((fieldsF f).map (·.1)).Nodup ∧ ∀ x ∈ fieldsF f, x.1 < 17 := by
  unfold fieldsF
  repeat' split
  all_goals first | exact ⟨by decide, by decide⟩ | (simp [f_claim]) | (simp)
end Go.Proofs.YtgjajhopjcdflaaGreat
