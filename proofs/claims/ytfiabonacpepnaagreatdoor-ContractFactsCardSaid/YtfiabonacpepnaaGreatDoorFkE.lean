/- Two facts compared. -/
import Derived.Test.YtfiabonacpepnaaGreatDoorFkD
import Derived.ChangeKeysEq
namespace Go.Proofs.YtfiabonacpepnaaGreatDoor.Fb
open Go Go.RowKit Go.Lib Go.Shelf Go.Maps

theorem eqFields_all {P : Program} (w : World) (d : Nat) (xs ys : Array Value) (t : Field → Bool) : ∀ fs : List Field, (∀ f ∈ fs, f.name ≠ "_" ∧ ∃ a b, (part f.type xs f.offset).run P w = .ok a w ∧ (part f.type ys f.offset).run P w = .ok b w ∧ (Op.equalIn d f.type a b).run P w = .ok (t f) w) → (Op.eqFields d xs ys fs).run P w = .ok (fs.all t) w
  | [], _ => by simp [Op.eqFields]
  | f :: fs, h => by
    obtain ⟨hn, a, b, h1, h2, h3⟩ := h f (by simp)
    have ih := eqFields_all w d xs ys t fs fun g hg => h g (by simp [hg])
    simp only [Op.eqFields, hn, ne_eq, not_false_eq_true, if_true, Sem.run_bind, h1, h2, h3, Result.andThen_ok, List.all_cons]
    cases t f <;> simp [ih]
theorem fact_fields : (Tryz.prog.fieldsOf 47).toList.all (fun f => f.name != "_" && (match Tryz.prog.underlying f.type with
  | some (.int .i64) => decide (f.offset < 17)
  | some .string => f.offset == 17
  | _ => false)) = true := by kernel_rfl
theorem fact_under : Tryz.prog.underlying 47 = some (.struct (Tryz.prog.fieldsOf 47)) := by kernel_rfl
theorem fact_stood : Tryz.prog.stoodInHeld 47 = false := by kernel_rfl
theorem fact_size : (Tryz.prog.info? 47).map (·.size) = some 18 := by kernel_rfl
theorem fact_offs : (Tryz.prog.fieldsOf 47).toList.map (·.offset) = List.range 18 := by kernel_rfl
theorem cells_get (f : FactV) (j : Nat) (h : j < 17) : f.cells[j]? = some (.int .i64 (f.n j)) := by
  rcases (by omega : j = 0 ∨ j = 1 ∨ j = 2 ∨ j = 3 ∨ j = 4 ∨ j = 5 ∨ j = 6 ∨ j = 7 ∨ j = 8 ∨ j = 9 ∨ j = 10 ∨ j = 11 ∨ j = 12 ∨ j = 13 ∨ j = 14 ∨ j = 15 ∨ j = 16) with rfl | rfl | rfl | rfl | rfl | rfl | rfl | rfl | rfl | rfl | rfl | rfl | rfl | rfl | rfl | rfl | rfl <;> rfl
/-- two facts are the same, field by field -/
def sameJ (f g : FactV) (j : Nat) : Bool := if j < 17 then f.n j == g.n j else decide (f.text = g.text)
def sameF (f g : FactV) : Bool := (List.range 18).all (sameJ f g)
theorem sameF_iff {f g : FactV} : sameF f g = true ↔ (∀ j, j < 17 → f.n j = g.n j) ∧ f.text = g.text := by
  unfold sameF
  rw [List.all_eq_true]
  constructor
  · intro h
    refine ⟨fun j hj => ?_, ?_⟩
    · have := h j (List.mem_range.2 (by omega))
      unfold sameJ at this
      rw [if_pos hj] at this
      exact eq_of_beq this
    · have := h 17 (List.mem_range.2 (by omega))
      unfold sameJ at this
      rw [if_neg (by omega)] at this
      exact of_decide_eq_true this
  · rintro ⟨h1, h2⟩ j hj
    unfold sameJ
    by_cases h : j < 17
    · rw [if_pos h, h1 j h]; exact beq_self_eq_true _
    · rw [if_neg h]; exact decide_eq_true h2
theorem text_eq (a b : ByteArray) : (a.toList == b.toList) = decide (a = b) := by
  by_cases h : a = b
  · subst h; rw [decide_eq_true rfl]; exact beq_self_eq_true _
  · rw [decide_eq_false h]
    refine beq_eq_false_iff_ne.2 (fun e => h ?_)
    rw [ByteArray.toList_eq, ByteArray.toList_eq] at e
    exact ByteArray.ext (Array.toList_inj.1 e)
theorem eq_facts (f g : FactV) (w : World) : (Op.equalIn 10000 47 (.agg f.cells) (.agg g.cells)).run Tryz.prog w = .ok (sameF f g) w := by
  rw [run_equalIn_struct w 9999 47 f.cells g.cells fact_under fact_stood, eqFields_all w 9999 f.cells g.cells (fun x => sameJ f g x.offset)]
  · unfold sameF
    rw [← fact_offs, List.all_map]
    rfl
  · intro x hx
    have h := List.all_eq_true.1 fact_fields x hx
    rw [Bool.and_eq_true] at h
    obtain ⟨h1, h2⟩ := h
    refine ⟨by simpa using h1, ?_⟩
    split at h2
    · rename_i hu
      have hj : x.offset < 17 := by simpa using h2
      refine ⟨_, _, run_part_plain w (by unfold Program.plainKey; rw [hu]) (cells_get f x.offset hj), run_part_plain w (by unfold Program.plainKey; rw [hu]) (cells_get g x.offset hj), ?_⟩
      rw [run_equalIn_int w 9998 _ _ _ _ _ hu]
      unfold sameJ
      rw [if_pos hj]
    · rename_i hu
      have hj : x.offset = 17 := by simpa using h2
      refine ⟨_, _, run_part_plain w (by unfold Program.plainKey; rw [hu]) (by rw [hj]; rfl : f.cells[x.offset]? = some (.string f.text)), run_part_plain w (by unfold Program.plainKey; rw [hu]) (by rw [hj]; rfl : g.cells[x.offset]? = some (.string g.text)), ?_⟩
      rw [run_equalIn_string w 9998 _ _ _ hu]
      unfold sameJ
      rw [if_neg (by omega)]
      rw [text_eq]
    · cases h2
end Go.Proofs.YtfiabonacpepnaaGreatDoor.Fb
