/- The fields of a fact's kind, by the table. -/
import Derived.Test.YtfiabonacpepnaaGreatDoorFkF
import Derived.Test.YtfiabonacpepnaaGreatDoorFkC
namespace Go.Proofs.YtfiabonacpepnaaGreatDoor.Fb
open Go Go.RowKit Go.Lib Go.Shelf Go.Maps

/-- the fields of a fact: their places, the least and the most -/
def fieldsF (f : FactV) : List (Nat × Int × Int) :=
  if f.n 0 = 1 then f_play else if f.n 0 = 2 then f_mark else if f.n 0 = 3 then f_claim (IntKind.i64.wrap (f.n 12 - 1)) else if f.n 0 = 4 then f_contract else if f.n 0 = 5 then f_revenue
  else if f.n 0 = 6 then f_subscription else if f.n 0 = 7 then f_rate else if f.n 0 = 8 then f_advance else if f.n 0 = 9 then f_rules else if f.n 0 = 10 then f_method else []
/-- the numbers of a fact are integers of 64 bits -/
def FactOk (f : FactV) : Prop := ∀ j, -9223372036854775808 ≤ f.n j ∧ f.n j ≤ 9223372036854775807
theorem fields_kind (f : FactV) {j a c : Nat} {b : Bool} (hm : (j, a, b, c) ∈ knList) (hj : f.n 0 = (j : Int)) (rb : Nat) (w : World) (hr : w.cell? ⟨rb, 12, none⟩ = some (.int .i64 (f.n 12))) :
    Calls Tryz.prog a #[.pointer (some ⟨rb, 0, none⟩)] w fun e w' => ∃ g, e = .returned (.slice (some ⟨g, 0, none⟩) (fieldsF f).length (fieldsF f).length) ∧ w.heap.size ≤ g ∧ RowAt w' g 124 (fCells rb (fieldsF f)).toArray ∧ Below w.heap.size w w' := by
  simp only [knList, List.mem_cons, List.not_mem_nil, or_false, Prod.mk.injEq] at hm
  rcases hm with ⟨rfl, rfl, _, _⟩ | ⟨rfl, rfl, _, _⟩ | ⟨rfl, rfl, _, _⟩ | ⟨rfl, rfl, _, _⟩ | ⟨rfl, rfl, _, _⟩ | ⟨rfl, rfl, _, _⟩ | ⟨rfl, rfl, _, _⟩ | ⟨rfl, rfl, _, _⟩ | ⟨rfl, rfl, _, _⟩ | ⟨rfl, rfl, _, _⟩
  · rw [show fieldsF f = f_play by simp [fieldsF, hj]]; exact r_play rb w
  · rw [show fieldsF f = f_mark by simp [fieldsF, hj]]; exact r_mark rb w
  · rw [show fieldsF f = f_claim (IntKind.i64.wrap (f.n 12 - 1)) by simp [fieldsF, hj]]; exact r_claim rb (f.n 12) w hr
  · rw [show fieldsF f = f_contract by simp [fieldsF, hj]]; exact r_contract rb w
  · rw [show fieldsF f = f_revenue by simp [fieldsF, hj]]; exact r_revenue rb w
  · rw [show fieldsF f = f_subscription by simp [fieldsF, hj]]; exact r_subscription rb w
  · rw [show fieldsF f = f_rate by simp [fieldsF, hj]]; exact r_rate rb w
  · rw [show fieldsF f = f_advance by simp [fieldsF, hj]]; exact r_advance rb w
  · rw [show fieldsF f = f_rules by simp [fieldsF, hj]]; exact r_rules rb w
  · rw [show fieldsF f = f_method by simp [fieldsF, hj]]; exact r_method rb w
/-- a fact with some numbers zeroed -/
def zeroF (f : FactV) (l : List Nat) (txt : Bool) : FactV := ⟨fun j => if j ∈ l then 0 else f.n j, if txt then ⟨#[]⟩ else f.text⟩
/-- a fact of its kind and version alone -/
def bareK (k v : Int) : FactV := ⟨fun j => if j = 0 then k else if j = 2 then v else 0, ⟨#[]⟩⟩
def hasText (f : FactV) : Bool := decide (f.n 0 = 4) || decide (f.n 0 = 9)
/-- what Valid asks -/
def validB (f : FactV) : Bool :=
  decide (1 ≤ f.n 0 ∧ f.n 0 ≤ 10) && (decide (1 ≤ f.n 2 ∧ f.n 2 ≤ 1000 ∧ f.text.size ≤ 2000) && ((fieldsF f).all (fun x => decide (x.2.1 ≤ f.n x.1) && decide (f.n x.1 ≤ x.2.2)) && sameF (zeroF f ((fieldsF f).map (·.1)) (hasText f)) (bareK (f.n 0) (f.n 2))))
end Go.Proofs.YtfiabonacpepnaaGreatDoor.Fb
