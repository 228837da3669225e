/- The table of package period, as every statement's row lists it. -/
import Derived.Test.YtkcdfnngdmnkhaaDoorCards
import Derived.Test.YtkcdfnngdmnkhaaDoorTie
import Derived.Test.YtkcdfnngdmnkhaaDoorLaw
import Derived.Test.YtkcdfnngdmnkhaaDoorPerA
namespace Go.Proofs.YtkcdfnngdmnkhaaDoor.lawPeriod
open Go Go.ChangeShapes Go.WideShapes Go.ChangeAt Go.RowKit

theorem own : ownKnob Tryd.prog.godebug = none := by kernel_rfl
theorem gTab : Tryd.prog.globalNamed "royalty/period.lengths" = some 0 := by kernel_rfl
theorem gTabType : (Tryd.prog.globals[0]?).map (·.type) = some 38 := by kernel_rfl
theorem cellsT : Tryd.prog.cellsOf 38 = 12 := by kernel_rfl
theorem cellsE : Tryd.prog.cellsOf 3 = 1 := by kernel_rfl
theorem laidOut : laidOutB Tryd.prog = true := by kernel_rfl
def tab : List Int := PerP.tab.map Int.ofNat

theorem table {W : World} (h : laidMetH Tryd.prog [("royalty/period.lengths", Rows.laid_royalty_period_lengths)] W) : Lib.TabIs Tryd.prog W "royalty/period.lengths" .i64 tab :=
  Lib.tabIs_of_head (rest := []) gTab gTabType Tryd.underlying38 Tryd.underlying3 cellsE cellsT h
theorem len_at {W : World} (h : laidMetH Tryd.prog [("royalty/period.lengths", Rows.laid_royalty_period_lengths)] W) : LenAt W := fun j hj => by
  have := (table h).cell gTab j (by simpa [tab, PerP.tab] using hj)
  rw [this]
  have e : tab.getD j 0 = ((PerP.tab.getD j 0 : Nat) : Int) := (by decide : ∀ j : Fin 12, tab.getD j.val 0 = ((PerP.tab.getD j.val 0 : Nat) : Int)) ⟨j, hj⟩
  rw [e]

/-- A WORLD FOR THE WITNESS: the settled one, the table as its initialiser lays it. -/
noncomputable def laidWorld (os : Os) : World :=
  { World.holding Tryd.prog os ⟨#[], #[], []⟩ with heap := (World.holding Tryd.prog os ⟨#[], #[], []⟩).heap.modify 0 fun
      | .cells _ t frozen => .cells (tab.map (Value.int .i64)).toArray t frozen
      | o => o }
theorem laid_met (os : Os) (args : Array Value) : laidMet Tryd.prog [("royalty/period.lengths", Rows.laid_royalty_period_lengths)] ((laidWorld os).forCall (fun _ _ => 0) ⟨#[], args, []⟩).memory :=
  laidMet_of_run' 8 (by kernel_rfl) (by kernel_rfl)
theorem str_list (s : ByteArray) : ∃ l : List UInt8, s = ⟨l.toArray⟩ := ⟨s.data.toList, by cases s; simp⟩
end Go.Proofs.YtkcdfnngdmnkhaaDoor.lawPeriod
