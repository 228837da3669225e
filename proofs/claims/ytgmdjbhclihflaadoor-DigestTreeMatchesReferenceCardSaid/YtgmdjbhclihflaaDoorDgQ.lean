/- The table of package digest, as every statement's row lists it. -/
import Derived.Test.YtgmdjbhclihflaaDoorCards
import Derived.Test.YtgmdjbhclihflaaDoorTie
import Derived.Test.YtgmdjbhclihflaaDoorLaw
import Derived.Test.YtgmdjbhclihflaaDoorDgLe
namespace Go.Proofs.YtgmdjbhclihflaaDoor.lawDig
open Go Go.ChangeShapes Go.WideShapes Go.ChangeAt Go.RowKit

theorem own : ownKnob Tryd.prog.godebug = none := by kernel_rfl
theorem gTab : Tryd.prog.globalNamed "royalty/digest.round" = some 0 := by kernel_rfl
theorem gTabType : (Tryd.prog.globals[0]?).map (·.type) = some 83 := by kernel_rfl
theorem cellsT : Tryd.prog.cellsOf 83 = 64 := by kernel_rfl
theorem cellsE : Tryd.prog.cellsOf 64 = 1 := by kernel_rfl
theorem laidOut : laidOutB Tryd.prog = true := by kernel_rfl
def tab : List Int := Sha.K.map Int.ofNat

theorem table {W : World} (h : laidMetH Tryd.prog [("royalty/digest.round", Rows.laid_royalty_digest_round)] W) : Lib.TabIs Tryd.prog W "royalty/digest.round" .u32 tab :=
  Lib.tabIs_of_head (rest := []) gTab gTabType Tryd.underlying83 Tryd.underlying64 cellsE cellsT h
theorem k_at {W : World} (h : laidMetH Tryd.prog [("royalty/digest.round", Rows.laid_royalty_digest_round)] W) : KAt W := fun j hj => by
  have := (table h).cell gTab j (by simpa [tab, Sha.K] using hj)
  rw [this]
  have e : tab.getD j 0 = ((Sha.K.getD j 0 : Nat) : Int) := (by decide : ∀ j : Fin 64, tab.getD j.val 0 = ((Sha.K.getD j.val 0 : Nat) : Int)) ⟨j, hj⟩
  rw [e]
/-- A WORLD FOR THE WITNESS: the settled one, the table as its initialiser lays it. -/
noncomputable def laidWorld (os : Os) : World :=
  { World.holding Tryd.prog os ⟨#[], #[], []⟩ with heap := (World.holding Tryd.prog os ⟨#[], #[], []⟩).heap.modify 0 fun
      | .cells _ t frozen => .cells (tab.map (Value.int .u32)).toArray t frozen
      | o => o }
theorem laid_met (os : Os) (args : Array Value) : laidMet Tryd.prog [("royalty/digest.round", Rows.laid_royalty_digest_round)] ((laidWorld os).forCall (fun _ _ => 0) ⟨#[], args, []⟩).memory :=
  laidMet_of_run' 8 (by kernel_rfl) (by kernel_rfl)
theorem int_bd {n : Int} (h : (Lit.int .i64 n).wf = true) : -9223372036854775808 ≤ n ∧ n ≤ 9223372036854775807 := bounds_i64 h
end Go.Proofs.YtgmdjbhclihflaaDoor.lawDig
