/- The table of package wire, as every statement's row lists it. -/
import Derived.Test.YtmakkfgdpdbcnaaDoorCards
import Derived.Test.YtmakkfgdpdbcnaaDoorTie
import Derived.Test.YtmakkfgdpdbcnaaDoorLaw
import Derived.Test.YtmakkfgdpdbcnaaDoorWireD
namespace Go.Proofs.YtmakkfgdpdbcnaaDoor.lawWire
open Go Go.ChangeShapes Go.WideShapes Go.ChangeAt Go.RowKit

theorem own : ownKnob Tryd.prog.godebug = none := by kernel_rfl
theorem gTab : Tryd.prog.globalNamed "royalty/wire.nibbles" = some 0 := by kernel_rfl
theorem gTabType : (Tryd.prog.globals[0]?).map (·.type) = some 52 := by kernel_rfl
theorem cellsT : Tryd.prog.cellsOf 52 = 16 := by kernel_rfl
theorem cellsE : Tryd.prog.cellsOf 43 = 1 := by kernel_rfl
theorem laidOut : laidOutB Tryd.prog = true := by kernel_rfl
def tab : List Int := WireP.nibs.map Int.ofNat

theorem table {W : World} (h : laidMetH Tryd.prog [("royalty/wire.nibbles", Rows.laid_royalty_wire_nibbles)] W) : Lib.TabIs Tryd.prog W "royalty/wire.nibbles" .u32 tab :=
  Lib.tabIs_of_head (rest := []) gTab gTabType Tryd.underlying52 Tryd.underlying43 cellsE cellsT h
theorem nib_at {W : World} (h : laidMetH Tryd.prog [("royalty/wire.nibbles", Rows.laid_royalty_wire_nibbles)] W) : NibAt W := fun j hj => by
  have := (table h).cell gTab j (by simpa [tab, WireP.nibs] using hj)
  rw [this]
  have e : tab.getD j 0 = ((WireP.nibs.getD j 0 : Nat) : Int) := (by decide : ∀ j : Fin 16, tab.getD j.val 0 = ((WireP.nibs.getD j.val 0 : Nat) : Int)) ⟨j, hj⟩
  rw [e]
theorem nib_lt {W : World} (h : NibAt W) : 0 < W.heap.size := by
  have := h 0 (by omega)
  unfold World.cell? at this
  rcases Nat.lt_or_ge 0 W.heap.size with hl | hl
  · exact hl
  · simp [Array.getElem?_eq_none hl] at this

/-- A WORLD FOR THE WITNESS: the settled one, the table as its initialiser lays it. -/
noncomputable def laidWorld (os : Os) : World :=
  { World.holding Tryd.prog os ⟨#[], #[], []⟩ with heap := (World.holding Tryd.prog os ⟨#[], #[], []⟩).heap.modify 0 fun
      | .cells _ t frozen => .cells (tab.map (Value.int .u32)).toArray t frozen
      | o => o }
theorem laid_met (os : Os) (args : Array Value) : laidMet Tryd.prog [("royalty/wire.nibbles", Rows.laid_royalty_wire_nibbles)] ((laidWorld os).forCall (fun _ _ => 0) ⟨#[], args, []⟩).memory :=
  laidMet_of_run' 8 (by kernel_rfl) (by kernel_rfl)
theorem int_bd {n : Int} (h : (Lit.int .i64 n).wf = true) : -9223372036854775808 ≤ n ∧ n ≤ 9223372036854775807 := bounds_i64 h
end Go.Proofs.YtmakkfgdpdbcnaaDoor.lawWire
