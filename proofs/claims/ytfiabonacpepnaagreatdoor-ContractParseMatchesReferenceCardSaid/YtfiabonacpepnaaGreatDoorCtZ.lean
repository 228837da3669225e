/- What every statement's row lists of the package-level variables, and a world that holds it. -/
import Derived.Test.YtfiabonacpepnaaGreatDoorCards
import Derived.Test.YtfiabonacpepnaaGreatDoorTie
import Derived.Test.YtfiabonacpepnaaGreatDoorLaw
import Derived.Test.YtfiabonacpepnaaGreatDoorLawB
import Derived.Test.YtfiabonacpepnaaGreatDoorCtG
import Derived.Test.YtfiabonacpepnaaGreatDoorCtZa
import Derived.Lib.LaidTab
import Derived.Lib.LaidU8
import Derived.Lay
import Derived.LaidMore
import Derived.MakeChecks
import Derived.Stop.LaidErr
import Derived.Shelf.Vars
import Derived.HandedShaped
import Derived.SevenTiedAt
namespace Go.Proofs.YtfiabonacpepnaaGreatDoor.lawCt
open Go Go.ChangeShapes Go.WideShapes Go.ChangeAt Go.RowKit

theorem own : ownKnob Tryz.prog.godebug = none := by kernel_rfl
theorem laidOut : laidOutB Tryz.prog = true := by kernel_rfl
def laid : List (String × DataW Unit) := Rows.contractRoundTripRow.laid
theorem isPlain (W : World) : laidMetH Tryz.prog laid W = laidMet Tryz.prog laid W := MakeChecks.laidMetH_plain _ _ _ (by kernel_rfl)
theorem gTab : Tryz.prog.globalNamed "internal/strconv.uint64pow10" = some 2 := by kernel_rfl
theorem gTabType : (Tryz.prog.globals[2]?).map (·.type) = some 205 := by kernel_rfl
theorem cellsT : Tryz.prog.cellsOf 205 = 20 := by kernel_rfl
theorem cellsE : Tryz.prog.cellsOf 128 = 1 := by kernel_rfl
theorem gSyn : Tryz.prog.globalNamed "strconv.ErrSyntax" = some 7 := by kernel_rfl
theorem gSynType : (Tryz.prog.globals[7]?).map (·.type) = some 63 := by kernel_rfl
theorem gRng : Tryz.prog.globalNamed "strconv.ErrRange" = some 8 := by kernel_rfl
theorem gRngType : (Tryz.prog.globals[8]?).map (·.type) = some 63 := by kernel_rfl
theorem tabForm : (Rows.laid_internal_strconv_uint64pow10 : DataW Unit) = Lib.tabData .u64 Lib.pow10Tab := by kernel_rfl
theorem star : "*" ++ "errors.errorString" = "*errors.errorString" := by decide
theorem cellsEs : Tryz.prog.cellsOf 232 = 1 := by kernel_rfl
theorem cellsStr : Tryz.prog.cellsOf 9 = 1 := by kernel_rfl
/-- the one row of that name -/
theorem rowEs (u : TypeId) (h : Tryz.prog.typeName? 3 u = some "*errors.errorString") : u = 230 :=
  typeName_ptr_named (nm := "errors.errorString") (by rw [star]; kernel_rfl) (by kernel_rfl) (by decide) u (by rw [star]; exact h)
theorem var_lt {P : Program} {W : World} {n : String} {g : Nat} {cs : Array Value} (hg : P.globalNamed n = some g) (h : W.var? P n = some cs) : g < W.heap.size := by
  unfold World.var? at h
  rw [hg] at h
  simp only [Option.bind_some] at h
  rcases Nat.lt_or_ge g W.heap.size with h' | h'
  · exact h'
  · simp [Array.getElem?_eq_none h'] at h
theorem k_at {W : World} (hL : laidMetH Tryz.prog laid W) (hs : W.ShapedOpen Tryz.prog) : KAt W := by
  rw [isPlain] at hL
  have h2 := hL.tail.tail
  have h4 := h2.tail.tail
  have h5 := h4.tail
  obtain ⟨a0, s0, hv0, -, -, -⟩ := laid_sentinel h4 gRng gRngType Tryz.underlying63 rowEs Tryz.underlying230 Tryz.underlying232 rfl rfl Tryz.underlying9 cellsEs cellsStr
  obtain ⟨a1, s1, hv1, -, -, -⟩ := laid_sentinel h5 gSyn gSynType Tryz.underlying63 rowEs Tryz.underlying230 Tryz.underlying232 rfl rfl Tryz.underlying9 cellsEs cellsStr
  refine ⟨?_, ?_, ⟨_, _, hv1⟩, ⟨_, _, hv0⟩, var_lt gRng hv0⟩
  · exact cell_of_shapedOpen_int (zero := #[.int .i64 0]) (t := 3) hs (of_decide_eq_true (by kernel_rfl)) (by kernel_rfl) rfl (by kernel_rfl) (by kernel_rfl) Tryz.underlying3
  · rw [tabForm] at h2
    exact Lib.tabIs_of_head gTab gTabType Tryz.underlying205 Tryz.underlying128 cellsE cellsT h2
/-- A WORLD FOR THE WITNESS: the settled one, the listed variables as the program's text lays them. -/
noncomputable def laidWorld (os : Os) : World := World.laidAll Tryz.prog os laid
theorem laid_met (os : Os) (args : Array Value) : laidMetH Tryz.prog laid ((laidWorld os).forCall (fun _ _ => 0) ⟨#[], args, []⟩).memory := by
  rw [isPlain]
  exact laidMet_laidAll _ (by kernel_rfl) (by kernel_rfl)
theorem int_bd {n : Int} (h : (Lit.int .i64 n).wf = true) : -9223372036854775808 ≤ n ∧ n ≤ 9223372036854775807 := bounds_i64 h
end Go.Proofs.YtfiabonacpepnaaGreatDoor.lawCt
