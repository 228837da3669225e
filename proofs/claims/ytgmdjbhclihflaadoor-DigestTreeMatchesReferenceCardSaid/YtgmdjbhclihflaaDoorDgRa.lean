/- The reference's rotated and constants. -/
import Derived.Test.YtgmdjbhclihflaaDoorDgH
import Derived.Deep.QuietTactic
import Derived.BigQuiet
namespace Go.Proofs.YtgmdjbhclihflaaDoor
open Go Go.RowKit Go.Lib Go.Shelf
attribute [local go_sem] Oper.semAt_some

theorem quiet_drew {P : Program} {f : FuncId} {args : Array Value} {w : World} {n : Nat} {v : Value} (h : Calls P f args (w.drewN n) fun e w' => e = .returned v ∧ ∃ k, (w.drewN n).drewN k = w') : Calls P f args (w.drewN n) fun e w'' => e = .returned v ∧ ∃ m, w'' = w.drewN m :=
  h.mono (fun e w' ⟨he, k, hk⟩ => ⟨he, n + k, by rw [← hk]; simp [World.drewN, Nat.add_assoc]⟩)
theorem rotr_eq (x n : Nat) (hx : x < 4294967296) : bits BinOp.or IntKind.u32 ((x : Int) / 2 ^ n) ((x : Int) * 2 ^ (32 - n) % 4294967296) = ((Sha.rotr n x : Nat) : Int) := by
  have h1 : ((x : Int) * 2 ^ (32 - n) % 4294967296) = ((x * 2 ^ (32 - n) % 4294967296 : Nat) : Int) := by simp
  have h2 : ((x : Int) / 2 ^ n) = ((x / 2 ^ n : Nat) : Int) := by simp
  rw [h1, h2, u32_or_nat _ _ (Nat.lt_of_le_of_lt (Nat.div_le_self _ _) hx) (Nat.mod_lt _ (by decide))]
  rfl
set_option maxHeartbeats 1000000 in
theorem rotated_any (x n : Nat) (w : World) (hx : x < 4294967296) (h1 : 1 ≤ n) (h2 : n ≤ 31) :
    Calls Tryd.prog 63 #[.int .u32 x, .int .i64 n] w fun e w' => e = .returned (.int .u32 (Sha.rotr n x : Nat)) ∧ ∃ k, w.drewN k = w' := by
  have e1 : IntKind.i64.wrap (32 - (n : Int)) = ((32 - n : Nat) : Int) := by rw [IntWalk.i64_in _ (by omega)]; omega
  have HE := Lib.hid (rotr_eq x n hx)
  obtain ⟨s, hs⟩ : ∃ s, 32 - n = s := ⟨_, rfl⟩
  rw [hs] at e1 HE
  have hs1 : 1 ≤ s := by omega
  have hs2 : s ≤ 31 := by omega
  clear hs
  go_enter Tryd.func63, Tryd.ntmps63
  go_wp2_with fail
  go_quiet (fail)
  go_wp2_with fail
  go_ret
  exact ⟨ret_u32 HE.out, _, rfl⟩
set_option maxRecDepth 100000 in
theorem constants_any (w : World) :
    Calls Tryd.prog 64 #[] w fun e w' => e = .returned (.slice (some ⟨w.heap.size, 0, none⟩) 64 64) ∧ w.alloc (.cells KC 64) = w' := by
  go_enter Tryd.func64, Tryd.ntmps64
  go_wp2_with fail
  go_ret
  exact ⟨rfl, congrArg (fun x => w.alloc (.cells x 64)) (by kernel_rfl)⟩
end Go.Proofs.YtgmdjbhclihflaaDoor
