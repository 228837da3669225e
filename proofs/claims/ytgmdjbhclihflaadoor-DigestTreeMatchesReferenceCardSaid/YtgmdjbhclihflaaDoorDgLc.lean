/- Fixed digests. -/
import Derived.Test.YtgmdjbhclihflaaDoorDgLb
namespace Go.Proofs.YtgmdjbhclihflaaDoor
open Go Go.RowKit Go.Lib Go.Shelf

def fa : List UInt8 := [2, 42, 105, 121, 230, 218, 183, 170, 90, 228, 195, 229, 228, 95, 126, 151, 113, 18, 167, 230, 53, 147, 130, 13, 190, 193, 236, 115, 138, 36, 249, 60]
def fb : List UInt8 := [87, 235, 53, 97, 93, 71, 243, 78, 199, 20, 202, 205, 245, 253, 116, 96, 138, 94, 142, 16, 39, 36, 232, 11, 36, 178, 135, 192, 194, 123, 106, 49]
def fc : List UInt8 := [89, 127, 203, 49, 40, 45, 52, 101, 76, 32, 13, 52, 24, 252, 165, 112, 92, 100, 142, 191, 50, 110, 199, 61, 141, 222, 241, 24, 65, 248, 118, 216]
def fd : List UInt8 := [208, 112, 220, 91, 141, 169, 174, 167, 220, 15, 90, 212, 194, 157, 137, 150, 82, 0, 5, 156, 154, 12, 236, 163, 171, 213, 218, 36, 146, 220, 183, 29]
def fab : List UInt8 := [177, 55, 152, 95, 244, 132, 251, 96, 13, 185, 49, 7, 199, 123, 3, 101, 200, 13, 120, 245, 180, 41, 222, 208, 253, 151, 54, 29, 7, 121, 153, 235]
def fR : List UInt8 := [54, 100, 46, 115, 194, 84, 10, 177, 33, 227, 166, 191, 149, 69, 176, 162, 73, 130, 205, 131, 14, 177, 61, 60, 209, 157, 227, 206, 108, 2, 30, 193]
def fRd : List UInt8 := [11, 137, 49, 181, 17, 196, 191, 58, 231, 206, 86, 31, 156, 18, 116, 111, 70, 5, 244, 46, 236, 117, 24, 141, 22, 184, 218, 186, 37, 48, 72, 132]
def fnb : List UInt8 := [174, 64, 140, 162, 195, 118, 124, 82, 232, 115, 100, 129, 196, 94, 120, 216, 153, 5, 120, 176, 239, 140, 226, 106, 139, 116, 103, 128, 205, 233, 151, 16]
def fRb : List UInt8 := [179, 47, 200, 233, 115, 55, 22, 14, 104, 174, 6, 157, 155, 157, 219, 50, 253, 112, 219, 46, 13, 228, 29, 87, 29, 255, 220, 190, 234, 6, 61, 139]
theorem leaf_fa : leafB [97] = fa := by decide +kernel
theorem leaf_fb : leafB [98] = fb := by decide +kernel
theorem leaf_fc : leafB [99] = fc := by decide +kernel
theorem leaf_fd : leafB [100] = fd := by decide +kernel
theorem node_fab : nodeB fa fb = fab := by decide +kernel
theorem node_fR : nodeB fab fc = fR := by decide +kernel
theorem node_fRd : nodeB fab fd = fRd := by decide +kernel
theorem node_fnb : nodeB fab fb = fnb := by decide +kernel
theorem node_fRb : nodeB fnb fc = fRb := by decide +kernel
theorem hex_e : hexB (shaB []) = [101, 51, 98, 48, 99, 52, 52, 50, 57, 56, 102, 99, 49, 99, 49, 52, 57, 97, 102, 98, 102, 52, 99, 56, 57, 57, 54, 102, 98, 57, 50, 52, 50, 55, 97, 101, 52, 49, 101, 52, 54, 52, 57, 98, 57, 51, 52, 99, 97, 52, 57, 53, 57, 57, 49, 98, 55, 56, 53, 50, 98, 56, 53, 53] := by decide +kernel
theorem hex_abc : hexB (shaB [97, 98, 99]) = [98, 97, 55, 56, 49, 54, 98, 102, 56, 102, 48, 49, 99, 102, 101, 97, 52, 49, 52, 49, 52, 48, 100, 101, 53, 100, 97, 101, 50, 50, 50, 51, 98, 48, 48, 51, 54, 49, 97, 51, 57, 54, 49, 55, 55, 97, 57, 99, 98, 52, 49, 48, 102, 102, 54, 49, 102, 50, 48, 48, 49, 53, 97, 100] := by decide +kernel
theorem stack1 (a : List UInt8) : stackS [a] = [(1, leafB a)] := by simp [stackS, pushS, mergeS_one]
theorem stack2 (a b : List UInt8) : stackS [a, b] = [(2, nodeB (leafB a) (leafB b))] := by simp [stackS, pushS, mergeS_one, mergeS_eq]
theorem stack3 (a b c : List UInt8) : stackS [a, b, c] = [(1, leafB c), (2, nodeB (leafB a) (leafB b))] := by simp [stackS, pushS, mergeS_one, mergeS_eq]
theorem root1 (a : List UInt8) : rootB [a] = leafB a := by rw [rootB, stack1]; rfl
theorem root2 (a b : List UInt8) : rootB [a, b] = nodeB (leafB a) (leafB b) := by rw [rootB, stack2]; rfl
theorem root3 (a b c : List UInt8) : rootB [a, b, c] = nodeB (nodeB (leafB a) (leafB b)) (leafB c) := by rw [rootB, stack3]; rfl
def abc : List (List UInt8) := [[97], [98], [99]]
theorem left3 : leftN 3 = 2 := by decide
theorem left2 : leftN 2 = 1 := by decide
theorem abc_root : rootB abc = fR := by rw [abc, root3, leaf_fa, leaf_fb, leaf_fc, node_fab, node_fR]
theorem abc_proof : proofB abc 2 = [fab] := by
  unfold proofB abc
  simp only [List.length_cons, List.length_nil, Nat.zero_add, Nat.reduceAdd, descL, Nat.reduceLeDiff, if_false, left3]
  simp [root2, leaf_fa, leaf_fb, node_fab]
theorem abc_ext : extB abc 1 = [fb, fc] := by
  unfold extB abc
  simp only [List.length_cons, List.length_nil, Nat.zero_add, Nat.reduceAdd, partL, Nat.reduceLeDiff, if_false, left3]
  simp [root1, left2, leaf_fb, leaf_fc]
theorem abc_ver : (verV 3 3 2 [99] [fab] == some fR) = true := by
  have h : verV 3 3 2 [99] [fab] = some fR := by
    rw [verV_cons (by omega), left3, if_neg (by omega), verV_one (by omega), if_pos rfl]
    simp [joinB, leaf_fc, node_fR]
  rw [h]; decide
theorem abc_ver2 : (verV 3 3 2 [100] [fab] == some fR) = false := by
  have h : verV 3 3 2 [100] [fab] = some fRd := by
    rw [verV_cons (by omega), left3, if_neg (by omega), verV_one (by omega), if_pos rfl]
    simp [joinB, leaf_fd, node_fRd]
  rw [h]; decide
theorem abc_vext : (bothV 3 1 3 fa [fc, fb] true == some (fa, fR)) = true := by
  have h : bothV 3 1 3 fa [fc, fb] true = some (fa, fR) := by
    rw [bothV_cons (by omega), left3, if_pos (by omega), bothV_cons (by omega), left2, if_pos (by omega), bothV_end (by omega), if_pos rfl]
    simp [join2, joinB, node_fab, node_fR]
  rw [h]; decide
theorem abc_vext2 : (bothV 3 1 3 fab [fc, fb] true == some (fab, fR)) = false := by
  have h : bothV 3 1 3 fab [fc, fb] true = some (fab, fRb) := by
    rw [bothV_cons (by omega), left3, if_pos (by omega), bothV_cons (by omega), left2, if_pos (by omega), bothV_end (by omega), if_pos rfl]
    simp [join2, joinB, node_fnb, node_fRb]
  rw [h]; decide
end Go.Proofs.YtgmdjbhclihflaaDoor
