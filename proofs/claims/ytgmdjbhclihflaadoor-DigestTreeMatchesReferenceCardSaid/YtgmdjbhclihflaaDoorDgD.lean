/- The digest that words are. -/
import Derived.Test.YtgmdjbhclihflaaDoorDgC
namespace Go.Proofs.YtgmdjbhclihflaaDoor
open Go Go.RowKit Go.Lib

/-- the cells of an array of n integers of kind k of which the first are known -/
def kCells (k : IntKind) (n : Nat) (l : List Nat) : Array Value := ((l ++ List.replicate (n - l.length) 0).map fun x : Nat => Value.int k (x : Int)).toArray
theorem kCells_set {k : IntKind} {n : Nat} {l : List Nat} (h : l.length < n) (x : Nat) : (kCells k n l).setIfInBounds l.length (.int k (x : Int)) = kCells k n (l ++ [x]) := by
  unfold kCells
  apply Array.ext'
  rw [List.setIfInBounds_toArray]
  obtain ⟨m, hm⟩ : ∃ m, n - l.length = m + 1 := ⟨n - l.length - 1, by omega⟩
  rw [hm, List.length_append, List.length_singleton, show n - (l.length + 1) = m by omega, List.replicate_succ, List.map_append, List.map_cons, List.map_append, List.map_append]
  simp
theorem kCells_zero {k : IntKind} {n : Nat} {l : List Nat} {i : Nat} (h : l.length ≤ i) (hi : i < n) : (kCells k n l)[i]? = some (.int k 0) := by
  unfold kCells
  rw [List.getElem?_toArray, List.getElem?_map, List.getElem?_append_right h, List.getElem?_replicate, if_pos (by omega)]
  rfl
def bytes4 (x : Nat) : List Nat := [x / 2 ^ 24 % 256, x / 2 ^ 16 % 256, x / 2 ^ 8 % 256, x / 2 ^ 0 % 256]
def digN (v : Sha.V8) : List Nat := (v8n v).flatMap bytes4
/-- the digest as bytes -/
def digB (v : Sha.V8) : List UInt8 := (digN v).map UInt8.ofNat
theorem digN_len (v : Sha.V8) : (digN v).length = 32 := rfl
theorem digN_at (v : Sha.V8) (i k : Nat) (hi : i < 8) (hk : k < 4) : (digN v)[4 * i + k]? = some ((v8n v).getD i 0 / 2 ^ (24 - 8 * k) % 256) := by
  match i, hi, k, hk with
  | 0, _, 0, _ | 0, _, 1, _ | 0, _, 2, _ | 0, _, 3, _ | 1, _, 0, _ | 1, _, 1, _ | 1, _, 2, _ | 1, _, 3, _ | 2, _, 0, _ | 2, _, 1, _ | 2, _, 2, _ | 2, _, 3, _ | 3, _, 0, _ | 3, _, 1, _ | 3, _, 2, _ | 3, _, 3, _ | 4, _, 0, _ | 4, _, 1, _ | 4, _, 2, _ | 4, _, 3, _ | 5, _, 0, _ | 5, _, 1, _ | 5, _, 2, _ | 5, _, 3, _ | 6, _, 0, _ | 6, _, 1, _ | 6, _, 2, _ | 6, _, 3, _ | 7, _, 0, _ | 7, _, 1, _ | 7, _, 2, _ | 7, _, 3, _ => rfl
theorem digN_lt (v : Sha.V8) : ∀ x ∈ digN v, x < 256 := by
  intro x hx
  unfold digN at hx
  obtain ⟨y, _, hy⟩ := List.mem_flatMap.1 hx
  simp only [bytes4, List.mem_cons, List.not_mem_nil, or_false] at hy
  rcases hy with rfl | rfl | rfl | rfl <;> exact Nat.mod_lt _ (by decide)
theorem kCells_dig (v : Sha.V8) : kCells .u8 32 (digN v) = (u8s (digB v)).toArray := by
  unfold kCells u8s digB
  rw [digN_len, Nat.sub_self, List.replicate_zero, List.append_nil, List.map_map]
  congr 1
  refine List.map_congr_left fun x hx => ?_
  have h := digN_lt v x hx
  show Value.int .u8 (x : Int) = .int .u8 ((UInt8.ofNat x).toNat : Int)
  rw [UInt8.toNat_ofNat', Nat.mod_eq_of_lt (by omega)]
theorem v8n_lt {v : Sha.V8} (h : V8ok v) (i : Nat) : (v8n v).getD i 0 < 4294967296 := getD_lt (m := 4294967295) (fun x hx => by
  simp only [v8n, List.mem_cons, List.not_mem_nil, or_false] at hx
  rcases hx with rfl | rfl | rfl | rfl | rfl | rfl | rfl | rfl
  · exact h.a
  · exact h.b
  · exact h.c
  · exact h.d
  · exact h.e
  · exact h.f
  · exact h.g
  · exact h.h) i
set_option maxRecDepth 100000 in
set_option maxHeartbeats 4000000 in
theorem digest_any (v : Sha.V8) (w : World) (hv : V8ok v) :
    Calls Tryd.prog 50 #[.agg (v8c v)] w fun e w' => e = .returned (.string ⟨(digB v).toArray⟩) ∧ Below w.heap.size w w' := by
  have HV := Lib.hid hv
  clear hv
  go_enter Tryd.func50, Tryd.ntmps50
  go_wp2_with (first | ((with_reducible refine wpList_stop (o := ⟨some 7, _, _, _, _, _⟩) ?_)))
  unfold Stop
  generalize hW1 : (w.alloc (.cells (v8c v) 66)).alloc (.cells _ 86) = W1
  have r3 : RowAt W1 (w.heap.size + 1) 86 (kCells .u8 32 ((digN v).take (4 * 0))) := by rw [← hW1]; exact row_new1 w _ _ _
  have r1 : RowAt W1 w.heap.size 66 (v8c v) := by rw [← hW1]; exact (RowAt.new w _ _).alloc _
  have b1 : Below w.heap.size w W1 := by rw [← hW1]; exact ((Below.refl _ _).alloc (Nat.le_refl _) _).alloc (by simp) _
  clear hW1
  obtain ⟨n3, hn3⟩ : ∃ z, w.heap.size + 1 = z := ⟨_, rfl⟩
  have h3 : w.heap.size ≤ n3 := by omega
  rw [hn3] at r3 ⊢
  have HR1 := Lib.hid (show W1.heap[w.heap.size]? = some (.cells (v8c v) 66 (0, 0)) from r1)
  have H3 := Lib.hid h3
  have HL : Hid (RowAt W1 n3 86 (kCells .u8 32 ((digN v).take (4 * 0))) ∧ Below w.heap.size w W1) := Lib.hid ⟨r3, b1⟩
  clear r1 r3 b1 hn3 h3
  go_wp2_with (first | ((with_reducible refine wpList_load_row (o := ⟨some 7, _, _, _, _, _⟩) ?_ 66 (.tmp 1) ?_ w.heap.size ?_ 66 (v8c v) (0, 0) _ HR1.out Tryd.underlying66 ?_ ?_ ?_); rfl; rfl; rfl; rfl; kernel_rfl))
  go_loopw [8] (fun iv wr => ∃ i : Nat, i ≤ 8 ∧ iv = .int .i64 i ∧ Hid (RowAt wr n3 86 (kCells .u8 32 ((digN v).take (4 * i))) ∧ Below w.heap.size w wr)) (fun i _ => 8 - (intOf i).toNat)
  case atStart => exact ⟨0, by omega, rfl, HL⟩
  case round =>
    obtain ⟨i, hi, rfl, HK⟩ := hrel
    by_cases hi2 : i < 8
    · have hix := run_index_at (P := Tryd.prog) 66 64 8 i (v8c v) (.int .u32 ((v8n v).getD i 0 : Nat)) Tryd.underlying66 (by kernel_rfl) (by kernel_rfl) hi2 (v8c_at v i hi2)
      have hxl := v8n_lt HV.out i
      have HAT := Lib.hid (fun k (hk : k < 4) => digN_at v i k hi2 hk)
      obtain ⟨x, hx⟩ : ∃ z, (v8n v).getD i 0 = z := ⟨_, rfl⟩
      rw [hx] at hix hxl HAT
      obtain ⟨Wi, hWi⟩ : ∃ z, wr = z := ⟨_, rfl⟩
      rw [hWi] at HK ⊢
      have HK0 : Hid (RowAt Wi n3 86 (kCells .u8 32 ((digN v).take (4 * i + 0))) ∧ Below w.heap.size w Wi) := HK
      clear hx hWi HK
      go_wp2_with fail
      go_loopw [12] (fun kv wr => ∃ k : Nat, k ≤ 4 ∧ kv = .int .i64 k ∧ Hid (RowAt wr n3 86 (kCells .u8 32 ((digN v).take (4 * i + k))) ∧ Below w.heap.size w wr)) (fun k _ => 4 - (intOf k).toNat)
      case atStart => exact ⟨0, by omega, rfl, HK0⟩
      case round =>
        obtain ⟨k, hk, rfl, HJ⟩ := hrel
        by_cases hk2 : k < 4
        · have hlen : ((digN v).take (4 * i + k)).length = 4 * i + k := by rw [List.length_take, digN_len]; omega
          have hz := HJ.out.1.cell (4 * i + k)
          have hf := HJ.out.1.free (4 * i + k)
          rw [kCells_zero (by omega) (by omega)] at hz
          have hat := HAT.out k hk2
          have hset := fun x => kCells_set (k := .u8) (n := 32) (l := (digN v).take (4 * i + k)) (by omega) x
          rw [hlen] at hset
          have HSET := Lib.hid hset
          have HT := Lib.hid hat
          clear hlen hset hat
          have hval : ((x / 2 ^ (24 - 8 * k) % 256 : Nat) : Int) = (x : Int) / 2 ^ (24 - 8 * k) % 256 := by simp
          have HEND : Hid (RowAt (wr.setCell ⟨n3, 4 * i + k, none⟩ (.int .u8 ((x : Int) / 2 ^ (24 - 8 * k) % 256))) n3 86 (kCells .u8 32 ((digN v).take (4 * i + (k + 1)))) ∧ Below w.heap.size w (wr.setCell ⟨n3, 4 * i + k, none⟩ (.int .u8 ((x : Int) / 2 ^ (24 - 8 * k) % 256)))) := Lib.hid (by
            have h := HJ.out.1.set (4 * i + k) (.int .u8 ((x / 2 ^ (24 - 8 * k) % 256 : Nat) : Int))
            rw [HSET.out, hval] at h
            rw [show 4 * i + (k + 1) = 4 * i + k + 1 by omega, List.take_add_one, HT.out]
            exact ⟨h, HJ.out.2.setCell (p := ⟨n3, 4 * i + k, none⟩) H3.out _⟩)
          clear hval HJ HSET HT
          go_wp2_with fail
          go_roundw
          case rel => exact ⟨k + 1, by omega, by go_num, HEND⟩
          case measure => simp [intOf]; omega
        · have hk4 : k = 4 := by omega
          have HEND : Hid (RowAt wr n3 86 (kCells .u8 32 ((digN v).take (4 * (i + 1)))) ∧ Below w.heap.size w wr) := Lib.hid (by
            have h := HJ.out
            rw [hk4, show 4 * i + 4 = 4 * (i + 1) by omega] at h
            exact h)
          clear hk4 HJ
          go_wp2_with fail
          go_roundw
          case rel => exact ⟨i + 1, by omega, by go_num, HEND⟩
          case measure => simp [intOf]; omega
    · have hi8 : i = 8 := by omega
      have hf := HK.out
      rw [hi8, show 4 * 8 = (digN v).length from rfl, List.take_length, kCells_dig] at hf
      obtain ⟨W9, hW9⟩ : ∃ z, wr = z := ⟨_, rfl⟩
      rw [hW9] at hf ⊢
      have hcv := run_string_of_row (P := Tryd.prog) W9 45 9 5 ⟨n3, 0, none⟩ 32 32 (digB v) Tryd.underlying45 Tryd.underlying5 Tryd.underlying9 rfl (fun j u hu => by
        rw [addr_add, hf.1.cell j, List.getElem?_toArray]
        exact hu)
      have HB := Lib.hid hf.2
      clear hf hi8 hW9 HK
      go_wp2_with fail
      go_ret
      exact ⟨rfl, HB.out⟩
end Go.Proofs.YtgmdjbhclihflaaDoor
