import Derived.WalkKit
import Derived.Lib.Hide
import Derived.Deep.QuietTactic
import Derived.BigQuiet
import Derived.RangeFuncBox
import Derived.Lib.ConvBytes
namespace Go.Proofs.YtgjajhopjcdflaaGreat
open Go Go.RowKit

theorem extract_list (s : ByteArray) (a m : Nat) : s.extract a (a + m) = ⟨((s.data.toList.drop a).take m).toArray⟩ := by
  apply ByteArray.ext
  rw [ByteArray.data_extract]
  apply Array.ext'
  rw [Array.toList_extract]
  simp [List.extract]
theorem bytes_eta (s : ByteArray) : s = ⟨s.data.toList.toArray⟩ := by
  cases s; simp
theorem append_list (a b : List UInt8) : (⟨a.toArray⟩ : ByteArray) ++ ⟨b.toArray⟩ = ⟨(a ++ b).toArray⟩ := by
  apply ByteArray.ext
  rw [ByteArray.data_append]; simp
theorem append_right (a : List UInt8) (s : ByteArray) : (⟨a.toArray⟩ : ByteArray) ++ s = ⟨(a ++ s.data.toList).toArray⟩ := by
  rw [← append_list, ← bytes_eta]

def u8s (l : List UInt8) : List Value := l.map fun b => .int .u8 (b.toNat : Int)

theorem fold_push (l : List UInt8) : ∀ r : ByteArray, (l.map fun b => (b.toNat : Int)).foldl (fun r n => r.push (UInt8.ofNat n.toNat)) r = ⟨(r.data.toList ++ l).toArray⟩ := by
  induction l with
  | nil => intro r; simp
  | cons b l ih =>
    intro r
    rw [List.map_cons, List.foldl_cons, ih]
    simp [ByteArray.push]

/-- string(b) of a row of bytes -/
theorem run_string_of_row {P : Program} (w : World) (src dst e : TypeId) (a : Addr) (len cap : Nat) (l : List UInt8)
    (hs : P.underlying src = some (.slice e)) (he : P.underlying e = some (.int .u8)) (hd : P.underlying dst = some .string) (hl : l.length = len)
    (h : ∀ j u, (u8s l)[j]? = some u → w.cell? (a.add j) = some u) :
    (convert src dst (.slice (some a) len cap)).run P w = .ok (.string ⟨l.toArray⟩) w := by
  rw [run_convert_bytes_string w src dst e (some a) len cap hs he hd]
  have e1 : (u8s l) = (l.map fun b => (b.toNat : Int)).map (Value.int .u8) := by simp [u8s]
  have e2 : (loadCells a len).run P w = .ok ((l.map fun b => (b.toNat : Int)).map (Value.int .u8)).toArray w := by
    rw [← e1]
    have := run_loadCells_list (P := P) (w := w) a (u8s l) h
    rwa [show (u8s l).length = len by simp [u8s, hl]] at this
  rw [run_bytesToString w a len cap _ e2, fold_push]
  rfl
end Go.Proofs.YtgjajhopjcdflaaGreat
namespace Go.Proofs.YtgjajhopjcdflaaGreat
open Go Go.RowKit

/-- min(n, k), as the walk writes it -/
theorem min_ite (a k : Nat) : (if (k : Int) < (a : Int) then (k : Int) else (a : Int)) = ((min a k : Nat) : Int) := by
  split <;> omega
/-- s[:min(len(s), k)] -/
theorem cut_ex (s : ByteArray) (k : Nat) (K : Int) (hK : K = (k : Int)) : ∃ (m : Nat) (r : ByteArray), m ≤ k ∧ m ≤ s.size ∧ r.size = m ∧ s.extract 0 m = r ∧ r.data.toList = s.data.toList.take k ∧
    (if K < (s.size : Int) then K else (s.size : Int)) = (m : Int) := by
  subst hK
  refine ⟨min s.size k, s.extract 0 (min s.size k), Nat.min_le_right _ _, Nat.min_le_left _ _, ?_, rfl, ?_, min_ite _ _⟩
  · simp
  · have := extract_list s 0 (min s.size k)
    rw [Nat.zero_add] at this
    rw [this]
    simp only [List.drop_zero]
    by_cases h : s.size ≤ k
    · rw [Nat.min_eq_left h, List.take_of_length_le (by simp), List.take_of_length_le (by simpa using h)]
    · rw [Nat.min_eq_right (by omega)]

end Go.Proofs.YtgjajhopjcdflaaGreat
namespace Go.Proofs.YtgjajhopjcdflaaGreat
open Go Go.RowKit

/-- block B is the row cs of cells of type e, none of them frozen -/
def RowAt (w : World) (B : Nat) (e : TypeId) (cs : Array Value) : Prop := w.heap[B]? = some (.cells cs e (0, 0))
section
variable {w w' : World} {B : Nat} {e : TypeId} {cs : Array Value}
theorem RowAt.lt (h : RowAt w B e cs) : B < w.heap.size := (Array.getElem?_eq_some_iff.1 h).1
theorem RowAt.cell (h : RowAt w B e cs) (i : Nat) : w.cell? ⟨B, i, none⟩ = cs[i]? := by unfold RowAt at h; simp [World.cell?, h]
theorem RowAt.free (h : RowAt w B e cs) (i : Nat) : w.frozen? ⟨B, i, none⟩ = false := by unfold RowAt at h; simp [World.frozen?, h]
theorem RowAt.new (w : World) (e : TypeId) (cs : Array Value) : RowAt (w.alloc (.cells cs e)) w.heap.size e cs := World.alloc_heap_new w _
theorem RowAt.alloc (h : RowAt w B e cs) (o : Obj) : RowAt (w.alloc o) B e cs := (Below.heap_alloc w o B h.lt).trans h
theorem RowAt.set (h : RowAt w B e cs) (i : Nat) (u : Value) : RowAt (w.setCell ⟨B, i, none⟩ u) B e (cs.setIfInBounds i u) := by
  unfold RowAt at h ⊢
  simp [World.setCell, Array.getElem?_modify, h]
theorem RowAt.far (h : RowAt w B e cs) {p : Addr} (hp : B ≠ p.block) (u : Value) : RowAt (w.setCell p u) B e cs := (Below.heap_setCell w p u B hp).trans h
theorem RowAt.below {C : Nat} (h : RowAt w B e cs) (hb : Below C w w') (hg : B < C) : RowAt w' B e cs := (hb.block B hg).trans h
theorem RowAt.drew (h : RowAt w B e cs) : RowAt w.drew B e cs := h
theorem RowAt.drewN (h : RowAt w B e cs) (n : Nat) : RowAt (w.drewN n) B e cs := h
end

theorem run_make_n {P : Program} (t e : TypeId) (i : TypeInfo) (z : Value) (ht : P.underlying t = some (.slice e)) (hi : P.info? e = some i) (hz : i.zero = some z) (hs : i.size = 1) (n : Nat) (hb : i.bytes * n ≤ 281474976710656) (h63 : n ≤ 9223372036854775807) (w : World) :
    (Instr.makeSlice t (.int .i64 (n : Int)) (.int .i64 (n : Int))).run P w = .ok (.slice (some ⟨w.heap.size, 0, none⟩) n n) (w.alloc (.cells (madeCells z.cells n) e)) := by
  have h : (i.bytes : Int) * (n : Int) ≤ 281474976710656 := by
    have h : ((i.bytes * n : Nat) : Int) ≤ 281474976710656 := by omega
    rwa [Int.natCast_mul] at h
  have := run_make (P := P) (w := w) t e i z ht hi hz .i64 .i64 n n (by omega) (Int.le_refl _) h (by omega)
  rw [hs] at this
  simpa using this

/-- min of four -/
theorem run_min4 (P : Program) (a b c : Nat) (k : Nat) (K : Int) (hK : K = (k : Int)) : ∃ n : Nat, n ≤ a ∧ n ≤ b ∧ n ≤ c ∧ n ≤ k ∧ n = min (min (min a b) c) k ∧
    ∀ (ts : Array TypeId) (t : TypeId) (w : World), (Builtin.min_ ts t #[.int .i64 (a : Int), .int .i64 (b : Int), .int .i64 (c : Int), .int .i64 K]).run P w = .ok (.int .i64 (n : Int)) w := by
  subst hK
  refine ⟨min (min (min a b) c) k, by omega, by omega, by omega, by omega, rfl, fun ts t w => ?_⟩
  simp [Builtin.min_, Builtin.min2, Sem.run_pure]
  by_cases h : b < a
  · simp only [if_pos h]
    repeat' split
    all_goals omega
  · simp only [if_neg h]
    repeat' split
    all_goals omega

theorem below_drewN {B : Nat} {a w : World} (h : Below B a w) (n : Nat) : Below B a (w.drewN n) := ⟨h.os, h.tape, h.output, h.size, h.block⟩
theorem quiet_same {P : Program} {f : FuncId} {args : Array Value} {w : World} {n : Nat} {v : Value}
    (h : Calls P f args (w.drewN n) fun e w' => e = .returned v ∧ w.drewN n = w') : Calls P f args (w.drewN n) fun e w'' => e = .returned v ∧ ∃ m, w'' = w.drewN m :=
  h.mono fun _ _ ⟨he, hm⟩ => ⟨he, n, hm.symm⟩
theorem i64_xor_nat (a b : Nat) (ha : a < 9223372036854775808) (hb : b < 9223372036854775808) : bits BinOp.xor IntKind.i64 (a : Int) (b : Int) = ((a ^^^ b : Nat) : Int) := by
  have hx : a ^^^ b < 2 ^ 63 := Nat.xor_lt_two_pow (by omega) (by omega)
  have h : (BitVec.ofInt 64 (a : Int) ^^^ BitVec.ofInt 64 (b : Int)).toNat = a ^^^ b := by
    rw [BitVec.toNat_xor, BitVec.ofInt_natCast, BitVec.ofInt_natCast, BitVec.toNat_ofNat, BitVec.toNat_ofNat, Nat.mod_eq_of_lt (by omega), Nat.mod_eq_of_lt (by omega)]
  show IntKind.i64.wrap ((BitVec.ofInt 64 (a : Int) ^^^ BitVec.ofInt 64 (b : Int)).toNat : Int) = _
  rw [h, IntKind.wrap_i64]
  omega
theorem addr_add (B j : Nat) : (⟨B, 0, none⟩ : Addr).add j = ⟨B, j, none⟩ := by
  unfold Addr.add
  by_cases h : j = 0 <;> simp [h]
theorem u8_xor_lt {a b : Nat} (ha : a < 256) (hb : b < 256) : a ^^^ b < 256 := Nat.xor_lt_two_pow (n := 8) ha hb
end Go.Proofs.YtgjajhopjcdflaaGreat
namespace Go.Proofs.YtgjajhopjcdflaaGreat
open Go Go.RowKit

/-- block B is the row cs, its frozen range fr -/
def RowF (w : World) (B : Nat) (e : TypeId) (fr : Nat × Nat) (cs : Array Value) : Prop := w.heap[B]? = some (.cells cs e fr)
section
variable {w w' : World} {B : Nat} {e : TypeId} {fr : Nat × Nat} {cs : Array Value}
theorem RowF.lt (h : RowF w B e fr cs) : B < w.heap.size := (Array.getElem?_eq_some_iff.1 h).1
theorem RowF.cell (h : RowF w B e fr cs) (i : Nat) : w.cell? ⟨B, i, none⟩ = cs[i]? := by unfold RowF at h; simp [World.cell?, h]
theorem RowF.free (h : RowF w B e fr cs) (i : Nat) (hi : i < fr.1) : w.frozen? ⟨B, i, none⟩ = false := by unfold RowF at h; simp [World.frozen?, h]; omega
theorem RowF.set (h : RowF w B e fr cs) (i : Nat) (u : Value) : RowF (w.setCell ⟨B, i, none⟩ u) B e fr (cs.setIfInBounds i u) := by
  unfold RowF at h ⊢
  simp [World.setCell, Array.getElem?_modify, h]
theorem RowF.below {C : Nat} (h : RowF w B e fr cs) (hb : Below C w w') (hg : B < C) : RowF w' B e fr cs := (hb.block B hg).trans h
theorem RowF.drew (h : RowF w B e fr cs) : RowF w.drew B e fr cs := h
theorem RowF.drewN (h : RowF w B e fr cs) (n : Nat) : RowF (w.drewN n) B e fr cs := h
end

theorem bytesWorld_row (w : World) (e : TypeId) (s : ByteArray) : ∃ (cs : Array Value) (n : Nat), s.size ≤ n ∧ cs.size = n ∧ RowF (Lib.bytesWorld w e s) w.heap.size e (n, n + 1) cs ∧ ∀ j, j < s.size → cs[j]? = (u8s s.data.toList)[j]? := by
  refine ⟨Lib.bytesCells w e s, (Lib.bytesCells w e s).size, ?_, rfl, Lib.bytesWorld_at_new w e s, fun j hj => ?_⟩
  · simp [Lib.bytesCells]
  · have h := Lib.bytesWorld_cell w e s j hj
    rw [RowF.cell (Lib.bytesWorld_at_new w e s) j] at h
    rw [h]
    unfold u8s
    rw [List.getElem?_map, List.getElem?_eq_getElem (by simpa using hj)]
    simp [hj]
theorem bytesWorld_below (w : World) (e : TypeId) (s : ByteArray) : Below w.heap.size w (Lib.bytesWorld w e s) :=
  ⟨rfl, rfl, rfl, by rw [Lib.bytesWorld_size]; omega, fun k hk => Lib.bytesWorld_at_old w e s k hk⟩
end Go.Proofs.YtgjajhopjcdflaaGreat
