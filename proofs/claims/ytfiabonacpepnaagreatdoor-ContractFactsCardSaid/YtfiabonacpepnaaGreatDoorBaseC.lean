/- A block of cells that is known whole; make with a variable size; quiet calls. -/
import Derived.Test.YtfiabonacpepnaaGreatDoorBaseB
import Derived.Deep.QuietTactic
import Derived.BigQuiet
import Derived.RangeFuncBox
namespace Go.Proofs.YtfiabonacpepnaaGreatDoor
open Go Go.RowKit

/-- block B is the row cs of cells of type e, none of them frozen -/
def RowAt (w : World) (B : Nat) (e : TypeId) (cs : Array Value) : Prop := w.heap[B]? = some (.cells cs e (0, 0))
section
variable {w w' : World} {B : Nat} {e : TypeId} {cs : Array Value}
theorem RowAt.lt (h : RowAt w B e cs) : B < w.heap.size := (Array.getElem?_eq_some_iff.1 h).1
theorem RowAt.cell (h : RowAt w B e cs) (i : Nat) : w.cell? ⟨B, i, none⟩ = cs[i]? := by unfold RowAt at h; simp [World.cell?, h]
theorem RowAt.free (h : RowAt w B e cs) (i : Nat) : w.frozen? ⟨B, i, none⟩ = false := by unfold RowAt at h; simp [World.frozen?, h]
theorem RowAt.new (w : World) (e : TypeId) (cs : Array Value) : RowAt (w.alloc (.cells cs e)) w.heap.size e cs := World.alloc_heap_new w _
theorem RowAt.alloc (h : RowAt w B e cs) (o : Obj) : RowAt (w.alloc o) B e cs := (Below.heap_alloc w o B h.lt).trans h
theorem RowAt.set (h : RowAt w B e cs) (i : Nat) (u : Value) : RowAt (w.setCell ⟨B, i, none⟩ u) B e (cs.setIfInBounds i u) := by
  unfold RowAt at h ⊢
  simp [World.setCell, Array.getElem?_modify, h]
theorem RowAt.far (h : RowAt w B e cs) {p : Addr} (hp : B ≠ p.block) (u : Value) : RowAt (w.setCell p u) B e cs := (Below.heap_setCell w p u B hp).trans h
theorem RowAt.below {C : Nat} (h : RowAt w B e cs) (hb : Below C w w') (hg : B < C) : RowAt w' B e cs := (hb.block B hg).trans h
theorem RowAt.drew (h : RowAt w B e cs) : RowAt w.drew B e cs := h
theorem RowAt.drewN (h : RowAt w B e cs) (n : Nat) : RowAt (w.drewN n) B e cs := h
end

theorem run_make_n {P : Program} (t e : TypeId) (i : TypeInfo) (z : Value) (ht : P.underlying t = some (.slice e)) (hi : P.info? e = some i) (hz : i.zero = some z) (hs : i.size = 1) (n : Nat) (hb : i.bytes * n ≤ 281474976710656) (h63 : n ≤ 9223372036854775807) (w : World) :
    (Instr.makeSlice t (.int .i64 (n : Int)) (.int .i64 (n : Int))).run P w = .ok (.slice (some ⟨w.heap.size, 0, none⟩) n n) (w.alloc (.cells (madeCells z.cells n) e)) := by
  have h : (i.bytes : Int) * (n : Int) ≤ 281474976710656 := by
    have h : ((i.bytes * n : Nat) : Int) ≤ 281474976710656 := by omega
    rwa [Int.natCast_mul] at h
  have := run_make (P := P) (w := w) t e i z ht hi hz .i64 .i64 n n (by omega) (Int.le_refl _) h (by omega)
  rw [hs] at this
  simpa using this

/-- min of four -/
theorem run_min4 (P : Program) (a b c : Nat) (k : Nat) (K : Int) (hK : K = (k : Int)) : ∃ n : Nat, n ≤ a ∧ n ≤ b ∧ n ≤ c ∧ n ≤ k ∧ n = min (min (min a b) c) k ∧
    ∀ (ts : Array TypeId) (t : TypeId) (w : World), (Builtin.min_ ts t #[.int .i64 (a : Int), .int .i64 (b : Int), .int .i64 (c : Int), .int .i64 K]).run P w = .ok (.int .i64 (n : Int)) w := by
  subst hK
  refine ⟨min (min (min a b) c) k, by omega, by omega, by omega, by omega, rfl, fun ts t w => ?_⟩
  simp [Builtin.min_, Builtin.min2, Sem.run_pure]
  by_cases h : b < a
  · simp only [if_pos h]
    repeat' split
    all_goals omega
  · simp only [if_neg h]
    repeat' split
    all_goals omega

theorem below_drewN {B : Nat} {a w : World} (h : Below B a w) (n : Nat) : Below B a (w.drewN n) := ⟨h.os, h.tape, h.output, h.size, h.block⟩
theorem quiet_same {P : Program} {f : FuncId} {args : Array Value} {w : World} {n : Nat} {v : Value}
    (h : Calls P f args (w.drewN n) fun e w' => e = .returned v ∧ w.drewN n = w') : Calls P f args (w.drewN n) fun e w'' => e = .returned v ∧ ∃ m, w'' = w.drewN m :=
  h.mono fun _ _ ⟨he, hm⟩ => ⟨he, n, hm.symm⟩
theorem i64_xor_nat (a b : Nat) (ha : a < 9223372036854775808) (hb : b < 9223372036854775808) : bits BinOp.xor IntKind.i64 (a : Int) (b : Int) = ((a ^^^ b : Nat) : Int) := by
  have hx : a ^^^ b < 2 ^ 63 := Nat.xor_lt_two_pow (by omega) (by omega)
  have h : (BitVec.ofInt 64 (a : Int) ^^^ BitVec.ofInt 64 (b : Int)).toNat = a ^^^ b := by
    rw [BitVec.toNat_xor, BitVec.ofInt_natCast, BitVec.ofInt_natCast, BitVec.toNat_ofNat, BitVec.toNat_ofNat, Nat.mod_eq_of_lt (by omega), Nat.mod_eq_of_lt (by omega)]
  show IntKind.i64.wrap ((BitVec.ofInt 64 (a : Int) ^^^ BitVec.ofInt 64 (b : Int)).toNat : Int) = _
  rw [h, IntKind.wrap_i64]
  omega
theorem addr_add (B j : Nat) : (⟨B, 0, none⟩ : Addr).add j = ⟨B, j, none⟩ := by
  unfold Addr.add
  by_cases h : j = 0 <;> simp [h]
theorem u8_xor_lt {a b : Nat} (ha : a < 256) (hb : b < 256) : a ^^^ b < 256 := Nat.xor_lt_two_pow (n := 8) ha hb
end Go.Proofs.YtfiabonacpepnaaGreatDoor
