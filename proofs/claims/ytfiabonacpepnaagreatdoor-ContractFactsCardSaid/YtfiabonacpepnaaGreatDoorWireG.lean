/- PutInt of package wire. -/
import Derived.Test.YtfiabonacpepnaaGreatDoorWireH
import Derived.Maps.AppendAt
import Derived.Test.YtfiabonacpepnaaGreatDoorBase
namespace Go.Proofs.YtfiabonacpepnaaGreatDoor.Fb
open Go Go.RowKit Go.Shelf
attribute [local go_sem] Oper.semAt_some

theorem groups_any (z : Nat) (w : World) :
    Calls Tryz.prog 75 #[.int .u64 (z : Int)] w fun e w' => e = .returned (.func (.func 115) #[] #[.pointer (some ⟨w.heap.size, 0, none⟩)]) ∧ w.alloc (.cells #[.int .u64 (z : Int)] 128) = w' := by
  go_enter Tryz.func75, Tryz.ntmps75
  go_wp2
  go_ret
  exact ⟨rfl, rfl⟩

theorem zig_eq (k : Int) (h0 : -4611686018427387903 ≤ k) (h1 : k ≤ 4611686018427387903) :
    bits BinOp.xor IntKind.u64 (IntKind.u64.wrap (IntKind.u64.wrap k * 2)) (IntKind.u64.wrap (k / 9223372036854775808)) = ((WireP.zz k : Nat) : Int) := by
  unfold WireP.zz
  by_cases hk : k < 0
  · have e1 : IntKind.u64.wrap (IntKind.u64.wrap k * 2) = ((18446744073709551616 - (-2 * k).toNat : Nat) : Int) := by
      rw [IntKind.wrap_u64, IntKind.wrap_u64]; omega
    have e2 : IntKind.u64.wrap (k / 9223372036854775808) = ((18446744073709551615 : Nat) : Int) := by
      rw [IntKind.wrap_u64]; omega
    rw [e1, e2, if_pos hk, u64_xor_nat _ _ (by omega) (by omega)]
    congr 1
    have hz : 18446744073709551616 - (-2 * k).toNat < 2 ^ 64 := by omega
    have hc := BitVec.toNat_not (x := BitVec.ofNat 64 (18446744073709551616 - (-2 * k).toNat))
    rw [← BitVec.xor_allOnes, BitVec.toNat_xor, BitVec.toNat_allOnes, BitVec.toNat_ofNat, Nat.mod_eq_of_lt hz] at hc
    have e3 : (18446744073709551615 : Nat) = 2 ^ 64 - 1 := by decide
    rw [e3, hc]
    omega
  · have e1 : IntKind.u64.wrap (IntKind.u64.wrap k * 2) = (((2 * k).toNat : Nat) : Int) := by
      rw [IntKind.wrap_u64, IntKind.wrap_u64]; omega
    have e2 : IntKind.u64.wrap (k / 9223372036854775808) = ((0 : Nat) : Int) := by
      rw [IntKind.wrap_u64]; omega
    rw [e1, e2, if_neg hk, u64_xor_nat _ _ (by omega) (by omega), Nat.xor_zero]

theorem info_u8 : (Tryz.prog.info? 5).map (fun i => (i.zero, i.size, i.bytes)) = some (some (.int .u8 0), 1, 1) := by kernel_rfl

/-- what the loop of PutInt keeps: what was written so far, and what is to come -/
def PutAt (k : Int) (w : World) (z : Nat) (W : World) : Prop :=
  ∃ (done : List UInt8) (f : Nat) (v : Value), f + done.length = 8 ∧ z < 128 ^ (f + 1) ∧ done ++ WireP.encF f z = WireP.enc (WireP.zz k) ∧
    Boxed W w.heap.size 59 v ∧ W.ownsRow (w.heap.size + 2) 5 1 v done.length (u8s done) ∧ Below w.heap.size w W ∧ w.heap.size + 2 ≤ W.heap.size
def PutEnd (k : Int) (w : World) (W : World) : Prop :=
  ∃ v : Value, Boxed W w.heap.size 59 v ∧ W.ownsRow (w.heap.size + 2) 5 1 v (WireP.enc (WireP.zz k)).length (u8s (WireP.enc (WireP.zz k))) ∧ Below w.heap.size w W ∧ w.heap.size + 2 ≤ W.heap.size

theorem box_row_calm {w W W' : World} {row : Option Nat} {v : Value} {n : Nat} {xs : List Value} (hb : Boxed W w.heap.size 59 v) (hr : W.ownsRow (w.heap.size + 2) 5 1 v n xs) (hw : Below w.heap.size w W)
    (hs : w.heap.size + 2 ≤ W.heap.size) (hg : W.grownBy W' row) (hrow : ∀ r, row = some r → w.heap.size + 1 ≤ r ∧ (r = w.heap.size + 1 ∨ ∃ o : Obj, W.heap[r]? = some o ∧ o.isCells = false)) :
    Boxed W' w.heap.size 59 v ∧ W'.ownsRow (w.heap.size + 2) 5 1 v n xs ∧ Below w.heap.size w W' ∧ w.heap.size + 2 ≤ W'.heap.size := by
  refine ⟨hb.kept hg (fun e => ?_), hr.kept hg ?_, hw.grown hg hw.size (fun r e => by have := (hrow r e).1; omega), Nat.le_trans hs hg.size⟩
  · rcases (hrow _ e.symm).2 with h | ⟨o, ho, hc⟩
    · omega
    · rw [show W.heap[w.heap.size]? = _ from hb] at ho; cases ho; cases hc
  · rcases hr.2 with ⟨rfl, _⟩ | ⟨g, cap, cur, rfl, hgb, hgg, _⟩
    · exact .inl rfl
    · refine .inr fun e => ?_
      rcases (hrow g (by simpa [Value.ownBlock] using e.symm)).2 with h | ⟨o, ho, hc⟩
      · omega
      · rw [hgg] at ho; cases ho; cases hc

theorem pow_div {z f : Nat} (h : z < 128 ^ (f + 1 + 1)) : z / 128 < 128 ^ (f + 1) := by
  rw [Nat.div_lt_iff_lt_mul (by omega)]; rw [Nat.pow_succ] at h; exact h

theorem putAt_calm (k : Int) (w : World) (z : Nat) : Calm (w.heap.size + 1) (PutAt k w z) := by
  rintro _ W' row ⟨done, f, v, h1, h2, h3, h4, h5, h6, h7⟩ hg hr
  obtain ⟨g1, g2, g3, g4⟩ := box_row_calm h4 h5 h6 h7 hg hr
  exact ⟨done, f, v, h1, h2, h3, g1, g2, g3, g4⟩
theorem putEnd_calm (k : Int) (w : World) : Calm (w.heap.size + 1) (PutEnd k w) := by
  rintro _ W' row ⟨v, h4, h5, h6, h7⟩ hg hr
  obtain ⟨g1, g2, g3, g4⟩ := box_row_calm h4 h5 h6 h7 hg hr
  exact ⟨v, g1, g2, g3, g4⟩

/-- what an append to the box's slice, and the store back, leave -/
theorem put_appended {W w1 : World} {H : Nat} {v v' : Value} {k m : Nat} {xs ys : List Value} {tmp : Obj}
    (hv : Boxed W H 59 v) (hrow : W.ownsRow (H + 2) 5 1 v k xs) (hs : H + 2 ≤ W.heap.size) (hown' : w1.ownsRow (H + 2) 5 1 v' m ys) (hgrow : (W.alloc tmp).grownBy w1 v.ownBlock) :
    Boxed w1 H 59 v ∧ Boxed (w1.setCell ⟨H, 0, none⟩ v') H 59 v' ∧ (w1.setCell ⟨H, 0, none⟩ v').ownsRow (H + 2) 5 1 v' m ys ∧ KeepsOthers W (w1.setCell ⟨H, 0, none⟩ v') ∧
      Below H W (w1.setCell ⟨H, 0, none⟩ v') ∧ (w1.setCell ⟨H, 0, none⟩ v').heap[H + 1]? = W.heap[H + 1]? ∧ H + 2 ≤ (w1.setCell ⟨H, 0, none⟩ v').heap.size := by
  have hlow : ∀ j, v.ownBlock = some j → H + 2 ≤ j := fun j e => (hrow.lt j e).1
  have hv1 : Boxed w1 H 59 v := (hv.alloc tmp).kept hgrow (fun e => by have := hlow _ e.symm; omega)
  have hsz : W.heap.size + 1 ≤ w1.heap.size := by have := hgrow.size; simpa using this
  refine ⟨hv1, hv1.set v', hown'.kept (grownBy_setCell' w1 H v') (.inr (fun e => by have := (hown'.lt _ e).1; omega)), ?_, ?_, ?_, ?_⟩
  · refine ((KeepsOthers.alloc W tmp).trans (KeepsOthers.of_grownBy hgrow fun j o ej hj => ?_)).trans (KeepsOthers.setCell _ _ _)
    rcases (hrow.alloc tmp).2 with ⟨rfl, _⟩ | ⟨g, cap, cur, rfl, _, hgb, _⟩
    · simp [Value.ownBlock] at ej
    · obtain rfl : g = j := by simpa [Value.ownBlock] using ej
      rw [hgb] at hj; cases hj; rfl
  · exact (((Below.refl H W).alloc (by omega) tmp).grown hgrow (by simp; omega) (fun j ej => by have := hlow j ej; omega)).setCell (p := ⟨H, 0, none⟩) (Nat.le_refl _) v'
  · rw [Below.heap_setCell _ _ _ _ (by show H + 1 ≠ H; omega), hgrow.block (H + 1) (by simp; omega) (fun e => by have := hlow _ e.symm; omega), Below.heap_alloc _ _ _ (by omega)]
  · have := (Below.refl H w1).setCell (p := ⟨H, 0, none⟩) (Nat.le_refl _) v'
    have := this.size
    omega

/-- one group more was appended -/
theorem putAt_step {k : Int} {w W1 : World} {z : Nat} {done : List UInt8} {f : Nat} {b : UInt8} {v' : Value} (h1 : f + done.length = 8) (h2 : z < 128 ^ (f + 1)) (h3 : done ++ WireP.encF f z = WireP.enc (WireP.zz k))
    (hb : b = UInt8.ofNat (if z < 128 then z else z % 128 + 128)) (g1 : Boxed W1 w.heap.size 59 v') (g2 : W1.ownsRow (w.heap.size + 2) 5 1 v' (done.length + 1) (u8s done ++ [.int .u8 (b.toNat : Int)]))
    (g3 : Below w.heap.size w W1) (g4 : w.heap.size + 2 ≤ W1.heap.size) : if z < 128 then PutEnd k w W1 else PutAt k w (z / 128) W1 := by
  have e : u8s done ++ [.int .u8 (b.toNat : Int)] = u8s (done ++ [b]) := by simp [u8s]
  rw [e] at g2
  by_cases hz : z < 128
  · rw [if_pos hz]
    rw [if_pos hz] at hb
    have he : WireP.encF f z = [b] := by
      rw [hb]
      cases f with
      | zero => rfl
      | succ f => rw [WireP.encF, if_pos hz]
    rw [he] at h3
    refine ⟨v', g1, ?_, g3, g4⟩
    rw [← h3, List.length_append]
    exact g2
  · rw [if_neg hz]
    rw [if_neg hz] at hb
    cases f with
    | zero => omega
    | succ f =>
      rw [WireP.encF, if_neg hz, ← hb] at h3
      exact ⟨done ++ [b], f, v', by simp; omega, pow_div h2, by simpa using h3, g1, by rw [List.length_append]; exact g2, g3, g4⟩
end Go.Proofs.YtfiabonacpepnaaGreatDoor.Fb
