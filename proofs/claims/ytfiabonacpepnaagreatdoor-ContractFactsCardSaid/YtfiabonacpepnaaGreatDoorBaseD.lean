/- A block of bytes that came of a string: []byte(s). -/
import Derived.Test.YtfiabonacpepnaaGreatDoorBaseC
import Derived.Lib.ConvBytes
namespace Go.Proofs.YtfiabonacpepnaaGreatDoor
open Go Go.RowKit

/-- block B is the row cs, its frozen range fr -/
def RowF (w : World) (B : Nat) (e : TypeId) (fr : Nat × Nat) (cs : Array Value) : Prop := w.heap[B]? = some (.cells cs e fr)
section
variable {w w' : World} {B : Nat} {e : TypeId} {fr : Nat × Nat} {cs : Array Value}
theorem RowF.lt (h : RowF w B e fr cs) : B < w.heap.size := (Array.getElem?_eq_some_iff.1 h).1
theorem RowF.cell (h : RowF w B e fr cs) (i : Nat) : w.cell? ⟨B, i, none⟩ = cs[i]? := by unfold RowF at h; simp [World.cell?, h]
theorem RowF.free (h : RowF w B e fr cs) (i : Nat) (hi : i < fr.1) : w.frozen? ⟨B, i, none⟩ = false := by unfold RowF at h; simp [World.frozen?, h]; omega
theorem RowF.set (h : RowF w B e fr cs) (i : Nat) (u : Value) : RowF (w.setCell ⟨B, i, none⟩ u) B e fr (cs.setIfInBounds i u) := by
  unfold RowF at h ⊢
  simp [World.setCell, Array.getElem?_modify, h]
theorem RowF.below {C : Nat} (h : RowF w B e fr cs) (hb : Below C w w') (hg : B < C) : RowF w' B e fr cs := (hb.block B hg).trans h
theorem RowF.drew (h : RowF w B e fr cs) : RowF w.drew B e fr cs := h
theorem RowF.drewN (h : RowF w B e fr cs) (n : Nat) : RowF (w.drewN n) B e fr cs := h
end

theorem bytesWorld_row (w : World) (e : TypeId) (s : ByteArray) : ∃ (cs : Array Value) (n : Nat), s.size ≤ n ∧ cs.size = n ∧ RowF (Lib.bytesWorld w e s) w.heap.size e (n, n + 1) cs ∧ ∀ j, j < s.size → cs[j]? = (u8s s.data.toList)[j]? := by
  refine ⟨Lib.bytesCells w e s, (Lib.bytesCells w e s).size, ?_, rfl, Lib.bytesWorld_at_new w e s, fun j hj => ?_⟩
  · simp [Lib.bytesCells]
  · have h := Lib.bytesWorld_cell w e s j hj
    rw [RowF.cell (Lib.bytesWorld_at_new w e s) j] at h
    rw [h]
    unfold u8s
    rw [List.getElem?_map, List.getElem?_eq_getElem (by simpa using hj)]
    simp [hj]
theorem bytesWorld_below (w : World) (e : TypeId) (s : ByteArray) : Below w.heap.size w (Lib.bytesWorld w e s) :=
  ⟨rfl, rfl, rfl, by rw [Lib.bytesWorld_size]; omega, fun k hk => Lib.bytesWorld_at_old w e s k hk⟩
end Go.Proofs.YtfiabonacpepnaaGreatDoor
