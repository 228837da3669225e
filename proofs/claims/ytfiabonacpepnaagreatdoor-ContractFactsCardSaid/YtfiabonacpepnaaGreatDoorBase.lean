/- Small lemmas on strings as lists of bytes. -/
import Derived.WalkKit
import Derived.Lib.Hide
namespace Go.Proofs.YtfiabonacpepnaaGreatDoor
open Go Go.RowKit

theorem extract_list (s : ByteArray) (a m : Nat) : s.extract a (a + m) = ⟨((s.data.toList.drop a).take m).toArray⟩ := by
  apply ByteArray.ext
  rw [ByteArray.data_extract]
  apply Array.ext'
  rw [Array.toList_extract]
  simp [List.extract]
theorem bytes_eta (s : ByteArray) : s = ⟨s.data.toList.toArray⟩ := by
  cases s; simp
theorem append_list (a b : List UInt8) : (⟨a.toArray⟩ : ByteArray) ++ ⟨b.toArray⟩ = ⟨(a ++ b).toArray⟩ := by
  apply ByteArray.ext
  rw [ByteArray.data_append]; simp
theorem append_right (a : List UInt8) (s : ByteArray) : (⟨a.toArray⟩ : ByteArray) ++ s = ⟨(a ++ s.data.toList).toArray⟩ := by
  rw [← append_list, ← bytes_eta]

def u8s (l : List UInt8) : List Value := l.map fun b => .int .u8 (b.toNat : Int)

theorem fold_push (l : List UInt8) : ∀ r : ByteArray, (l.map fun b => (b.toNat : Int)).foldl (fun r n => r.push (UInt8.ofNat n.toNat)) r = ⟨(r.data.toList ++ l).toArray⟩ := by
  induction l with
  | nil => intro r; simp
  | cons b l ih =>
    intro r
    rw [List.map_cons, List.foldl_cons, ih]
    simp [ByteArray.push]

/-- string(b) of a row of bytes -/
theorem run_string_of_row {P : Program} (w : World) (src dst e : TypeId) (a : Addr) (len cap : Nat) (l : List UInt8)
    (hs : P.underlying src = some (.slice e)) (he : P.underlying e = some (.int .u8)) (hd : P.underlying dst = some .string) (hl : l.length = len)
    (h : ∀ j u, (u8s l)[j]? = some u → w.cell? (a.add j) = some u) :
    (convert src dst (.slice (some a) len cap)).run P w = .ok (.string ⟨l.toArray⟩) w := by
  rw [run_convert_bytes_string w src dst e (some a) len cap hs he hd]
  have e1 : (u8s l) = (l.map fun b => (b.toNat : Int)).map (Value.int .u8) := by simp [u8s]
  have e2 : (loadCells a len).run P w = .ok ((l.map fun b => (b.toNat : Int)).map (Value.int .u8)).toArray w := by
    rw [← e1]
    have := run_loadCells_list (P := P) (w := w) a (u8s l) h
    rwa [show (u8s l).length = len by simp [u8s, hl]] at this
  rw [run_bytesToString w a len cap _ e2, fold_push]
  rfl
end Go.Proofs.YtfiabonacpepnaaGreatDoor
