/- Slices of integers and of strings among a statement's arguments: what a walk asks of them. -/
import Derived.Test.YtfiabonacpepnaaGreatDoorLaw
import Derived.SliceStrings
import Derived.SizedLaws
namespace Go.Proofs.YtfiabonacpepnaaGreatDoor
open Go Go.ChangeShapes Go.WideShapes Go.ChangeAt Go.RowKit

theorem lt_of_cell {W : World} {a : Addr} {v : Value} (h : W.cell? a = some v) : a.block < W.heap.size := by
  unfold World.cell? at h
  rcases Nat.lt_or_ge a.block W.heap.size with hl | hl
  · exact hl
  · simp [Array.getElem?_eq_none hl] at h
theorem spot_of_cell {W : World} {a : Addr} {v : Value} (h : W.cell? a = some v) : a = ⟨a.block, a.off, none⟩ := by
  obtain ⟨b, off, spot⟩ := a
  have hspot : spot = none := by simpa [Addr.add] using World.cell?_spot h
  subst hspot; rfl
theorem add_plain' (b off i : Nat) : (⟨b, off, none⟩ : Addr).add i = ⟨b, off + i, none⟩ := Go.WideShapes.add_plain b off i

/-- a slice of integers that is empty, or lies in memory -/
def IntsIn (W : World) (A : Option Addr) (n : Nat) : Prop :=
  n = 0 ∨ ∃ (b o : Nat) (xs : Nat → Int), A = some ⟨b, o, none⟩ ∧ b < W.heap.size ∧ ∀ i, i < n → W.cell? ⟨b, o + i, none⟩ = some (.int .i64 (xs i)) ∧ -9223372036854775808 ≤ xs i ∧ xs i ≤ 9223372036854775807
def StrsIn (W : World) (A : Option Addr) (n : Nat) : Prop :=
  n = 0 ∨ ∃ (b o : Nat) (ss : Nat → ByteArray), A = some ⟨b, o, none⟩ ∧ b < W.heap.size ∧ ∀ i, i < n → W.cell? ⟨b, o + i, none⟩ = some (.string (ss i))

section
variable {H : Type} {P : Program} {W : World} {A : Option Addr} {n c : Nat} {d : DataW H} {p : List MemPlace} {ts : List TypeId} {ds : List (DataW H)} {j : Nat} {t e : TypeId}
theorem ints_part (hsz : (DataW.weightsEach P ts ds).all (· ≤ reachBytes) = true) (ht : ts[j]? = some t) (hd : ds[j]? = some d) (hu : P.underlying t = some (.slice e)) (hbe : P.bytesOf e = 8)
    (O : ((Value.slice A n c).cells.toList = [.slice none 0 0] ∧ (d, p) = (.nil, [])) ∨
      ∃ (a : Addr) (len cap : Nat) (zs : List Int), (Value.slice A n c).cells.toList = [.slice (some a) len cap] ∧ 0 ≤ a.block ∧ len ≤ cap ∧ cap ≤ maxLen ∧ zs.length = (if (fun _ => true : Nat → Bool) a.block then cap else len) ∧
        (d, p) = (.slice (lits .i64 (zs.take len)) (lits .i64 (zs.drop len)), MemPlace.row a zs.length) ∧ (∀ i, i < zs.length → W.cell? (a.add i) = some (.int .i64 (zs.getD i 0))) ∧ (∀ n ∈ zs, (Lit.int .i64 n).wf = true)) :
    n ≤ 140737488351232 ∧ IntsIn W A n := by
  rcases O with ⟨hc, _⟩ | ⟨a, len, cap, zs, hc, _, hlc, _, hz, hx, hcell, hwf⟩
  · simp [Value.cells] at hc
    exact ⟨by omega, .inl hc.2.1⟩
  · simp only [Value.cells, List.cons.injEq, Value.slice.injEq, and_true] at hc
    obtain ⟨rfl, rfl, rfl⟩ := hc
    simp only [Prod.mk.injEq] at hx
    obtain ⟨rfl, rfl⟩ := hx
    simp only [if_true] at hz
    have hs := sized_slice hsz ht hd hu
    rw [hbe] at hs
    simp only [lits, List.length_map, List.length_take, List.length_drop, reachBytes] at hs
    refine ⟨by omega, ?_⟩
    by_cases h0 : n = 0
    · exact .inl h0
    · have h00 := hcell 0 (by omega)
      have hsp := spot_of_cell (a := a) (by simpa [Addr.add] using h00)
      refine .inr ⟨a.block, a.off, fun i => zs.getD i 0, congrArg some hsp, lt_of_cell (a := a) (by simpa [Addr.add] using h00), fun i hi => ⟨?_, ?_⟩⟩
      · have := hcell i (by omega)
        rw [hsp, add_plain'] at this
        exact this
      · have hm : zs.getD i 0 ∈ zs := by
          rw [List.getD_eq_getElem?_getD, List.getElem?_eq_getElem (by omega)]; exact List.getElem_mem _
        exact bounds_i64 (hwf _ hm)
theorem strs_part (hsz : (DataW.weightsEach P ts ds).all (· ≤ reachBytes) = true) (ht : ts[j]? = some t) (hd : ds[j]? = some d) (hu : P.underlying t = some (.slice e)) (hbe : P.bytesOf e = 16)
    (O : ((Value.slice A n c).cells.toList = [.slice none 0 0] ∧ (d, p) = (.nil, [])) ∨
      ∃ (a : Addr) (len cap : Nat) (ss : List ByteArray), (Value.slice A n c).cells.toList = [.slice (some a) len cap] ∧ 0 ≤ a.block ∧ len ≤ cap ∧ cap ≤ maxLen ∧ ss.length = (if (fun _ => true : Nat → Bool) a.block then cap else len) ∧
        (d, p) = (.slice (strs (ss.take len)) (strs (ss.drop len)), MemPlace.row a ss.length) ∧ (∀ i, i < ss.length → W.cell? (a.add i) = some (.string (ss.getD i ByteArray.empty))) ∧ (∀ s ∈ ss, s.size ≤ maxLen)) :
    n ≤ 140737488351232 ∧ StrsIn W A n := by
  rcases O with ⟨hc, _⟩ | ⟨a, len, cap, ss, hc, _, hlc, _, hz, hx, hcell, _⟩
  · simp [Value.cells] at hc
    exact ⟨by omega, .inl hc.2.1⟩
  · simp only [Value.cells, List.cons.injEq, Value.slice.injEq, and_true] at hc
    obtain ⟨rfl, rfl, rfl⟩ := hc
    simp only [Prod.mk.injEq] at hx
    obtain ⟨rfl, rfl⟩ := hx
    simp only [if_true] at hz
    have hs := sized_slice hsz ht hd hu
    rw [hbe] at hs
    simp only [strs, List.length_map, List.length_take, List.length_drop, reachBytes] at hs
    refine ⟨by omega, ?_⟩
    by_cases h0 : n = 0
    · exact .inl h0
    · have h00 := hcell 0 (by omega)
      have hsp := spot_of_cell (a := a) (by simpa [Addr.add] using h00)
      refine .inr ⟨a.block, a.off, fun i => ss.getD i ByteArray.empty, congrArg some hsp, lt_of_cell (a := a) (by simpa [Addr.add] using h00), fun i hi => ?_⟩
      have := hcell i (by omega)
      rw [hsp, add_plain'] at this
      exact this
end
end Go.Proofs.YtfiabonacpepnaaGreatDoor
