import Derived.WalkKit
import Derived.ProofKit
import Derived.OpenShut
import Derived.Deep.DeepHandedRow
import Derived.Lib.LaidTab
import Derived.Carry
import Derived.SliceStrings
import Derived.SizedLaws
namespace Go.Proofs.YtgjajhopjcdflaaGreat
open Go Go.ChangeShapes Go.WideShapes Go.ChangeAt Go.RowKit
open Go.ChangeMaps (open_string)

section
variable {H : Type} {enc : TypeId × Value → H} {P : Program}
theorem trodAll_below (hl : laidOutB P = true) {W W' : World} (hb : Below W.heap.size W W') : ∀ (ts : List TypeId) (vs : List Value) (ds : List (DataW H)) (ps : List MemPlace),
    (ts.all fun t => P.readableRec t && decide (t < P.types.size)) = true → DataW.TrodAll enc P W 0 (fun _ => true) true ts vs ds ps → (∀ x ∈ ps, x.block < W.heap.size) →
    DataW.TrodAll enc P W' 0 (fun b => decide (b < W.heap.size)) true ts vs ds ps := by
  intro ts
  induction ts with
  | nil =>
    intro vs ds ps _ h _
    obtain ⟨rfl, rfl, rfl⟩ := trodAll_nil h
    exact trodAll_mk0
  | cons t ts ih =>
    intro vs ds ps hall h hlt
    obtain ⟨v, vs', d, ds', p, q, rfl, rfl, rfl, h1, h2⟩ := trodAll_cons h
    simp only [List.all_cons, Bool.and_eq_true, decide_eq_true_eq] at hall
    exact trodAll_cons_mk (Below.trod hl hall.1.1 hall.1.2 h1 hb (fun x hx => hlt x (by simp [hx]))) (ih vs' ds' q (by simpa using hall.2) h2 (fun x hx => hlt x (by simp [hx])))

theorem law_post {f : Func} {s : ChangeSpec} {apart : Bool} {W W' : World} {args : Array Value} {ds gs : List (DataW H)} {before : List MemPlace} {tb : TypeId}
    (hW : DataW.Whole enc P f.params.toList s.vars apart W args.toList ds gs before) (hv : s.vars = []) (hl : laidOutB P = true)
    (hp : (f.params.toList.all fun t => P.readableRec t && decide (t < P.types.size)) = true) (hrt : f.resultTypes = #[tb]) (htb : P.underlying tb = some .bool)
    (hres : (s.fn H (ds ++ gs)).results = [.lit (.bool true)]) (hargs : (s.fn H (ds ++ gs)).args = ds) (hvs : (s.fn H (ds ++ gs)).vars = []) (hb : Below W.heap.size W W') :
    s.post enc P f apart true false false W args (.bool true) W' := by
  have hW' := hW
  have hlt : ∀ p ∈ before, p.block < W.heap.size := fun p hp => hW.lt p hp
  obtain ⟨p, q, hA, hV, rfl, _, _⟩ := hW
  refine ⟨ds, gs, p ++ q, [], p, [], hW', ?_, ?_, ?_, hb.frame _, fun h => by cases h⟩
  · rw [hres, hrt]
    exact trodAll_cons_mk (shut_bool htb _) trodAll_mk0
  · rw [hargs]
    exact trodAll_below hl hb _ _ _ _ hp hA (fun x hx => hlt x (by simp [hx]))
  · rw [hvs, hv]
    rfl

/-- an array of two strings, by value -/
theorem open_arr2 {r : Reach} {b0 base : Nat} {sp : Nat → Bool} {hd : Bool} {w : World} {t e : TypeId} {v : Value} {d : DataW H} {ps : List MemPlace} (ht : P.underlying t = some (.array 2 e)) (he : P.underlying e = some .string) (hce : P.cellsOf e = 1) (hct : P.cellsOf t = 2)
    (hv : Value.okWide P w r b0 t v) (h : DataW.Trod enc P w base sp hd t v d ps) : ∃ s0 s1 : ByteArray, v = .agg #[.string s0, .string s1] := by
  simp only [Value.okWide, ht] at hv
  obtain ⟨cs, rfl, hsz, _⟩ := hv
  rw [hct] at hsz
  obtain ⟨fuel, hf⟩ := h
  obtain ⟨xs, m, _, _, _, hlen, hi⟩ := DataW.trod_array ht hf
  obtain ⟨l⟩ := cs
  match l, hsz with
  | [c0, c1], _ =>
    have h0 := hi 0 (by omega)
    have h1 := hi 1 (by omega)
    simp only [hce, Value.cells] at h0 h1
    rw [List.getElem?_eq_getElem (by omega)] at h0 h1
    obtain ⟨s0, e0, _⟩ := DataW.trod_string he h0
    obtain ⟨s1, e1, _⟩ := DataW.trod_string he h1
    simp at e0 e1
    exact ⟨s0, s1, by rw [e0, e1]⟩
end
end Go.Proofs.YtgjajhopjcdflaaGreat
namespace Go.Proofs.YtgjajhopjcdflaaGreat
open Go Go.ChangeShapes Go.WideShapes Go.ChangeAt Go.RowKit

theorem lt_of_cell {W : World} {a : Addr} {v : Value} (h : W.cell? a = some v) : a.block < W.heap.size := by
  unfold World.cell? at h
  rcases Nat.lt_or_ge a.block W.heap.size with hl | hl
  · exact hl
  · simp [Array.getElem?_eq_none hl] at h
theorem spot_of_cell {W : World} {a : Addr} {v : Value} (h : W.cell? a = some v) : a = ⟨a.block, a.off, none⟩ := by
  obtain ⟨b, off, spot⟩ := a
  have hspot : spot = none := by simpa [Addr.add] using World.cell?_spot h
  subst hspot; rfl
theorem add_plain' (b off i : Nat) : (⟨b, off, none⟩ : Addr).add i = ⟨b, off + i, none⟩ := Go.WideShapes.add_plain b off i

/-- a slice of integers that is empty, or lies in memory -/
def IntsIn (W : World) (A : Option Addr) (n : Nat) : Prop :=
  n = 0 ∨ ∃ (b o : Nat) (xs : Nat → Int), A = some ⟨b, o, none⟩ ∧ b < W.heap.size ∧ ∀ i, i < n → W.cell? ⟨b, o + i, none⟩ = some (.int .i64 (xs i)) ∧ -9223372036854775808 ≤ xs i ∧ xs i ≤ 9223372036854775807
def StrsIn (W : World) (A : Option Addr) (n : Nat) : Prop :=
  n = 0 ∨ ∃ (b o : Nat) (ss : Nat → ByteArray), A = some ⟨b, o, none⟩ ∧ b < W.heap.size ∧ ∀ i, i < n → W.cell? ⟨b, o + i, none⟩ = some (.string (ss i))

section
variable {H : Type} {P : Program} {W : World} {A : Option Addr} {n c : Nat} {d : DataW H} {p : List MemPlace} {ts : List TypeId} {ds : List (DataW H)} {j : Nat} {t e : TypeId}
theorem ints_part (hsz : (DataW.weightsEach P ts ds).all (· ≤ reachBytes) = true) (ht : ts[j]? = some t) (hd : ds[j]? = some d) (hu : P.underlying t = some (.slice e)) (hbe : P.bytesOf e = 8)
    (O : ((Value.slice A n c).cells.toList = [.slice none 0 0] ∧ (d, p) = (.nil, [])) ∨
      ∃ (a : Addr) (len cap : Nat) (zs : List Int), (Value.slice A n c).cells.toList = [.slice (some a) len cap] ∧ 0 ≤ a.block ∧ len ≤ cap ∧ cap ≤ maxLen ∧ zs.length = (if (fun _ => true : Nat → Bool) a.block then cap else len) ∧
        (d, p) = (.slice (lits .i64 (zs.take len)) (lits .i64 (zs.drop len)), MemPlace.row a zs.length) ∧ (∀ i, i < zs.length → W.cell? (a.add i) = some (.int .i64 (zs.getD i 0))) ∧ (∀ n ∈ zs, (Lit.int .i64 n).wf = true)) :
    n ≤ 140737488351232 ∧ IntsIn W A n := by
  rcases O with ⟨hc, _⟩ | ⟨a, len, cap, zs, hc, _, hlc, _, hz, hx, hcell, hwf⟩
  · simp [Value.cells] at hc
    exact ⟨by omega, .inl hc.2.1⟩
  · simp only [Value.cells, List.cons.injEq, Value.slice.injEq, and_true] at hc
    obtain ⟨rfl, rfl, rfl⟩ := hc
    simp only [Prod.mk.injEq] at hx
    obtain ⟨rfl, rfl⟩ := hx
    simp only [if_true] at hz
    have hs := sized_slice hsz ht hd hu
    rw [hbe] at hs
    simp only [lits, List.length_map, List.length_take, List.length_drop, reachBytes] at hs
    refine ⟨by omega, ?_⟩
    by_cases h0 : n = 0
    · exact .inl h0
    · have h00 := hcell 0 (by omega)
      have hsp := spot_of_cell (a := a) (by simpa [Addr.add] using h00)
      refine .inr ⟨a.block, a.off, fun i => zs.getD i 0, congrArg some hsp, lt_of_cell (a := a) (by simpa [Addr.add] using h00), fun i hi => ⟨?_, ?_⟩⟩
      · have := hcell i (by omega)
        rw [hsp, add_plain'] at this
        exact this
      · have hm : zs.getD i 0 ∈ zs := by
          rw [List.getD_eq_getElem?_getD, List.getElem?_eq_getElem (by omega)]; exact List.getElem_mem _
        exact bounds_i64 (hwf _ hm)
theorem strs_part (hsz : (DataW.weightsEach P ts ds).all (· ≤ reachBytes) = true) (ht : ts[j]? = some t) (hd : ds[j]? = some d) (hu : P.underlying t = some (.slice e)) (hbe : P.bytesOf e = 16)
    (O : ((Value.slice A n c).cells.toList = [.slice none 0 0] ∧ (d, p) = (.nil, [])) ∨
      ∃ (a : Addr) (len cap : Nat) (ss : List ByteArray), (Value.slice A n c).cells.toList = [.slice (some a) len cap] ∧ 0 ≤ a.block ∧ len ≤ cap ∧ cap ≤ maxLen ∧ ss.length = (if (fun _ => true : Nat → Bool) a.block then cap else len) ∧
        (d, p) = (.slice (strs (ss.take len)) (strs (ss.drop len)), MemPlace.row a ss.length) ∧ (∀ i, i < ss.length → W.cell? (a.add i) = some (.string (ss.getD i ByteArray.empty))) ∧ (∀ s ∈ ss, s.size ≤ maxLen)) :
    n ≤ 140737488351232 ∧ StrsIn W A n := by
  rcases O with ⟨hc, _⟩ | ⟨a, len, cap, ss, hc, _, hlc, _, hz, hx, hcell, _⟩
  · simp [Value.cells] at hc
    exact ⟨by omega, .inl hc.2.1⟩
  · simp only [Value.cells, List.cons.injEq, Value.slice.injEq, and_true] at hc
    obtain ⟨rfl, rfl, rfl⟩ := hc
    simp only [Prod.mk.injEq] at hx
    obtain ⟨rfl, rfl⟩ := hx
    simp only [if_true] at hz
    have hs := sized_slice hsz ht hd hu
    rw [hbe] at hs
    simp only [strs, List.length_map, List.length_take, List.length_drop, reachBytes] at hs
    refine ⟨by omega, ?_⟩
    by_cases h0 : n = 0
    · exact .inl h0
    · have h00 := hcell 0 (by omega)
      have hsp := spot_of_cell (a := a) (by simpa [Addr.add] using h00)
      refine .inr ⟨a.block, a.off, fun i => ss.getD i ByteArray.empty, congrArg some hsp, lt_of_cell (a := a) (by simpa [Addr.add] using h00), fun i hi => ?_⟩
      have := hcell i (by omega)
      rw [hsp, add_plain'] at this
      exact this
end
end Go.Proofs.YtgjajhopjcdflaaGreat
