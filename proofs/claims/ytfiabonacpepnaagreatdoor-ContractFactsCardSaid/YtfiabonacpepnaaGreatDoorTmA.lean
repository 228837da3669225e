/- Lists of structs of integers: read, and made by append. -/
import Derived.WalkKit
import Derived.Test.YtfiabonacpepnaaGreatDoorBaseC
import Derived.Deep.WholeRow
import Derived.OneCell
import Derived.Maps.AppendAt
import Derived.Laws.OwnMore
namespace Go.Proofs.YtfiabonacpepnaaGreatDoor
open Go Go.RowKit

/-- the cells of a list of structs of integers -/
def iCells (L : List (List Int)) : List Value := L.flatMap fun r => r.map (Value.int .i64)
theorem iCells_len {k : Nat} : ∀ {L : List (List Int)}, (∀ r ∈ L, r.length = k) → (iCells L).length = L.length * k
  | [], _ => by simp [iCells]
  | r :: L, h => by
    have e : iCells (r :: L) = r.map (Value.int .i64) ++ iCells L := rfl
    rw [e, List.length_append, List.length_map, h r (by simp), iCells_len fun x hx => h x (by simp [hx]), List.length_cons, Nat.succ_mul]
    omega
theorem iCells_app (L M : List (List Int)) : iCells (L ++ M) = iCells L ++ iCells M := by simp [iCells]
theorem iCells_one (r : List Int) : iCells [r] = r.map (Value.int .i64) := by simp [iCells]
theorem iCells_ones (L : List (List Int)) : ∀ u ∈ iCells L, u.oneCell' = true := by
  intro u hu
  simp only [iCells, List.mem_flatMap, List.mem_map] at hu
  obtain ⟨r, _, x, _, rfl⟩ := hu
  rfl
theorem iCells_get {k : Nat} : ∀ {L : List (List Int)}, (∀ r ∈ L, r.length = k) → ∀ (i : Nat) (r : List Int), L[i]? = some r → ∀ j x, r[j]? = some x → (iCells L)[i * k + j]? = some (.int .i64 x)
  | [], _, i, r, h, _, _, _ => by simp at h
  | z :: L, hk, i, r, h, j, x, hx => by
    have e : iCells (z :: L) = z.map (Value.int .i64) ++ iCells L := rfl
    have hz : z.length = k := hk z (by simp)
    have hr : r.length = k := hk r (List.mem_of_getElem? h)
    have hj : j < k := by rw [← hr]; exact (List.getElem?_eq_some_iff.1 hx).1
    cases i with
    | zero =>
      simp at h
      subst h
      rw [e, Nat.zero_mul, Nat.zero_add, List.getElem?_append_left (by rw [List.length_map, hz]; exact hj), List.getElem?_map, hx]
      rfl
    | succ i =>
      rw [e, List.getElem?_append_right (by rw [List.length_map, hz, Nat.succ_mul]; omega), List.length_map, hz, show (i + 1) * k + j - k = i * k + j from by rw [Nat.succ_mul]; omega]
      exact iCells_get (fun x hx => hk x (by simp [hx])) i r (by simpa using h) j x hx

/-- v is a slice of structs of k integers that reads as L -/
def IRows (k : Nat) (w : World) (v : Value) (L : List (List Int)) : Prop :=
  (∀ r ∈ L, r.length = k) ∧ ((L = [] ∧ ∃ A c, v = .slice A 0 c) ∨ ∃ b o c, v = .slice (some ⟨b, o, none⟩) L.length c ∧ b < w.heap.size ∧ ∀ (i : Nat) r, L[i]? = some r → ∀ (j : Nat) x, r[j]? = some x → w.cell? ⟨b, o + i * k + j, none⟩ = some (.int .i64 x))
theorem IRows.below {k : Nat} {w w' : World} {v : Value} {L : List (List Int)} (h : IRows k w v L) (hb : Below w.heap.size w w') : IRows k w' v L := by
  refine ⟨h.1, ?_⟩
  rcases h.2 with h0 | ⟨b, o, c, hv, hlt, hc⟩
  · exact .inl h0
  · exact .inr ⟨b, o, c, hv, Nat.lt_of_lt_of_le hlt hb.size, fun i r hr j x hx => (hb.cell (p := ⟨b, o + i * k + j, none⟩) hlt).trans (hc i r hr j x hx)⟩
theorem IRows.slice {k : Nat} {w : World} {v : Value} {L : List (List Int)} (h : IRows k w v L) : ∃ A c, v = .slice A L.length c := by
  rcases h.2 with ⟨rfl, A, c, rfl⟩ | ⟨b, o, c, rfl, _⟩
  · exact ⟨A, c, rfl⟩
  · exact ⟨_, c, rfl⟩
/-- the same over a block of the call's own, from the block 'base' on -/
def OwnI (T : TypeId) (k : Nat) (w : World) (base : Nat) (v : Value) (L : List (List Int)) : Prop := (∀ r ∈ L, r.length = k) ∧ w.ownsRow base T k v L.length (iCells L)
theorem OwnI.nil (T : TypeId) (k : Nat) (w : World) (base : Nat) : OwnI T k w base (.slice none 0 0) [] := ⟨by simp, World.ownsRow_nil _ _ _ _⟩
theorem OwnI.rows {T : TypeId} {k : Nat} {w : World} {base : Nat} {v : Value} {L : List (List Int)} (h : OwnI T k w base v L) : IRows k w v L := by
  refine ⟨h.1, ?_⟩
  rcases h.2.2 with ⟨rfl, hn⟩ | ⟨g, cap, cur, rfl, _, hg, hnc, _, hcs, ht⟩
  · exact .inl ⟨List.length_eq_zero_iff.1 hn, none, 0, rfl⟩
  · refine .inr ⟨g, 0, cap, rfl, (Array.getElem?_eq_some_iff.1 hg).1, fun i r hi j x hx => ?_⟩
    have h1 := iCells_get h.1 i r hi j x hx
    rw [← ht] at h1
    rw [cell_of_row _ _ _ _ _ _ hg, Nat.zero_add, ← Array.getElem?_toList]
    rw [List.getElem?_take] at h1
    split at h1
    · exact h1
    · cases h1
theorem OwnI.below {T : TypeId} {k : Nat} {w w' : World} {base : Nat} {v : Value} {L : List (List Int)} (h : OwnI T k w base v L) (hb : Below w.heap.size w w') : OwnI T k w' base v L := by
  refine ⟨h.1, h.2.1, ?_⟩
  rcases h.2.2 with h0 | ⟨g, cap, cur, hv, hbg, hg, rest⟩
  · exact .inl h0
  · exact .inr ⟨g, cap, cur, hv, hbg, (hb.block g (Array.getElem?_eq_some_iff.1 hg).1).trans hg, rest⟩
theorem OwnI.mono {T : TypeId} {k : Nat} {w : World} {b c : Nat} {v : Value} {L : List (List Int)} (h : OwnI T k w c v L) (hb : b ≤ c) : OwnI T k w b v L := by
  refine ⟨h.1, h.2.1, ?_⟩
  rcases h.2.2 with h0 | ⟨g, cap, cur, hv, hbg, rest⟩
  · exact .inl h0
  · exact .inr ⟨g, cap, cur, hv, by omega, rest⟩
/-- blocks that are not its own may change -/
theorem OwnI.kept {T : TypeId} {k : Nat} {w w' : World} {base : Nat} {v : Value} {L : List (List Int)} (h : OwnI T k w base v L) (ho : ∀ g, v.ownBlock = some g → w'.heap[g]? = w.heap[g]?) : OwnI T k w' base v L := by
  refine ⟨h.1, h.2.1, ?_⟩
  rcases h.2.2 with h0 | ⟨g, cap, cur, hv, hbg, hg, rest⟩
  · exact .inl h0
  · subst hv
    exact .inr ⟨g, cap, cur, rfl, hbg, (ho g rfl).trans hg, rest⟩
theorem OwnI.lt {T : TypeId} {k : Nat} {w : World} {base : Nat} {v : Value} {L : List (List Int)} (h : OwnI T k w base v L) : ∀ g, v.ownBlock = some g → base ≤ g ∧ g < w.heap.size := World.ownsRow.lt h.2
/-- the cells of one struct laid in a block of its own -/
theorem irow_new (w : World) (r : List Int) (t : TypeId) : ∀ (j : Nat) u, (r.map (Value.int .i64))[j]? = some u → (w.alloc (.cells (r.map (Value.int .i64)).toArray t)).cell? ((⟨w.heap.size, 0, none⟩ : Addr).add j) = some u := by
  intro j u h
  have := cell_of_row _ _ j _ _ _ (heap_alloc_last w (.cells (r.map (Value.int .i64)).toArray t))
  have e : ((⟨w.heap.size, 0, none⟩ : Addr).add j) = ⟨w.heap.size, j, none⟩ := by cases j <;> simp [Addr.add]
  rw [e, this]
  simpa using h
/-- append of one struct -/
theorem wpList_append_irow {P : Program} {ops : Array Oper} {rest : List Oper} {o : Oper} {a : Act} {w : World} {Q : Exit → Act → World → Prop} {TS T : TypeId} {k bytes : Nat} {z : Value} {i : TypeInfo}
    (hu : P.underlying TS = some (.slice T)) (hi : P.info? T = some i) (hz0 : i.zero = some z) (hz1 : i.size = k) (hz2 : i.bytes = bytes) (hzs : z.cells.size = k) (hk : 0 < k) (hby : bytes ≤ 64)
    (s x : Operand) (base : Nat) (L : List (List Int)) (r : List Int) (hr : r.length = k) (b c : Nat) (v : Value) (hown : OwnI T k w base v L) (hlen : L.length ≤ 1000000) (hbase : base ≤ w.heap.size)
    (hnews : ∀ (j : Nat) u, (r.map (Value.int .i64))[j]? = some u → w.cell? ((⟨b, 0, none⟩ : Addr).add j) = some u)
    (hgd : o.guard = none) (ho : o.op = .call { callee := .builtin .append, args := #[s, x], argTypes := #[TS, TS] })
    (hs : a.eval s = v) (hx : a.eval x = .slice (some ⟨b, 0, none⟩) 1 c)
    (h : ∀ v' w', OwnI T k w' base v' (L ++ [r]) → w.grownBy w' v.ownBlock → (v'.ownBlock = v.ownBlock ∨ v'.ownBlock = some w.heap.size) → wpList P ops Q rest (a.put o.dst v') w') : wpList P ops Q (o :: rest) a w := by
  refine wpList_append_own_at _ hgd s x TS ho base T i z k bytes hu hi hz0 hz1 hz2 hzs hk v L.length (iCells L) hs hown.2 ⟨b, 0, none⟩ 1 c (r.map (Value.int .i64)) hx (by rw [List.length_map, hr, Nat.one_mul]) hnews (by have := iCells_ones [r]; rwa [iCells_one] at this) (by unfold maxLen; omega) ?_ hbase fun v' w' h1 h2 _ h4 => h v' w' ⟨?_, ?_⟩ h2 h4
  · have : (L.length + 1) * bytes ≤ (L.length + 1) * 64 := Nat.mul_le_mul_left _ hby
    omega
  · intro y hy
    rcases List.mem_append.1 hy with h0 | h0
    · exact hown.1 y h0
    · rw [List.mem_singleton.1 h0]; exact hr
  · rw [iCells_app, iCells_one, List.length_append]
    exact h1
end Go.Proofs.YtfiabonacpepnaaGreatDoor
