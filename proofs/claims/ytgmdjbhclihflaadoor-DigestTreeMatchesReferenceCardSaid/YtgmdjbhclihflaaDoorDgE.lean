/- A row of bytes that grows by one byte. -/
import Derived.Test.YtgmdjbhclihflaaDoorDgD
import Derived.Lib.FrozenHead2
namespace Go.Proofs.YtgmdjbhclihflaaDoor
open Go Go.RowKit Go.Lib

/-- v is a slice of bytes in a block from 'base' on that reads as l; what is behind it may be written -/
structure BytesAt (w : World) (base : Nat) (v : Value) (l : List UInt8) : Prop where
  ex : ∃ g cap cur fz, v = .slice (some ⟨g, 0, none⟩) l.length cap ∧ base ≤ g ∧ w.heap[g]? = some (.cells cur 5 fz) ∧ (fz = (0, 0) ∨ cur.size ≤ fz.1) ∧ l.length ≤ cap ∧ cap ≤ maxLen ∧ cur.size = cap ∧ cur.toList.take l.length = u8s l
theorem u8s_len (l : List UInt8) : (u8s l).length = l.length := by simp [u8s]
theorem u8s_app (l m : List UInt8) : u8s (l ++ m) = u8s l ++ u8s m := by simp [u8s]
theorem u8s_one (b : UInt8) : u8s [b] = [.int .u8 (b.toNat : Int)] := rfl
theorem BytesAt.below {w w' : World} {base : Nat} {v : Value} {l : List UInt8} (h : BytesAt w base v l) (hb : Below w.heap.size w w') : BytesAt w' base v l := by
  obtain ⟨g, cap, cur, fz, h1, h2, h3, h4⟩ := h.ex
  exact ⟨g, cap, cur, fz, h1, h2, (hb.block g (Array.getElem?_eq_some_iff.1 h3).1).trans h3, h4⟩
theorem BytesAt.cell {w : World} {base g n c : Nat} {l : List UInt8} (h : BytesAt w base (.slice (some ⟨g, 0, none⟩) n c) l) (j : Nat) (b : UInt8) (hj : l[j]? = some b) : w.cell? ⟨g, j, none⟩ = some (.int .u8 (b.toNat : Int)) := by
  obtain ⟨g', cap, cur, fz, h1, h2, h3, h4, h5, h6, h7, h8⟩ := h.ex
  simp only [Value.slice.injEq, Option.some.injEq, Addr.mk.injEq, and_true] at h1
  obtain ⟨rfl, rfl, rfl⟩ := h1
  rw [cell_of_row w g j cur _ fz h3, ← Array.getElem?_toList]
  have h9 : (cur.toList.take l.length)[j]? = some (.int .u8 (b.toNat : Int)) := by rw [h8]; unfold u8s; rw [List.getElem?_map, hj]; rfl
  rw [List.getElem?_take] at h9
  split at h9
  · exact h9
  · cases h9
theorem BytesAt.slice3 {w : World} {base : Nat} {v : Value} {l : List UInt8} (h : BytesAt w base v l) : ∃ g cap, v = .slice (some ⟨g, 0, none⟩) l.length cap ∧ base ≤ g ∧ g < w.heap.size ∧ l.length ≤ cap := by
  obtain ⟨g, cap, cur, fz, h1, h2, h3, h4, h5, h6, h7, h8⟩ := h.ex
  exact ⟨g, cap, h1, h2, (Array.getElem?_eq_some_iff.1 h3).1, h5⟩
/-- a store of one cell where nothing is frozen -/
theorem run_store_one (P : Program) (w : World) (g o : Nat) (t : TypeId) (fz : Nat × Nat) (cur : Array Value) (u : Value) (hg : w.heap[g]? = some (.cells cur t fz)) (ho : o < cur.size) (hf : fz = (0, 0) ∨ cur.size ≤ fz.1) (h1 : u.oneCell' = true) :
    (storeCells ⟨g, o, none⟩ [u] 0).run P w = .ok () (w.setRow g (cur.setIfInBounds o u)) := by
  have hcell : w.cell? ⟨g, o, none⟩ = some cur[o] := by simp [World.cell?, hg, ho]
  have hfro : w.frozen? ⟨g, o, none⟩ = false := by
    obtain ⟨lo, hi⟩ := fz
    simp only [World.frozen?, hg, Bool.and_eq_false_iff, decide_eq_false_iff_not]
    rcases hf with hf | hf
    · cases hf; right; omega
    · left; simp only at hf; omega
  have hadd : (⟨g, o, none⟩ : Addr).add 0 = ⟨g, o, none⟩ := by simp [Addr.add]
  simp only [storeCells, Sem.run_bind, hadd, run_store P w _ u _ h1, hcell]
  simp [hfro, setCell_eq_setRow w g o cur t fz u hg]
theorem take_set_last (l : List Value) (n : Nat) (u : Value) (h : n < l.length) : (l.set n u).take (n + 1) = l.take n ++ [u] := by
  rw [List.set_eq_take_append_cons_drop, if_pos h]
  rw [show l.take n ++ u :: l.drop (n + 1) = (l.take n ++ [u]) ++ l.drop (n + 1) by simp]
  exact List.take_left' (by simp; omega)
theorem run_append_byte {P : Program} (w : World) (t ty : TypeId) (i : TypeInfo) (z : Value) (ht : P.underlying t = some (.slice 5)) (hi : P.info? 5 = some i) (hz : i.zero = some z) (hsize : i.size = 1) (hby : i.bytes = 1) (hzs : z.cells.size = 1)
    (base : Nat) (v : Value) (l : List UInt8) (hown : BytesAt w base v l) (ad : Addr) (c : Nat) (b : UInt8) (hnew : w.cell? (ad.add 0) = some (.int .u8 (b.toNat : Int))) (hlen : l.length ≤ 140737488351232) (hbase : base ≤ w.heap.size) :
    ∃ v' w', (Builtin.append_ #[t, t] ty #[v, .slice (some ad) 1 c]).run P w = .ok v' w' ∧ BytesAt w' base v' (l ++ [b]) ∧ w.grownBy w' v.ownBlock := by
  obtain ⟨g, cap, cur, fz, rfl, h2, h3, h4, h5, h6, h7, h8⟩ := hown.ex
  have hnews : ∀ j u, ([.int .u8 (b.toNat : Int)] : List Value)[j]? = some u → w.cell? (ad.add j) = some u := by
    intro j u hu
    cases j with
    | zero => simp at hu; subst hu; exact hnew
    | succ j => simp at hu
  have hl1 : ([.int .u8 (b.toNat : Int)] : List Value).length = 1 * i.size := by rw [hsize]; rfl
  by_cases hroom : l.length + 1 ≤ cap
  · have hf := run_firstCells_some (P := P) w i.size 1 ad 1 c [.int .u8 (b.toNat : Int)] hl1 hnews
    have hst := run_store_one P w g l.length 5 fz cur (.int .u8 (b.toNat : Int)) h3 (by omega) h4 rfl
    refine ⟨.slice (some ⟨g, 0, none⟩) (l.length + 1) cap, w.setRow g (cur.setIfInBounds l.length (.int .u8 (b.toNat : Int))), ?_, ⟨g, cap, _, fz, by simp, h2, setRow_heap w g cur _ _ _ h3, by simpa using h4, by simpa using hroom, h6, by simpa using h7, ?_⟩, ⟨rfl, rfl, rfl, by simp [World.setRow], fun k _ hk => Go.setRow_other w g k _ (fun e => hk (by simp [Value.ownBlock, e]))⟩⟩
    · rw [hsize] at hf
      simp [Builtin.append_, run_underlying ht, sizeOf, typeInfo, hi, Builtin.lenOf, hroom, hf, Addr.add_lit, hsize, hst]
    · rw [u8s_app, ← h8, List.length_append, List.length_singleton, Array.toList_setIfInBounds]
      exact take_set_last _ _ _ (by have := Array.length_toList (xs := cur); omega)
  · have hcm : l.length + 1 ≤ maxLen := by unfold maxLen; omega
    have hold : ∀ j u, (u8s l)[j]? = some u → w.cell? ((⟨g, 0, none⟩ : Addr).add j) = some u := by
      intro j u hu
      rw [addr_add]
      unfold u8s at hu
      rw [List.getElem?_map] at hu
      cases hb : l[j]? with
      | none => rw [hb] at hu; cases hu
      | some x => rw [hb] at hu; simp at hu; rw [← hu]; exact hown.cell j x hb
    have hr := run_append_grow (P := P) w t ty 5 i z ht hi hz ⟨g, 0, none⟩ l.length cap (u8s l) (by rw [u8s_len, hsize, Nat.mul_one]) hold ad 1 c [.int .u8 (b.toNat : Int)] hl1 hnews (by omega) (by unfold maxLen at hcm; omega) (growslice_fits (by unfold maxLen at hcm; omega) (by rw [hby]; omega))
    have hge := grownCap_ge w (l.length + 1) cap 5
    have hcm2 := grownCap_le_maxLen w (l.length + 1) cap 5 hcm
    refine ⟨_, _, hr, ⟨w.heap.size, grownCap w (l.length + 1) cap 5, _, (0, 0), by rw [List.length_append]; rfl, hbase, heap_alloc_new w.drew _, .inl rfl, by rw [List.length_append]; exact hge, hcm2, ?_, ?_⟩, ⟨rfl, rfl, rfl, by simp, fun k hk _ => Below.heap_alloc w.drew _ k hk⟩⟩
    · simp only [Array.size_append, List.size_toArray, size_zeroCells, hzs, u8s_len, List.length_singleton]
      omega
    · simp only [Array.toList_append, List.append_assoc]
      rw [← List.append_assoc, u8s_app, u8s_one]
      exact List.take_left' (by rw [List.length_append, u8s_len]; simp)
/-- one byte more, at a walk -/
theorem wpList_append_byte {P : Program} {ops : Array Oper} {rest : List Oper} {o : Oper} {a : Act} {w : World} {Q : Exit → Act → World → Prop} (hgd : o.guard = none) (s x : Operand) (t : TypeId)
    (ho : o.op = .call { callee := .builtin .append, args := #[s, x], argTypes := #[t, t] }) (ht : P.underlying t = some (.slice 5)) (hinfo : (P.info? 5).map (fun i => (i.zero, i.size, i.bytes)) = some (some (.int .u8 0), 1, 1))
    (base : Nat) (v : Value) (l : List UInt8) (hs : a.eval s = v) (hown : BytesAt w base v l) (g c : Nat) (b : UInt8) (hx : a.eval x = .slice (some ⟨g, 0, none⟩) 1 c) (hnew : w.cell? ⟨g, 0, none⟩ = some (.int .u8 (b.toNat : Int))) (hlen : l.length ≤ 140737488351232) (hbase : base ≤ w.heap.size)
    (h : ∀ v' w', BytesAt w' base v' (l ++ [b]) → w.grownBy w' v.ownBlock → wpList P ops Q rest (a.put o.dst v') w') : wpList P ops Q (o :: rest) a w := by
  refine wpList_plain hgd fun K hK => ?_
  obtain ⟨i0, hi, hz0, hz1, hz2⟩ := info_parts hinfo
  obtain ⟨v', w', hr, h2, h3⟩ := run_append_byte (P := P) w t o.type i0 _ ht hi hz0 hz1 hz2 rfl base v l hown ⟨g, 0, none⟩ c b (by rw [addr_add]; exact hnew) hlen hbase
  unfold Oper.wp execOp
  simp only [ho, resolve, invoke, builtin, Sem.run_bind, Sem.run_pure, Result.andThen_ok, List.map_toArray, List.map_cons, List.map_nil, hs, hx, hr]
  exact hK _ _ (h v' w' h2 h3)
theorem bytesCells_list (w : World) (s : List UInt8) : (Lib.bytesCells w 5 ⟨s.toArray⟩).toList = u8s s ++ List.replicate (grownCap w s.length 0 5 - s.length) (.int .u8 0) := by
  have e : (⟨s.toArray⟩ : ByteArray).size = s.length := rfl
  unfold Lib.bytesCells
  rw [e]
  simp [u8s]
/-- []byte(s) -/
theorem bytesWorld_at (w : World) (s : List UInt8) (hs : s.length ≤ 140737488351232) : BytesAt (Lib.bytesWorld w 5 ⟨s.toArray⟩) w.heap.size (.slice (some ⟨w.heap.size, 0, none⟩) s.length (grownCap w s.length 0 5)) s := by
  have hge := grownCap_ge w s.length 0 5
  have hcm := grownCap_le_maxLen w s.length 0 5 (by unfold maxLen; omega)
  refine ⟨w.heap.size, grownCap w s.length 0 5, Lib.bytesCells w 5 ⟨s.toArray⟩, _, rfl, Nat.le_refl _, Lib.bytesWorld_at_new w 5 ⟨s.toArray⟩, .inr (Nat.le_refl _), hge, hcm, ?_, ?_⟩
  · have h := congrArg List.length (bytesCells_list w s)
    rw [Array.length_toList, List.length_append, u8s_len, List.length_replicate] at h
    omega
  · rw [bytesCells_list]
    exact List.take_left' (u8s_len s)
end Go.Proofs.YtgmdjbhclihflaaDoor
