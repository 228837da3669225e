/- What Settle's walk needs: the map of first indices grows; stores into a part of a block; results. -/
import Derived.Test.YtejkgnlflhngbaaTmF
import Derived.Test.YtejkgnlflhngbaaTmM
import Derived.Laws.CopyRow
import Derived.Test.YtejkgnlflhngbaaExL
import Derived.Deep.RegionHeld3
namespace Go.Proofs.Ytejkgnlflhngbaa
open Go Go.RowKit Go.Lib Go.Shelf Go.Maps

theorem findB_snoc (l : List (Int × Int)) (b : Int × Int) (a : Int) : findB (l ++ [b]) a = match findB l a with | some i => some i | none => if b.1 = a then some l.length else none := by
  unfold findB
  rw [List.findIdx?_append]
  cases h : List.findIdx? (fun b => b.1 == a) l with
  | some i => simp
  | none =>
    by_cases e : b.1 = a
    · simp [List.findIdx?_cons, e]
    · simp [List.findIdx?_cons, e]
theorem FirstMap.twice {w : World} {mb : Nat} {l : List (Int × Int)} (h : FirstMap w mb l) {b : Int × Int} (hf : (findB l b.1).isSome = true) : FirstMap w mb (l ++ [b]) := by
  obtain ⟨n, D, hn, hm, hr⟩ := h
  refine ⟨n, D, by simp; omega, hm, fun a ha => ?_⟩
  have e : findB (l ++ [b]) a = findB l a := by
    rw [findB_snoc]
    cases h2 : findB l a with
    | some i => rfl
    | none =>
      dsimp only
      rw [if_neg]
      intro e
      rw [e, h2] at hf
      cases hf
  rw [e]
  exact hr a ha
theorem FirstMap.put {w : World} {mb : Nat} {l : List (Int × Int)} (h : FirstMap w mb l) (hl : l.length ≤ 1000000) {b : Int × Int} (hf : findB l b.1 = none) (h1 : -9223372036854775808 ≤ b.1) (h2 : b.1 ≤ 9223372036854775807) :
    ∃ w', (Instr.mapUpdate 57 (.map (some mb)) (.int .i64 b.1) (.int .i64 (l.length : Int))).run Try.prog w = .ok () w' ∧ FirstMap w' mb (l ++ [b]) ∧ w.grownBy w' (some mb) := by
  obtain ⟨n, D, hn, hm, hr⟩ := h
  have hkey := keyOf_int_mk Try.underlying3 (wf_i64 h1 h2)
  obtain ⟨w', hrun, hm', hg⟩ := hm.update (int_keyed Try.underlying3) Try.underlying57 (by unfold maxLen; omega) hkey (plainElem_int Try.underlying3 (wf_i64 (show (-9223372036854775808 : Int) ≤ (l.length : Int) by omega) (by omega)))
  refine ⟨w', hrun, ⟨n + 1, _, by simp; omega, hm', fun a ha => ?_⟩, hg⟩
  rw [findB_snoc]
  by_cases e : a = b.1
  · subst e
    rw [hf]
    dsimp only
    rw [if_pos rfl, has_put_same hm.isMap ((int_keyed Try.underlying3).key hkey), atKey_put_same hm.isMap ((int_keyed Try.underlying3).key hkey)]
    exact ⟨rfl, fun i hi => by cases hi; rfl⟩
  · have hne : (Lit.int .i64 a) ≠ Lit.int .i64 b.1 := by intro h; exact e (by simpa using h)
    rw [has_put_other hne, atKey_put_other hne]
    have e2 : ¬ b.1 = a := fun h => e h.symm
    have := hr a ha
    cases h2 : findB l a with
    | some i => rw [h2] at this; exact this
    | none => rw [h2] at this; dsimp only; rw [if_neg e2]; exact this
theorem run_storeVar_part {P : Program} (w : World) (g o : Nat) (t ty : TypeId) (old cells news : Array Value) (hg : w.heap[g]? = some (.cells old t (0, 0))) (hi : (P.info? ty).map (·.size) = some cells.size)
    (ho : o + cells.size ≤ old.size) (h1 : cells.all (·.oneCell') = true) (hn : (old.toList.take o ++ cells.toList ++ old.toList.drop (o + cells.size)).toArray = news) :
    (storeVar ty ⟨g, o, none⟩ (.agg cells)).run P w = .ok () (w.setRow g news) := by
  have := run_storeCells_at (P := P) g o t cells.toList 0 old w hg (by simp; omega) (fun v hv => (Array.all_eq_true_iff_forall_mem.1 h1) v (by simpa using hv))
  cases hq : P.info? ty with
  | none => simp [hq] at hi
  | some i =>
    have hs : cells.size = i.size := by simp [hq] at hi; omega
    rw [Nat.add_zero] at this
    simp only [Array.length_toList, hn] at this
    simp [storeVar, sizeOf, typeInfo, hq, Value.cells, hs, this]
theorem wpList_store_part {P : Program} {ops : Array Oper} {rest : List Oper} {o : Oper} {a : Act} {w : World} {Q : Exit → Act → World → Prop} (hgd : o.guard = none) (ty : TypeId) (x y : Operand) (ho : o.op = .store ty x y)
    (g off : Nat) (cells : Array Value) (hx : a.eval x = .pointer (some ⟨g, off, none⟩)) (hy : a.eval y = .agg cells)
    (t : TypeId) (old news : Array Value) (hg : w.heap[g]? = some (.cells old t (0, 0))) (hi : (P.info? ty).map (·.size) = some cells.size)
    (hold : off + cells.size ≤ old.size) (h1 : cells.all (·.oneCell') = true) (hn : (old.toList.take off ++ cells.toList ++ old.toList.drop (off + cells.size)).toArray = news)
    (h : wpList P ops Q rest (a.put o.dst undef) (w.setRow g news)) : wpList P ops Q (o :: rest) a w := by
  refine wpList_plain hgd fun K hK => ?_
  unfold Oper.wp execOp
  simp only [ho, hx, hy, Instr.storeAt, Instr.sureAddr, Sem.run_bind, Sem.run_pure, Result.andThen_ok, run_storeVar_part w g off t ty old cells news hg hi hold h1 hn]
  exact hK _ _ h
theorem below_setRow {B g : Nat} {a w : World} {cs : Array Value} (h : Below B a w) (hg : B ≤ g) : Below B a (w.setRow g cs) :=
  ⟨h.os, h.tape, h.output, by simpa [World.setRow] using h.size, fun k hk => by
    rw [← h.block k hk]
    have : ¬ g = k := by omega
    simp [World.setRow, Array.getElem?_modify, this]⟩
theorem setRow_same {w : World} {g : Nat} {cs old : Array Value} {t : TypeId} {fr : Nat × Nat} (h : w.heap[g]? = some (.cells old t fr)) : (w.setRow g cs).heap[g]? = some (.cells cs t fr) := by
  simp [World.setRow, Array.getElem?_modify, h]
theorem setRow_other {w : World} {g k : Nat} {cs : Array Value} (h : g ≠ k) : (w.setRow g cs).heap[k]? = w.heap[k]? := by
  simp [World.setRow, Array.getElem?_modify, h]
theorem yieldsIf_load_at {P : Program} {ops : Array Oper} {S : World → Prop} {o : Oper} {a : Act} (ty : TypeId) (x : Operand) (b off : Nat) (cs : Array Value) (d : TypeDesc) (hc : ∀ w, S w → ∀ j v, cs[j]? = some v → w.cell? ⟨b, off + j, none⟩ = some v)
    (hu : P.underlying ty = some d) (hw : Region.wanted o (yielded ops a.tmps) = true) (ho : o.op = .load ty x) (hx : a.eval x = .pointer (some ⟨b, off, none⟩)) (hd : (match d with | .struct _ | .array _ _ => true | _ => false) = true) (hi : (P.info? ty).map (·.size) = some cs.size) :
    YieldsIf P ops S o (.agg cs) a := by
  refine Or.inl ⟨hw, fun w h => ?_⟩
  simp only [execOp, ho, hx, Instr.loadAt, Instr.sureAddr, Sem.run_bind, Sem.run_pure, Result.andThen_ok, run_loadVar_at w b off ty cs d (hc w h) hu hd hi]
theorem results_cell3 {P : Program} {fn : Func} {p q r s : Tmp} {ty : TypeId} (h : fn.results = #[.cell p ty, .tmp q, .tmp r, .tmp s]) (tmps : Array Value) (w : World) (g : Nat) (t : TypeId) (cs : Array Value) (fr : Nat × Nat) (d : TypeDesc)
    (hp : tmps.getD p undef = .pointer (some ⟨g, 0, none⟩)) (hg : w.heap[g]? = some (.cells cs t fr))
    (hu : P.underlying ty = some d) (hd : (match d with | .struct _ | .array _ _ => true | _ => false) = true) (hi : (P.info? ty).map (·.size) = some cs.size) :
    (results fn tmps).run P w = .ok (.tuple #[.agg cs, tmps.getD q undef, tmps.getD r undef, tmps.getD s undef]) w := by
  have hp' : tmps[p]?.getD undef = .pointer (some ⟨g, 0, none⟩) := by simpa using hp
  simp [results, h, hp', asAddr, run_loadVar_row w g t ty cs fr d hg hu hd hi]
end Go.Proofs.Ytejkgnlflhngbaa
