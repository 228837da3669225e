/- Terms and their accounts in memory. -/
import Derived.Test.YtfiabonacpepnaaGreatDoorProg
import Derived.Test.YtfiabonacpepnaaGreatDoorTmP
import Derived.Test.YtfiabonacpepnaaGreatDoorTmA
import Derived.Test.YtfiabonacpepnaaGreatDoorBaseD
import Derived.Test.YtfiabonacpepnaaGreatDoorExM
import Derived.Maps.OwnSet
import Derived.Shelf.Abstract
import Derived.IntWalk
import Derived.Deep.Upon
import Derived.Great.BuildSlice
import Derived.BigQuiet
namespace Go.Proofs.YtfiabonacpepnaaGreatDoor
open Go Go.RowKit Go.Lib Go.Shelf Go.Maps

theorem withinC_any (x a b : Int) (w : World) :
    Calls Tryz.prog 29 #[.int .i64 x, .int .i64 a, .int .i64 b] w fun e w' => e = .returned (.bool (inR x a b)) ∧ w = w' := by
  unfold inR
  by_cases h1 : a ≤ x
  · have d1 : decide (a ≤ x) = true := by simpa using h1
    by_cases h2 : x ≤ b
    · have d2 : decide (x ≤ b) = true := by simpa using h2
      rw [d1, d2]
      go_enter Tryz.func29, Tryz.ntmps29
      go_wp2_with fail
      go_ret
      simp
    · have d2 : decide (x ≤ b) = false := by simpa using h2
      rw [d1, d2]
      clear h2
      go_enter Tryz.func29, Tryz.ntmps29
      go_wp2_with fail
      go_ret
      simp
  · have d1 : decide (a ≤ x) = false := by simpa using h1
    rw [d1]
    clear h1
    go_enter Tryz.func29, Tryz.ntmps29
    go_wp2_with fail
    go_ret
    simp
theorem withinR_any (x a b : Int) (w : World) :
    Calls Tryz.prog 31 #[.int .i64 x, .int .i64 a, .int .i64 b] w fun e w' => e = .returned (.bool (inR x a b)) ∧ w = w' := by
  unfold inR
  by_cases h1 : a ≤ x
  · have d1 : decide (a ≤ x) = true := by simpa using h1
    by_cases h2 : x ≤ b
    · have d2 : decide (x ≤ b) = true := by simpa using h2
      rw [d1, d2]
      go_enter Tryz.func31, Tryz.ntmps31
      go_wp2_with fail
      go_ret
      simp
    · have d2 : decide (x ≤ b) = false := by simpa using h2
      rw [d1, d2]
      clear h2
      go_enter Tryz.func31, Tryz.ntmps31
      go_wp2_with fail
      go_ret
      simp
  · have d1 : decide (a ≤ x) = false := by simpa using h1
    rw [d1]
    clear h1
    go_enter Tryz.func31, Tryz.ntmps31
    go_wp2_with fail
    go_ret
    simp
/-- the cells of a term; its accounts' slice is va -/
def termC (t : TermV) (va : Value) : Array Value := #[.int .i64 t.k, .int .i64 t.n, .int .i64 t.m, .int .i64 t.ab, va]
/-- v is a slice of integers that reads as l -/
def IntsL (w : World) (v : Value) (l : List Int) : Prop :=
  (l = [] ∧ ∃ A c, v = .slice A 0 c) ∨ ∃ b o c, v = .slice (some ⟨b, o, none⟩) l.length c ∧ b < w.heap.size ∧ ∀ (i : Nat) x, l[i]? = some x → w.cell? ⟨b, o + i, none⟩ = some (.int .i64 x)
theorem IntsL.below {w w' : World} {v : Value} {l : List Int} (h : IntsL w v l) (hb : Below w.heap.size w w') : IntsL w' v l := by
  rcases h with h0 | ⟨b, o, c, hv, hlt, hc⟩
  · exact .inl h0
  · exact .inr ⟨b, o, c, hv, Nat.lt_of_lt_of_le hlt hb.size, fun i x hx => (hb.cell (p := ⟨b, o + i, none⟩) hlt).trans (hc i x hx)⟩
theorem IntsL.slice {w : World} {v : Value} {l : List Int} (h : IntsL w v l) : ∃ A c, v = .slice A l.length c := by
  rcases h with ⟨rfl, A, c, rfl⟩ | ⟨b, o, c, rfl, _⟩
  · exact ⟨A, c, rfl⟩
  · exact ⟨_, c, rfl⟩
theorem OwnI.slice3 {T : TypeId} {k : Nat} {w : World} {base : Nat} {v : Value} {L : List (List Int)} (h : OwnI T k w base v L) : ∃ A n c, v = .slice A n c := by
  obtain ⟨A, c, e⟩ := h.rows.slice
  exact ⟨A, _, c, e⟩

theorem wf_i64 {a : Int} (h1 : -9223372036854775808 ≤ a) (h2 : a ≤ 9223372036854775807) : (Lit.int .i64 a).wf = true := WalkArith.wf_i64 (by omega)
theorem iCells_at {k : Nat} (hk : 0 < k) {R : List (List Int)} (hR : ∀ r ∈ R, r.length = k) (j : Nat) (u : Value) (h : (iCells R)[j]? = some u) : ∃ (i n : Nat) (r : List Int) (x : Int), R[i]? = some r ∧ r[n]? = some x ∧ u = .int .i64 x ∧ j = i * k + n := by
  have hl := (List.getElem?_eq_some_iff.1 h).1
  rw [iCells_len hR] at hl
  have hd : j / k < R.length := by rw [Nat.div_lt_iff_lt_mul hk]; exact hl
  obtain ⟨r, hr⟩ : ∃ r, R[j / k]? = some r := ⟨_, List.getElem?_eq_getElem hd⟩
  have hm : j % k < r.length := by rw [hR r (List.mem_of_getElem? hr)]; exact Nat.mod_lt _ hk
  have hj : j / k * k + j % k = j := by rw [Nat.mul_comm]; exact Nat.div_add_mod j k
  refine ⟨j / k, j % k, r, _, hr, List.getElem?_eq_getElem hm, ?_, hj.symm⟩
  have h2 := iCells_get hR (j / k) r hr (j % k) _ (List.getElem?_eq_getElem hm)
  rw [hj, h] at h2
  exact Option.some.inj h2
theorem wp_append_irows {P : Program} {o : Oper} {a : Act} {w : World} {K : Act → World → Prop} {Q : Exit → Act → World → Prop} {TS T : TypeId} {k bytes : Nat} {z : Value}
    (hu : P.underlying TS = some (.slice T)) (hinfo : (P.info? T).map (fun i => (i.zero, i.size, i.bytes)) = some (some z, k, bytes)) (hzs : z.cells.size = k) (hk : 0 < k) (hby : bytes ≤ 64)
    (s x : Operand) (base : Nat) (L R : List (List Int)) (v xv : Value) (hown : OwnI T k w base v L) (hR : IRows k w xv R) (hlen : L.length + R.length ≤ 1000000) (hbase : base ≤ w.heap.size)
    (ho : o.op = .call { callee := .builtin .append, args := #[s, x], argTypes := #[TS, TS] })
    (hs : a.eval s = v) (hx : a.eval x = xv)
    (h : ∀ v' w', OwnI T k w' base v' (L ++ R) → w.grownBy w' v.ownBlock → K (a.put o.dst v') w') : o.wp P a w K Q := by
  obtain ⟨i0, hi, hz0, hz1, hz2⟩ := info_parts hinfo
  have hmul : (L.length + R.length) * bytes ≤ (L.length + R.length) * 64 := Nat.mul_le_mul_left _ hby
  have fin : ∀ (ad : Addr) c, xv = .slice (some ad) R.length c → (∀ (j : Nat) u, (iCells R)[j]? = some u → w.cell? (ad.add j) = some u) → o.wp P a w K Q := by
    intro ad c he hn
    refine wp_append_own _ s x TS ho base T i0 _ k bytes hu hi hz0 hz1 hz2 hzs hk v L.length (iCells L) hs hown.2 ad R.length c (iCells R) (hx.trans he) (iCells_len hR.1) hn (iCells_ones R) (by unfold maxLen; omega) (by omega) hbase fun v' w' h1 h2 _ => h v' w' ⟨?_, ?_⟩ h2
    · intro r hr
      rcases List.mem_append.1 hr with h0 | h0
      · exact hown.1 r h0
      · exact hR.1 r h0
    · rw [iCells_app, List.length_append]
      exact h1
  rcases hR.2 with ⟨rfl, A, c, he⟩ | ⟨b, off, c, he, hlt, hc⟩
  · cases A with
    | some ad => exact fin ad c he (by intro j u hj; simp [iCells] at hj)
    | none =>
      obtain ⟨A0, n0, c0, hv0⟩ := hown.slice3
      have hle : n0 ≤ c0 := by
        rcases hown.2.2 with ⟨h1, _⟩ | ⟨g, cap, cur, h1, _, _, h2, _⟩
        · rw [h1] at hv0; cases hv0; exact Nat.le_refl _
        · rw [h1] at hv0; cases hv0; exact h2
      subst hv0
      have hrun := run_append_nothing (P := P) w TS TS o.type T i0 hu hi A0 n0 c0 hle xv (by rw [he, hz1]; exact Src.ofNil _ hu c)
      unfold Oper.wp execOp
      simp only [ho, resolve, invoke, builtin, Sem.run_bind, Sem.run_pure, Result.andThen_ok, List.map_toArray, List.map_cons, List.map_nil, hs, hx, hrun]
      exact h _ _ (by rw [List.append_nil]; exact hown) ⟨rfl, rfl, rfl, Nat.le_refl _, fun _ _ _ => rfl⟩
  · refine fin ⟨b, off, none⟩ c he fun j u hj => ?_
    obtain ⟨i, n, r, y, hr, hy, rfl, rfl⟩ := iCells_at hk hR.1 j u hj
    rw [Go.WideShapes.add_plain, ← Nat.add_assoc]
    exact hc i r hr n y hy
theorem wpList_append_irows {P : Program} {ops : Array Oper} {rest : List Oper} {o : Oper} {a : Act} {w : World} {Q : Exit → Act → World → Prop} {TS T : TypeId} {k bytes : Nat} {z : Value}
    (hu : P.underlying TS = some (.slice T)) (hinfo : (P.info? T).map (fun i => (i.zero, i.size, i.bytes)) = some (some z, k, bytes)) (hzs : z.cells.size = k) (hk : 0 < k) (hby : bytes ≤ 64)
    (s x : Operand) (base : Nat) (L R : List (List Int)) (v xv : Value) (hown : OwnI T k w base v L) (hR : IRows k w xv R) (hlen : L.length + R.length ≤ 1000000) (hbase : base ≤ w.heap.size)
    (hgd : o.guard = none) (ho : o.op = .call { callee := .builtin .append, args := #[s, x], argTypes := #[TS, TS] })
    (hs : a.eval s = v) (hx : a.eval x = xv)
    (h : ∀ v' w', OwnI T k w' base v' (L ++ R) → w.grownBy w' v.ownBlock → wpList P ops Q rest (a.put o.dst v') w') : wpList P ops Q (o :: rest) a w :=
  wpList_plain hgd fun _ hK => wp_append_irows hu hinfo hzs hk hby s x base L R v xv hown hR hlen hbase ho hs hx fun v' w' h1 h2 => hK _ _ (h v' w' h1 h2)
def Stop (p : Prop) : Prop := p
theorem wpList_stop {P : Program} {ops : Array Oper} {o : Oper} {rest : List Oper} {Q : Exit → Act → World → Prop} {a : Act} {w : World} (h : Stop (wpList P ops Q (o :: rest) a w)) : wpList P ops Q (o :: rest) a w := h
/-- a slice literal without elements -/
theorem own_zero (T : TypeId) (k : Nat) (w : World) : OwnI T k (w.alloc (.cells #[] T)) w.heap.size (.slice (some ⟨w.heap.size, 0, none⟩) 0 0) [] :=
  ⟨by simp, by simp [iCells], .inr ⟨w.heap.size, 0, #[], rfl, Nat.le_refl _, heap_alloc_last w _, Nat.le_refl _, by unfold maxLen; omega, by simp, by simp [iCells]⟩⟩
theorem wpList_build_zero {P : Program} {ops : Array Oper} {rest : List Oper} {o : Oper} {a : Act} {w : World} {Q : Exit → Act → World → Prop} {TS T : TypeId} {k bytes : Nat} {z : Value}
    (hu : P.underlying TS = some (.slice T)) (hinfo : (P.info? T).map (fun i => (i.zero, i.size, i.bytes)) = some (some z, k, bytes))
    (hgd : o.guard = none) (ho : o.op = .buildSlice TS 0 #[])
    (h : wpList P ops Q rest (a.put o.dst (.slice (some ⟨w.heap.size, 0, none⟩) 0 0)) (w.alloc (.cells #[] T))) : wpList P ops Q (o :: rest) a w := by
  obtain ⟨i0, hi, hz0, hz1, hz2⟩ := info_parts hinfo
  have hr : (Instr.buildSlice TS 0 #[]).run P w = .ok (.slice (some ⟨w.heap.size, 0, none⟩) 0 0) (w.alloc (.cells #[] T)) := by
    simp [Instr.buildSlice, run_underlying hu, sizeOf, typeInfo, hi, newRow, Instr.fill]
    rw [show Array.map (fun _ => (default : Value)) (Array.range 0) = #[] from Array.size_eq_zero_iff.1 (by simp)]
  refine wpList_plain hgd fun K hK => ?_
  unfold Oper.wp execOp
  simp only [ho, List.map_toArray, List.map_nil, Sem.run_bind, hr, Result.andThen_ok]
  exact hK _ _ h
def TermOk (t : TermV) : Prop := (∀ x ∈ [t.k, t.n, t.m, t.ab], -9223372036854775808 ≤ x ∧ x ≤ 9223372036854775807) ∧ (∀ x ∈ t.acc, -9223372036854775808 ≤ x ∧ x ≤ 9223372036854775807) ∧ t.acc.length ≤ 1000000
/-- v is a slice of terms that reads as l -/
def TermsAt (w : World) (v : Value) (l : List TermV) : Prop :=
  (l = [] ∧ ∃ A c, v = .slice A 0 c) ∨ ∃ b o c, v = .slice (some ⟨b, o, none⟩) l.length c ∧ b < w.heap.size ∧ ∀ (i : Nat) t, l[i]? = some t → ∃ va, IntsL w va t.acc ∧ ∀ (j : Nat) x, (termC t va)[j]? = some x → w.cell? ⟨b, o + i * 5 + j, none⟩ = some x
theorem TermsAt.below {w w' : World} {v : Value} {l : List TermV} (h : TermsAt w v l) (hb : Below w.heap.size w w') : TermsAt w' v l := by
  rcases h with h0 | ⟨b, o, c, hv, hlt, hc⟩
  · exact .inl h0
  · refine .inr ⟨b, o, c, hv, Nat.lt_of_lt_of_le hlt hb.size, fun i t ht => ?_⟩
    obtain ⟨va, h1, h2⟩ := hc i t ht
    exact ⟨va, h1.below hb, fun j x hx => (hb.cell (p := ⟨b, o + i * 5 + j, none⟩) hlt).trans (h2 j x hx)⟩
theorem TermsAt.slice {w : World} {v : Value} {l : List TermV} (h : TermsAt w v l) : ∃ A c, v = .slice A l.length c := by
  rcases h with ⟨rfl, A, c, rfl⟩ | ⟨b, o, c, rfl, _⟩
  · exact ⟨A, c, rfl⟩
  · exact ⟨_, c, rfl⟩
theorem term_size : (Tryz.prog.info? 28).map (·.size) = some 5 := by kernel_rfl
theorem termC_one (t : TermV) {w : World} {va : Value} (h : IntsL w va t.acc) : (termC t va).all (·.oneCell') = true := by
  obtain ⟨A, c, rfl⟩ := h.slice
  kernel_rfl
theorem load_term {ops : Array Oper} {rest : List Oper} {o : Oper} {a : Act} {w : World} {Q : Exit → Act → World → Prop} (x : Operand) (b off : Nat) (t : TermV) (va : Value) (hc : ∀ j v, (termC t va)[j]? = some v → w.cell? ⟨b, off + j, none⟩ = some v)
    (hgd : o.guard = none) (ho : o.op = .load 28 x) (hx : a.eval x = .pointer (some ⟨b, off, none⟩)) (h : wpList Tryz.prog ops Q rest (a.put o.dst (.agg (termC t va))) w) : wpList Tryz.prog ops Q (o :: rest) a w :=
  wpList_load_at hgd _ x ho b off hx (termC t va) _ hc Tryz.underlying28 rfl term_size h
theorem store_term {ops : Array Oper} {rest : List Oper} {o : Oper} {a : Act} {w : World} {Q : Exit → Act → World → Prop} (x y : Operand) (t : TermV) (va : Value) (c : Array Value) (h1 : (termC t va).all (·.oneCell') = true)
    (hgd : o.guard = none) (ho : o.op = .store 28 x y) (hx : a.eval x = .pointer (some ⟨w.heap.size, 0, none⟩)) (hy : a.eval y = .agg (termC t va)) (hs : c.size = 5)
    (h : wpList Tryz.prog ops Q rest (a.put o.dst undef) (w.alloc (.cells (termC t va) 28))) : wpList Tryz.prog ops Q (o :: rest) a (w.alloc (.cells c 28)) :=
  wpList_store_new hgd _ x y ho hx c (termC t va) hy term_size hs h1 h
end Go.Proofs.YtfiabonacpepnaaGreatDoor
