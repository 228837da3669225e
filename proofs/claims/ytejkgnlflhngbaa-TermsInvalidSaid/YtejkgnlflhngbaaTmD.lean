/- The steps of a settlement. -/
import Derived.Test.YtejkgnlflhngbaaTmC
import Derived.Deep.RegionHeld3
namespace Go.Proofs.Ytejkgnlflhngbaa
open Go Go.RowKit Go.Lib Go.Shelf Go.Maps

theorem FirstMap.kept {w w' : World} {mb : Nat} {bs : List (Int × Int)} (h : FirstMap w mb bs) (hb : w'.heap[mb]? = w.heap[mb]?) : FirstMap w' mb bs := by
  obtain ⟨n, D, hn, ⟨es, clock, hh, F, hs, hD⟩, r⟩ := h
  exact ⟨n, D, hn, ⟨es, clock, hb.trans hh, F, hs, hD⟩, r⟩
theorem FirstMap.lt {w : World} {mb : Nat} {bs : List (Int × Int)} (h : FirstMap w mb bs) : mb < w.heap.size := by
  obtain ⟨n, D, hn, hm, r⟩ := h
  exact hm.lt
theorem FirstMap.ne_row {w : World} {mb nb : Nat} {bs : List (Int × Int)} {T : TypeId} {cs : Array Value} (h : FirstMap w mb bs) (hr : RowAt w nb T cs) : mb ≠ nb := by
  obtain ⟨n, D, hn, ⟨es, clock, hh, F, hs, hD⟩, r⟩ := h
  intro e
  subst e
  unfold RowAt at hr
  rw [hr] at hh
  cases hh
theorem SetAt.below {B nb mb : Nat} {w w' : World} {R : RowV} {S : StV} {vp vr vb : Value} (h : SetAt B w nb mb R S vp vr vb) (hb : Below w.heap.size w w') : SetAt B w' nb mb R S vp vr vb :=
  ⟨h.hB, h.row.below hb h.row.lt, h.ps.below hb, h.rs.below hb, h.bs.below hb, h.map.kept (hb.block _ h.map.lt)⟩
theorem SetAt.only {B nb mb : Nat} {w w' : World} {R : RowV} {S S' : StV} {vp vr vb : Value} (h : SetAt B w nb mb R S vp vr vb) (ho : Only nb w w') (hr : RowAt w' nb 59 (setC R S' vp vr vb (.map (some mb))))
    (e1 : S'.ps = S.ps) (e2 : S'.rs = S.rs) (e3 : S'.bs = S.bs) : SetAt B w' nb mb R S' vp vr vb :=
  ⟨h.hB, hr, by rw [e1]; exact h.ps.kept fun g hg => ho.other g (h.ps.ne_row (by decide) h.row g hg), by rw [e2]; exact h.rs.kept fun g hg => ho.other g (h.rs.ne_row (by decide) h.row g hg),
    by rw [e3]; exact h.bs.kept fun g hg => ho.other g (h.bs.ne_row (by decide) h.row g hg), by rw [e3]; exact h.map.kept (ho.other _ (h.map.ne_row h.row))⟩
theorem cell_same {w w' : World} {b i : Nat} (h : w'.heap[b]? = w.heap[b]?) : w'.cell? ⟨b, i, none⟩ = w.cell? ⟨b, i, none⟩ := by
  unfold World.cell?
  rw [h]

/-- append of one struct of integers, inside a region that draws its order -/
theorem wp_append_irow {P : Program} {o : Oper} {a : Act} {w : World} {K : Act → World → Prop} {Q : Exit → Act → World → Prop} {TS T : TypeId} {k bytes : Nat} {z : Value}
    (hu : P.underlying TS = some (.slice T)) (hinfo : (P.info? T).map (fun i => (i.zero, i.size, i.bytes)) = some (some z, k, bytes)) (hzs : z.cells.size = k) (hk : 0 < k) (hby : bytes ≤ 64)
    (s x : Operand) (base : Nat) (L : List (List Int)) (r : List Int) (hr : r.length = k) (b c : Nat) (v : Value) (hown : OwnI T k w base v L) (hlen : L.length ≤ 1000000) (hbase : base ≤ w.heap.size)
    (hnews : ∀ (j : Nat) u, (r.map (Value.int .i64))[j]? = some u → w.cell? ((⟨b, 0, none⟩ : Addr).add j) = some u)
    (ho : o.op = .call { callee := .builtin .append, args := #[s, x], argTypes := #[TS, TS] })
    (hs : a.eval s = v) (hx : a.eval x = .slice (some ⟨b, 0, none⟩) 1 c)
    (h : ∀ v' w', OwnI T k w' base v' (L ++ [r]) → w.grownBy w' v.ownBlock → K (a.put o.dst v') w') : o.wp P a w K Q := by
  obtain ⟨i0, hi, hz0, hz1, hz2⟩ := info_parts hinfo
  refine wp_append_own _ s x TS ho base T i0 _ k bytes hu hi hz0 hz1 hz2 hzs hk v L.length (iCells L) hs hown.2 ⟨b, 0, none⟩ 1 c (r.map (Value.int .i64)) hx (by rw [List.length_map, hr, Nat.one_mul]) hnews (by have := iCells_ones [r]; rwa [iCells_one] at this) (by unfold maxLen; omega) ?_ hbase fun v' w' h1 h2 _ => h v' w' ⟨?_, ?_⟩ h2
  · have : (L.length + 1) * bytes ≤ (L.length + 1) * 64 := Nat.mul_le_mul_left _ hby
    omega
  · intro y hy
    rcases List.mem_append.1 hy with h0 | h0
    · exact hown.1 y h0
    · rw [List.mem_singleton.1 h0]; exact hr
  · rw [iCells_app, iCells_one, List.length_append]
    exact h1
theorem SetAt.pushP {B nb mb : Nat} {w w1 w2 : World} {R : RowV} {S S' : StV} {vp vp' vr vb : Value} (h0 : SetAt B w nb mb R S vp vr vb) (h1 : Below w.heap.size w w1) (hv : OwnI 42 2 w2 B vp' (S'.ps.map p2)) (hg : w1.grownBy w2 vp.ownBlock)
    (e1 : setC R S' vp vr vb (.map (some mb)) = setC R S vp vr vb (.map (some mb))) (e2 : S'.rs = S.rs) (e3 : S'.bs = S.bs) : SetAt B (w2.setCell ⟨nb, 13, none⟩ vp') nb mb R S' vp' vr vb := by
  have h := h0.below h1
  have hm := h.map
  have hrow : RowAt w2 nb 59 (setC R S' vp vr vb (.map (some mb))) := by
    rw [e1]
    exact (hg.block nb h.row.lt (fun e => h.ps.ne_row (by decide) h.row nb e.symm rfl)).trans h.row
  have hmap : FirstMap w2 mb S.bs := hm.kept (hg.block mb hm.lt (fun e => by
    obtain ⟨n, D, hn, ⟨es, clock, hh, _⟩, _⟩ := hm
    rcases h.ps.2.2 with ⟨e0, _⟩ | ⟨g1, cap, cur, e0, _, hh1, _⟩
    · rw [e0] at e; simp [Value.ownBlock] at e
    · rw [e0] at e; simp [Value.ownBlock] at e; subst e; rw [hh] at hh1; cases hh1))
  have hr2 : OwnI 44 3 w2 B vr (S.rs.map p3) := h.rs.kept fun g hg2 => hg.block g (h.rs.lt g hg2).2 (fun e => h.rs.ne h.ps (by decide) g hg2 e.symm)
  have hb2 : OwnI 46 2 w2 B vb (S.bs.map p2) := h.bs.kept fun g hg2 => hg.block g (h.bs.lt g hg2).2 (fun e => h.bs.ne h.ps (by decide) g hg2 e.symm)
  have ho : ∀ g, g ≠ nb → (w2.setCell ⟨nb, 13, none⟩ vp').heap[g]? = w2.heap[g]? := fun g hg => Below.heap_setCell _ _ _ _ hg
  exact ⟨h.hB, hrow.set 13 vp', hv.kept fun g hg2 => ho g (hv.ne_row (by decide) hrow g hg2), by rw [e2]; exact hr2.kept fun g hg2 => ho g (hr2.ne_row (by decide) hrow g hg2),
    by rw [e3]; exact hb2.kept fun g hg2 => ho g (hb2.ne_row (by decide) hrow g hg2), by rw [e3]; exact hmap.kept (ho _ (hmap.ne_row hrow))⟩
theorem SetAt.pushR {B nb mb : Nat} {w w1 w2 : World} {R : RowV} {S S' : StV} {vp vr vr' vb : Value} (h0 : SetAt B w nb mb R S vp vr vb) (h1 : Below w.heap.size w w1) (hv : OwnI 44 3 w2 B vr' (S'.rs.map p3)) (hg : w1.grownBy w2 vr.ownBlock)
    (e1 : setC R S' vp vr vb (.map (some mb)) = setC R S vp vr vb (.map (some mb))) (e2 : S'.ps = S.ps) (e3 : S'.bs = S.bs) : SetAt B (w2.setCell ⟨nb, 14, none⟩ vr') nb mb R S' vp vr' vb := by
  have h := h0.below h1
  have hm := h.map
  have hrow : RowAt w2 nb 59 (setC R S' vp vr vb (.map (some mb))) := by
    rw [e1]
    exact (hg.block nb h.row.lt (fun e => h.rs.ne_row (by decide) h.row nb e.symm rfl)).trans h.row
  have hmap : FirstMap w2 mb S.bs := hm.kept (hg.block mb hm.lt (fun e => by
    obtain ⟨n, D, hn, ⟨es, clock, hh, _⟩, _⟩ := hm
    rcases h.rs.2.2 with ⟨e0, _⟩ | ⟨g1, cap, cur, e0, _, hh1, _⟩
    · rw [e0] at e; simp [Value.ownBlock] at e
    · rw [e0] at e; simp [Value.ownBlock] at e; subst e; rw [hh] at hh1; cases hh1))
  have hr2 : OwnI 42 2 w2 B vp (S.ps.map p2) := h.ps.kept fun g hg2 => hg.block g (h.ps.lt g hg2).2 (fun e => h.ps.ne h.rs (by decide) g hg2 e.symm)
  have hb2 : OwnI 46 2 w2 B vb (S.bs.map p2) := h.bs.kept fun g hg2 => hg.block g (h.bs.lt g hg2).2 (fun e => h.bs.ne h.rs (by decide) g hg2 e.symm)
  have ho : ∀ g, g ≠ nb → (w2.setCell ⟨nb, 14, none⟩ vr').heap[g]? = w2.heap[g]? := fun g hg => Below.heap_setCell _ _ _ _ hg
  exact ⟨h.hB, hrow.set 14 vr', by rw [e2]; exact hr2.kept fun g hg2 => ho g (hr2.ne_row (by decide) hrow g hg2), hv.kept fun g hg2 => ho g (hv.ne_row (by decide) hrow g hg2),
    by rw [e3]; exact hb2.kept fun g hg2 => ho g (hb2.ne_row (by decide) hrow g hg2), by rw [e3]; exact hmap.kept (ho _ (hmap.ne_row hrow))⟩

/-- what is a map stays as it is -/
def MapsKept (w w' : World) : Prop := ∀ (g : Nat) (es : Array MapEntry) (c : Nat), w.heap[g]? = some (.map es c) → w'.heap[g]? = some (.map es c)
/-- below B nothing has turned, and no map has -/
structure Turn (B : Nat) (w w' : World) : Prop where
  below : Below B w w'
  maps : MapsKept w w'
theorem Turn.refl (B : Nat) (w : World) : Turn B w w := ⟨Below.refl _ _, fun _ _ _ h => h⟩
theorem Turn.trans {B : Nat} {w w' w'' : World} (h1 : Turn B w w') (h2 : Turn B w' w'') : Turn B w w'' := ⟨h1.below.trans h2.below, fun g es c h => h2.maps g es c (h1.maps g es c h)⟩
theorem Turn.of_below {B : Nat} {w w' : World} (hb : Below w.heap.size w w') (hB : B ≤ w.heap.size) : Turn B w w' := ⟨hb.mono hB, fun g _ _ h => (hb.block g (Array.getElem?_eq_some_iff.1 h).1).trans h⟩
theorem Turn.of_only {B nb : Nat} {w w' : World} {T : TypeId} {cs : Array Value} (ho : Only nb w w') (hr : RowAt w nb T cs) (hB : B ≤ nb) : Turn B w w' :=
  ⟨ho.below.mono hB, fun g es c h => (ho.other g (fun e => by subst e; unfold RowAt at hr; rw [hr] at h; cases h)).trans h⟩
theorem Turn.of_grown {B : Nat} {w w' : World} {T : TypeId} {k : Nat} {v : Value} {L : List (List Int)} (hg : w.grownBy w' v.ownBlock) (hv : OwnI T k w B v L) (hB : B ≤ w.heap.size) : Turn B w w' :=
  ⟨(Below.refl B w).grown hg hB (fun j e => (hv.lt j e).1), fun g es c h => (hg.block g (Array.getElem?_eq_some_iff.1 h).1 (fun e => by
    rcases hv.2.2 with ⟨e0, _⟩ | ⟨g1, cap, cur, e0, _, hh1, _⟩
    · rw [e0] at e; simp [Value.ownBlock] at e
    · rw [e0] at e; simp [Value.ownBlock] at e; subst e; rw [h] at hh1; cases hh1)).trans h⟩
theorem Turn.of_set {B nb : Nat} {w : World} {T : TypeId} {cs : Array Value} (hr : RowAt w nb T cs) (hB : B ≤ nb) (j : Nat) (u : Value) : Turn B w (w.setCell ⟨nb, j, none⟩ u) :=
  ⟨(Below.refl B w).setCell (p := ⟨nb, j, none⟩) hB u, fun g es c h => (Below.heap_setCell w ⟨nb, j, none⟩ u g (fun e => by subst e; unfold RowAt at hr; rw [hr] at h; cases h)).trans h⟩
theorem pass_info : (Try.prog.info? 42).map (fun i => (i.zero, i.size, i.bytes)) = some (some (.agg #[.int .i64 0, .int .i64 0]), 2, 16) := by kernel_rfl
theorem reserve_info : (Try.prog.info? 44).map (fun i => (i.zero, i.size, i.bytes)) = some (some (.agg #[.int .i64 0, .int .i64 0, .int .i64 0]), 3, 24) := by kernel_rfl
theorem balance_info : (Try.prog.info? 46).map (fun i => (i.zero, i.size, i.bytes)) = some (some (.agg #[.int .i64 0, .int .i64 0]), 2, 16) := by kernel_rfl

theorem OwnI.slice3 {T : TypeId} {k : Nat} {w : World} {base : Nat} {v : Value} {L : List (List Int)} (h : OwnI T k w base v L) : ∃ A n c, v = .slice A n c := by
  obtain ⟨A, c, e⟩ := h.rows.slice
  exact ⟨A, _, c, e⟩

theorem tax_any {T : Int} (B nb mb : Nat) (R : RowV) (S : StV) (vp vr vb : Value) (t : TermV) (va : Value) (w : World) (hs : SetAt B w nb mb R S vp vr vb) (hg : GoodS T S) (hT : T ≤ 1000000000000000000) (hn : inR t.n 1 1000000 = true) :
    Calls Try.prog 41 #[.pointer (some ⟨nb, 0, none⟩), .agg (termC t va)] w fun e w' => e = .returned (.tuple #[]) ∧ SetAt B w' nb mb R (taxStep S t) vp vr vb ∧ Turn B w w' := by
  have hp := hg.part hn
  have hnb := inR_iff.1 hn
  have g1 := hg.l0
  have g2 := hg.p0
  have g3 := hg.t0
  have g4 := hg.r0
  have g5 := hg.o0
  have g6 := hg.c0
  have g7 := hg.sum
  have PT := Lib.hid (fun W => part_any S.left t.n g1 (by omega) (by omega) hnb.2 W)
  have hst : taxStep S t = { S with left := S.left - partN S.left t.n, ta := S.ta + partN S.left t.n } := rfl
  rw [hst]
  obtain ⟨x, hx⟩ : ∃ x, partN S.left t.n = x := ⟨_, rfl⟩
  rw [hx] at hp PT ⊢
  have TK := Lib.hid (fun (W : World) (h : SetAt B W nb mb R S vp vr vb) => take_any nb 7 x S.left S.ta (setC R S vp vr vb (.map (some mb))) W h.row rfl rfl (by omega) (by omega) (by omega) (by omega) (by omega))
  obtain ⟨xk, hxk⟩ : ∃ z, t.k = z := ⟨_, rfl⟩
  obtain ⟨xn, hxn⟩ : ∃ z, t.n = z := ⟨_, rfl⟩
  obtain ⟨xm, hxm⟩ : ∃ z, t.m = z := ⟨_, rfl⟩
  obtain ⟨xa, hxa⟩ : ∃ z, t.ab = z := ⟨_, rfl⟩
  rw [show termC t va = #[.int .i64 xk, .int .i64 xn, .int .i64 xm, .int .i64 xa, va] by unfold termC; rw [hxk, hxn, hxm, hxa]]
  obtain ⟨W, hW⟩ : ∃ x, w.alloc (.cells #[.int .i64 xk, .int .i64 xn, .int .i64 xm, .int .i64 xa, va] 52) = x := ⟨_, rfl⟩
  have hbW : Below w.heap.size w W := by rw [← hW]; exact (Below.refl _ _).alloc (Nat.le_refl _) _
  have hrow : RowAt W w.heap.size 52 #[.int .i64 xk, .int .i64 xn, .int .i64 xm, .int .i64 xa, va] := by rw [← hW]; exact RowAt.new w _ _
  obtain ⟨tb, htb⟩ : ∃ x, w.heap.size = x := ⟨_, rfl⟩
  have htlt : tb < W.heap.size := by rw [← htb]; exact hrow.lt
  have hs0 := hs.below hbW
  have hBw : B ≤ w.heap.size := Nat.le_of_lt (Nat.lt_of_le_of_lt hs.hB hs.row.lt)
  have HBW : Hid (Turn B w W) := Lib.hid (Turn.of_below hbW hBw)
  rw [htb] at hrow
  have htn : tb ≠ nb := by have := hs.row.lt; omega
  rw [hxn] at PT
  have HS0 := Lib.hid hs0
  obtain ⟨l, hl⟩ : ∃ z, S.left = z := ⟨_, rfl⟩
  have cl : W.cell? ⟨nb, 12, none⟩ = some (.int .i64 l) := by rw [← hl]; exact hs0.row.cell 12
  have cn : W.cell? ⟨tb, 1, none⟩ = some (.int .i64 xn) := hrow.cell 1
  rw [hl] at PT
  clear hst hx hg hn hT hp hnb hs hs0 hbW hrow g1 g2 g3 g4 g5 g6 g7 hxk hxn hxm hxa hl
  go_enter Try.func41, Try.ntmps41
  go_wp2_with fail
  clear hW htb
  refine wp_region_held_drew (S := fun W' => W'.cell? ⟨tb, 1, none⟩ = some (.int .i64 xn)) (by kernel_rfl) cn (fun hHeld => ?_)
  refine wpAnyH_take (i := 0) (oi := ⟨_, _, _, _, _, _⟩) (v := ?_) rfl (by kernel_rfl) (by kernel_rfl) (by kernel_rfl) (fun _ _ _ h => h) (Or.inl ⟨by rfl, ?_⟩) (by assumption) ?_
  rotate_left
  · intro w hSw
    go_simp
    all_goals with_reducible rfl
  simp only [Act.put, List.setIfInBounds_toArray, List.set_cons_zero, List.set_cons_succ]
  refine wpAnyH_take (i := 1) (oi := ⟨_, _, _, _, _, _⟩) (v := ?_) rfl (by kernel_rfl) (by kernel_rfl) (by kernel_rfl) (fun _ _ _ h => h) (Or.inl ⟨by rfl, ?_⟩) (by assumption) ?_
  rotate_left
  · intro w hSw
    go_simp
    all_goals with_reducible rfl
  simp only [Act.put, List.setIfInBounds_toArray, List.set_cons_zero, List.set_cons_succ]
  refine wpAnyH_take (i := 2) (oi := ⟨_, _, _, _, _, _⟩) (v := ?_) rfl (by kernel_rfl) (by kernel_rfl) (by kernel_rfl) (fun _ _ _ h => h) (Or.inl ⟨by rfl, ?_⟩) (by assumption) ?_
  rotate_left
  · intro w hSw
    go_simp
    all_goals with_reducible rfl
  simp only [Act.put, List.setIfInBounds_toArray, List.set_cons_zero, List.set_cons_succ]
  refine wpAnyH_take (i := 3) (oi := ⟨_, _, _, _, _, _⟩) (v := ?_) rfl (by kernel_rfl) (by kernel_rfl) (by kernel_rfl) (fun _ _ _ h => h) (Or.inl ⟨by rfl, ?_⟩) (by assumption) ?_
  rotate_left
  · intro w hSw
    go_simp
    all_goals with_reducible rfl
  simp only [Act.put, List.setIfInBounds_toArray, List.set_cons_zero, List.set_cons_succ]
  refine wpAnyH_take (i := 5) (oi := ⟨_, _, _, _, _, _⟩) (v := ?_) rfl (by kernel_rfl) (by kernel_rfl) (by kernel_rfl) (fun _ _ _ h => h) (Or.inl ⟨by rfl, ?_⟩) (by assumption) ?_
  rotate_left
  · intro w hSw
    go_simp
    all_goals with_reducible rfl
  simp only [Act.put, List.setIfInBounds_toArray, List.set_cons_zero, List.set_cons_succ]
  refine wpAnyH_take (i := 6) (oi := ⟨_, _, _, _, _, _⟩) (v := ?_) rfl (by kernel_rfl) (by kernel_rfl) (by kernel_rfl) (fun _ _ _ h => h) (Or.inl ⟨by rfl, ?_⟩) (by assumption) ?_
  rotate_left
  · intro w hSw
    go_simp
    all_goals with_reducible rfl
  simp only [Act.put, List.setIfInBounds_toArray, List.set_cons_zero, List.set_cons_succ]
  refine wpAnyH_take (i := 8) (oi := ⟨_, _, _, _, _, _⟩) (v := ?_) rfl (by kernel_rfl) (by kernel_rfl) (by kernel_rfl) (fun _ _ _ h => h) (Or.inl ⟨by rfl, ?_⟩) (by assumption) ?_
  rotate_left
  · intro w hSw
    go_simp
    all_goals with_reducible rfl
  simp only [Act.put, List.setIfInBounds_toArray, List.set_cons_zero, List.set_cons_succ]
  refine wpAnyH_take (i := 9) (oi := ⟨_, _, _, _, _, _⟩) (v := ?_) rfl (by kernel_rfl) (by kernel_rfl) (by kernel_rfl) (fun _ _ _ h => h) (Or.inl ⟨by rfl, ?_⟩) (by assumption) ?_
  rotate_left
  · intro w hSw
    go_simp
    all_goals with_reducible rfl
  simp only [Act.put, List.setIfInBounds_toArray, List.set_cons_zero, List.set_cons_succ]
  refine wpAnyH_take (i := 10) (oi := ⟨_, _, _, _, _, _⟩) (v := ?_) rfl (by kernel_rfl) (by kernel_rfl) (by kernel_rfl) (fun _ _ _ h => h) (Or.inl ⟨by rfl, ?_⟩) (by assumption) ?_
  rotate_left
  · intro w hSw
    go_simp
    all_goals with_reducible rfl
  simp only [Act.put, List.setIfInBounds_toArray, List.set_cons_zero, List.set_cons_succ]
  refine wpAnyH_take (i := 11) (oi := ⟨_, _, _, _, _, _⟩) (v := ?_) rfl (by kernel_rfl) (by kernel_rfl) (by kernel_rfl) (fun _ _ _ h => h) (Or.inl ⟨by rfl, ?_⟩) (by assumption) ?_
  rotate_left
  · intro w hSw
    go_simp
    all_goals with_reducible rfl
  simp only [Act.put, List.setIfInBounds_toArray, List.set_cons_zero, List.set_cons_succ]
  refine wpAnyH_ready (rs := [4]) (by kernel_rfl) (by simp) ?_
  refine AllReadyH.cons (o := ⟨_, _, _, _, _, _⟩) rfl (fun K hK => ?_) AllReadyH.nil
  go_simp
  go_wp2_with fail
  refine hK.out _ _ (by assumption) (fun hHeld => ?_)
  clear hK K
  try simp only [Act.put, List.setIfInBounds_toArray, List.set_cons_zero, List.set_cons_succ]
  refine wpAnyH_ready (rs := [7]) (by kernel_rfl) (by simp) ?_
  refine AllReadyH.cons (o := ⟨_, _, _, _, _, _⟩) rfl (fun K hK => ?_) AllReadyH.nil
  go_simp
  go_at_call 51
  refine (PT.out _).mono ?_
  rintro e w1 ⟨rfl, hb⟩
  go_wp2_with fail
  refine hK.out _ _ (by rw [hb.cell (p := ⟨tb, 1, none⟩) htlt]; exact cn) (fun hHeld => ?_)
  clear hK K
  try simp only [Act.put, List.setIfInBounds_toArray, List.set_cons_zero, List.set_cons_succ]
  have HS1 := Lib.hid (HS0.out.below ((Below.refl W.heap.size W).drew.trans hb))
  have HB1 := Lib.hid (HBW.out.trans (Turn.of_below ((Below.refl W.heap.size W).drew.trans hb) (by have := HS0.out.hB; have := HS0.out.row.lt; omega)))
  have cn1 : w1.cell? ⟨tb, 1, none⟩ = some (.int .i64 xn) := by rw [hb.cell (p := ⟨tb, 1, none⟩) htlt]; exact cn
  clear hb
  refine wpAnyH_ready (rs := [12]) (by kernel_rfl) (by simp) ?_
  refine AllReadyH.cons (o := ⟨_, _, _, _, _, _⟩) rfl (fun K hK => ?_) AllReadyH.nil
  go_simp
  go_at_call 50
  refine (TK.out w1 HS1.out).mono ?_
  rintro e w2 ⟨rfl, hr2, ho⟩
  go_wp2_with fail
  refine hK.out _ _ (by rw [cell_same (ho.other tb htn)]; exact cn1) (fun hHeld => ?_)
  clear hK K
  try simp only [Act.put, List.setIfInBounds_toArray, List.set_cons_zero, List.set_cons_succ]

  refine wpAnyH_done (by kernel_rfl) ?_ _
  have HE := Lib.hid (HS1.out.only ho hr2 (S' := { S with left := S.left - x, ta := S.ta + x }) rfl rfl rfl)
  have HBE := Lib.hid (HB1.out.trans (Turn.of_only ho HS1.out.row HS1.out.hB))
  clear hr2 ho cn cn1 cl hHeld HS1 HB1 TK PT
  go_wp2_with fail
  go_end0
  exact ⟨rfl, HE.out, HBE.out⟩
theorem cap_any {T : Int} (B nb mb : Nat) (R : RowV) (S : StV) (vp vr vb : Value) (t : TermV) (va : Value) (w : World) (hs : SetAt B w nb mb R S vp vr vb) (hg : GoodS T S) (hT : T ≤ 1000000000000000000) (hn : inR t.n 0 1000000000000000 = true) :
    Calls Try.prog 43 #[.pointer (some ⟨nb, 0, none⟩), .agg (termC t va)] w fun e w' => e = .returned (.tuple #[]) ∧ SetAt B w' nb mb R (capStep S t) vp vr vb ∧ Turn B w w' := by
  have hnb := inR_iff.1 hn
  have g1 := hg.l0
  have g2 := hg.p0
  have g3 := hg.t0
  have g4 := hg.r0
  have g5 := hg.o0
  have g6 := hg.c0
  have g7 := hg.sum
  have hst : capStep S t = { S with left := S.left - max (S.left - t.n) 0, ca := S.ca + max (S.left - t.n) 0 } := rfl
  rw [hst]
  obtain ⟨x, hx⟩ : ∃ x, max (S.left - t.n) 0 = x := ⟨_, rfl⟩
  have hp : 0 ≤ x ∧ x ≤ S.left := by omega
  rw [hx]
  have TK := Lib.hid (fun (W : World) (h : SetAt B W nb mb R S vp vr vb) => take_any nb 11 x S.left S.ca (setC R S vp vr vb (.map (some mb))) W h.row rfl rfl (by omega) (by omega) (by omega) (by omega) (by omega))
  obtain ⟨xk, hxk⟩ : ∃ z, t.k = z := ⟨_, rfl⟩
  obtain ⟨xn, hxn⟩ : ∃ z, t.n = z := ⟨_, rfl⟩
  obtain ⟨xm, hxm⟩ : ∃ z, t.m = z := ⟨_, rfl⟩
  obtain ⟨xa, hxa⟩ : ∃ z, t.ab = z := ⟨_, rfl⟩
  rw [show termC t va = #[.int .i64 xk, .int .i64 xn, .int .i64 xm, .int .i64 xa, va] by unfold termC; rw [hxk, hxn, hxm, hxa]]
  obtain ⟨W, hW⟩ : ∃ x, w.alloc (.cells #[.int .i64 xk, .int .i64 xn, .int .i64 xm, .int .i64 xa, va] 52) = x := ⟨_, rfl⟩
  have hbW : Below w.heap.size w W := by rw [← hW]; exact (Below.refl _ _).alloc (Nat.le_refl _) _
  have hrow : RowAt W w.heap.size 52 #[.int .i64 xk, .int .i64 xn, .int .i64 xm, .int .i64 xa, va] := by rw [← hW]; exact RowAt.new w _ _
  obtain ⟨tb, htb⟩ : ∃ x, w.heap.size = x := ⟨_, rfl⟩
  have htlt : tb < W.heap.size := by rw [← htb]; exact hrow.lt
  have hs0 := hs.below hbW
  have hBw : B ≤ w.heap.size := Nat.le_of_lt (Nat.lt_of_le_of_lt hs.hB hs.row.lt)
  have HBW : Hid (Turn B w W) := Lib.hid (Turn.of_below hbW hBw)
  rw [htb] at hrow
  have htn : tb ≠ nb := by have := hs.row.lt; omega
  have HS0 := Lib.hid hs0
  obtain ⟨l, hl⟩ : ∃ z, S.left = z := ⟨_, rfl⟩
  have cl : W.cell? ⟨nb, 12, none⟩ = some (.int .i64 l) := by rw [← hl]; exact hs0.row.cell 12
  have cn : W.cell? ⟨tb, 1, none⟩ = some (.int .i64 xn) := hrow.cell 1
  rw [hl, hxn] at hx
  rw [hxn] at hnb
  rw [hl] at g1 g7
  obtain ⟨y, hy⟩ : ∃ y, l - xn = y := ⟨_, rfl⟩
  have wy : IntKind.i64.wrap (l - xn) = y := by rw [hy]; exact IntWalk.i64_in _ (by omega)
  rw [hy] at hx
  have hmx : (if y < 0 then 0 else y) = x := by rw [← hx]; split <;> omega
  clear hx
  clear hst hg hn hT hp hnb hs hs0 hbW hrow g1 g2 g3 g4 g5 g6 g7 hxk hxn hxm hxa hl hy
  go_enter Try.func43, Try.ntmps43
  go_wp2_with fail
  clear hW htb
  refine wp_region_held_drew (S := fun W' => W'.cell? ⟨tb, 1, none⟩ = some (.int .i64 xn)) (by kernel_rfl) cn (fun hHeld => ?_)
  refine wpAnyH_take (i := 0) (oi := ⟨_, _, _, _, _, _⟩) (v := ?_) rfl (by kernel_rfl) (by kernel_rfl) (by kernel_rfl) (fun _ _ _ h => h) (Or.inl ⟨by rfl, ?_⟩) (by assumption) ?_
  rotate_left
  · intro w hSw
    go_simp
    all_goals with_reducible rfl
  simp only [Act.put, List.setIfInBounds_toArray, List.set_cons_zero, List.set_cons_succ]
  refine wpAnyH_take (i := 1) (oi := ⟨_, _, _, _, _, _⟩) (v := ?_) rfl (by kernel_rfl) (by kernel_rfl) (by kernel_rfl) (fun _ _ _ h => h) (Or.inl ⟨by rfl, ?_⟩) (by assumption) ?_
  rotate_left
  · intro w hSw
    go_simp
    all_goals with_reducible rfl
  simp only [Act.put, List.setIfInBounds_toArray, List.set_cons_zero, List.set_cons_succ]
  refine wpAnyH_take (i := 2) (oi := ⟨_, _, _, _, _, _⟩) (v := ?_) rfl (by kernel_rfl) (by kernel_rfl) (by kernel_rfl) (fun _ _ _ h => h) (Or.inl ⟨by rfl, ?_⟩) (by assumption) ?_
  rotate_left
  · intro w hSw
    go_simp
    all_goals with_reducible rfl
  simp only [Act.put, List.setIfInBounds_toArray, List.set_cons_zero, List.set_cons_succ]
  refine wpAnyH_take (i := 3) (oi := ⟨_, _, _, _, _, _⟩) (v := ?_) rfl (by kernel_rfl) (by kernel_rfl) (by kernel_rfl) (fun _ _ _ h => h) (Or.inl ⟨by rfl, ?_⟩) (by assumption) ?_
  rotate_left
  · intro w hSw
    go_simp
    all_goals with_reducible rfl
  simp only [Act.put, List.setIfInBounds_toArray, List.set_cons_zero, List.set_cons_succ]
  refine wpAnyH_take (i := 5) (oi := ⟨_, _, _, _, _, _⟩) (v := ?_) rfl (by kernel_rfl) (by kernel_rfl) (by kernel_rfl) (fun _ _ _ h => h) (Or.inl ⟨by rfl, ?_⟩) (by assumption) ?_
  rotate_left
  · intro w hSw
    go_simp
    all_goals with_reducible rfl
  simp only [Act.put, List.setIfInBounds_toArray, List.set_cons_zero, List.set_cons_succ]
  refine wpAnyH_take (i := 6) (oi := ⟨_, _, _, _, _, _⟩) (v := ?_) rfl (by kernel_rfl) (by kernel_rfl) (by kernel_rfl) (fun _ _ _ h => h) (Or.inl ⟨by rfl, ?_⟩) (by assumption) ?_
  rotate_left
  · intro w hSw
    go_simp
    all_goals with_reducible rfl
  simp only [Act.put, List.setIfInBounds_toArray, List.set_cons_zero, List.set_cons_succ]
  refine wpAnyH_take (i := 9) (oi := ⟨_, _, _, _, _, _⟩) (v := ?_) rfl (by kernel_rfl) (by kernel_rfl) (by kernel_rfl) (fun _ _ _ h => h) (Or.inl ⟨by rfl, ?_⟩) (by assumption) ?_
  rotate_left
  · intro w hSw
    go_simp
    all_goals with_reducible rfl
  simp only [Act.put, List.setIfInBounds_toArray, List.set_cons_zero, List.set_cons_succ]
  refine wpAnyH_take (i := 10) (oi := ⟨_, _, _, _, _, _⟩) (v := ?_) rfl (by kernel_rfl) (by kernel_rfl) (by kernel_rfl) (fun _ _ _ h => h) (Or.inl ⟨by rfl, ?_⟩) (by assumption) ?_
  rotate_left
  · intro w hSw
    go_simp
    all_goals with_reducible rfl
  simp only [Act.put, List.setIfInBounds_toArray, List.set_cons_zero, List.set_cons_succ]
  refine wpAnyH_take (i := 11) (oi := ⟨_, _, _, _, _, _⟩) (v := ?_) rfl (by kernel_rfl) (by kernel_rfl) (by kernel_rfl) (fun _ _ _ h => h) (Or.inl ⟨by rfl, ?_⟩) (by assumption) ?_
  rotate_left
  · intro w hSw
    go_simp
    all_goals with_reducible rfl
  simp only [Act.put, List.setIfInBounds_toArray, List.set_cons_zero, List.set_cons_succ]
  refine wpAnyH_take (i := 12) (oi := ⟨_, _, _, _, _, _⟩) (v := ?_) rfl (by kernel_rfl) (by kernel_rfl) (by kernel_rfl) (fun _ _ _ h => h) (Or.inl ⟨by rfl, ?_⟩) (by assumption) ?_
  rotate_left
  · intro w hSw
    go_simp
    all_goals with_reducible rfl
  simp only [Act.put, List.setIfInBounds_toArray, List.set_cons_zero, List.set_cons_succ]
  refine wpAnyH_ready (rs := [4]) (by kernel_rfl) (by simp) ?_
  refine AllReadyH.cons (o := ⟨_, _, _, _, _, _⟩) rfl (fun K hK => ?_) AllReadyH.nil
  go_simp
  go_wp2_with fail
  refine hK.out _ _ (by assumption) (fun hHeld => ?_)
  clear hK K
  try simp only [Act.put, List.setIfInBounds_toArray, List.set_cons_zero, List.set_cons_succ]
  refine wpAnyH_take (i := 7) (oi := ⟨_, _, _, _, _, _⟩) (v := ?_) rfl (by kernel_rfl) (by kernel_rfl) (by kernel_rfl) (fun _ _ _ h => h) (Or.inl ⟨by rfl, ?_⟩) (by assumption) ?_
  rotate_left
  · intro w hSw
    go_simp
    all_goals with_reducible rfl
  simp only [Act.put, List.setIfInBounds_toArray, List.set_cons_zero, List.set_cons_succ]
  refine wpAnyH_ready (rs := [8]) (by kernel_rfl) (by simp) ?_
  refine AllReadyH.cons (o := ⟨_, _, _, _, _, _⟩) rfl (fun K hK => ?_) AllReadyH.nil
  go_simp
  go_wp2_with fail
  refine hK.out _ _ (by assumption) (fun hHeld => ?_)
  clear hK K
  try simp only [Act.put, List.setIfInBounds_toArray, List.set_cons_zero, List.set_cons_succ]
  have HS1 := Lib.hid (HS0.out.below (Below.refl W.heap.size W).drew)
  have HB1 := Lib.hid (HBW.out.trans (Turn.of_below (Below.refl W.heap.size W).drew (by have := HS0.out.hB; have := HS0.out.row.lt; omega)))
  refine wpAnyH_ready (rs := [13]) (by kernel_rfl) (by simp) ?_
  refine AllReadyH.cons (o := ⟨_, _, _, _, _, _⟩) rfl (fun K hK => ?_) AllReadyH.nil
  go_simp
  go_at_call 50
  refine (TK.out _ HS1.out).mono ?_
  rintro e w2 ⟨rfl, hr2, ho⟩
  go_wp2_with fail
  refine hK.out _ _ (by rw [cell_same (ho.other tb htn)]; exact cn) (fun hHeld => ?_)
  clear hK K
  try simp only [Act.put, List.setIfInBounds_toArray, List.set_cons_zero, List.set_cons_succ]

  refine wpAnyH_done (by kernel_rfl) ?_ _
  have HE := Lib.hid (HS1.out.only ho hr2 (S' := { S with left := S.left - x, ca := S.ca + x }) rfl rfl rfl)
  have HBE := Lib.hid (HB1.out.trans (Turn.of_only ho HS1.out.row HS1.out.hB))
  clear hr2 ho cn cl hHeld HS1 HB1 TK hmx
  go_wp2_with fail
  go_end0
  exact ⟨rfl, HE.out, HBE.out⟩
end Go.Proofs.Ytejkgnlflhngbaa
