/- Settle of the reference. -/
import Derived.Test.YtejkgnlflhngbaaTmN
import Derived.Test.YtejkgnlflhngbaaTmK
import Derived.Test.YtejkgnlflhngbaaTmR
import Derived.Test.YtejkgnlflhngbaaTmS
namespace Go.Proofs.Ytejkgnlflhngbaa
open Go Go.RowKit Go.Lib Go.Shelf Go.Maps

theorem wpList_append_irow2 {P : Program} {ops : Array Oper} {rest : List Oper} {o : Oper} {a : Act} {w : World} {Q : Exit → Act → World → Prop} {TS T : TypeId} {k bytes : Nat} {z : Value}
    (hu : P.underlying TS = some (.slice T)) (hinfo : (P.info? T).map (fun i => (i.zero, i.size, i.bytes)) = some (some z, k, bytes)) (hzs : z.cells.size = k) (hk : 0 < k) (hby : bytes ≤ 64)
    (s x : Operand) (base : Nat) (L : List (List Int)) (r : List Int) (hr : r.length = k) (b c : Nat) (v : Value) (hown : OwnI T k w base v L) (hlen : L.length ≤ 1000000) (hbase : base ≤ w.heap.size)
    (hnews : ∀ (j : Nat) u, (r.map (Value.int .i64))[j]? = some u → w.cell? ((⟨b, 0, none⟩ : Addr).add j) = some u)
    (hgd : o.guard = none) (ho : o.op = .call { callee := .builtin .append, args := #[s, x], argTypes := #[TS, TS] })
    (hs : a.eval s = v) (hx : a.eval x = .slice (some ⟨b, 0, none⟩) 1 c)
    (h : ∀ v' w', OwnI T k w' base v' (L ++ [r]) → w.grownBy w' v.ownBlock → wpList P ops Q rest (a.put o.dst v') w') : wpList P ops Q (o :: rest) a w :=
  wpList_plain hgd fun _ hK => wp_append_irow hu hinfo hzs hk hby s x base L r hr b c v hown hlen hbase hnews ho hs hx fun v' w' h1 h2 => hK _ _ (h v' w' h1 h2)
/-- where the walk of the reference's Settle stands among the terms -/
structure RefAt (T : Int) (n0 : Nat) (w wr : World) (rc zc : Array Value) (R : RowV) (S : StV) (vp vr vb : Value) (k : Nat) : Prop where
  r4 : RowAt wr n0 24 rc
  r6 : RowAt wr (n0 + 1) 24 zc
  ro : RowAt wr (n0 + 2) 24 (rowC R S.pa S.ta S.re S.ro 0 S.ca)
  ps : OwnI 42 2 wr (n0 + 3) vp (S.ps.map p2)
  rs : OwnI 44 3 wr (n0 + 3) vr (S.rs.map p3)
  bs : OwnI 46 2 wr (n0 + 3) vb (S.bs.map p2)
  good : GoodS T S
  pl : S.ps.length ≤ k
  rl : S.rs.length ≤ k
  bl : S.bs.length ≤ 1000
  bok : ∀ b ∈ S.bs, (-9223372036854775808 ≤ b.1 ∧ b.1 ≤ 9223372036854775807) ∧ -9223372036854775808 ≤ b.2 ∧ b.2 ≤ 9223372036854775807
  bw : Below n0 w wr
section
variable {T : Int} {n0 k : Nat} {w wr w1 w2 w' : World} {rc zc : Array Value} {R : RowV} {S S' : StV} {vp vr vb vp' vr' : Value}
theorem RefAt.below (h : RefAt T n0 w wr rc zc R S vp vr vb k) (hb : Below wr.heap.size wr w') : RefAt T n0 w w' rc zc R S vp vr vb k :=
  ⟨h.r4.below hb h.r4.lt, h.r6.below hb h.r6.lt, h.ro.below hb h.ro.lt, h.ps.below hb, h.rs.below hb, h.bs.below hb, h.good, h.pl, h.rl, h.bl, h.bok, h.bw.trans (hb.mono (Nat.le_of_lt h.r4.lt))⟩
theorem RefAt.more (h : RefAt T n0 w wr rc zc R S vp vr vb k) : RefAt T n0 w wr rc zc R S vp vr vb (k + 1) := { h with pl := Nat.le_succ_of_le h.pl, rl := Nat.le_succ_of_le h.rl }
theorem RefAt.setOut (h : RefAt T n0 w wr rc zc R S vp vr vb k) (j : Nat) (u : Value) (hr : (rowC R S.pa S.ta S.re S.ro 0 S.ca).setIfInBounds j u = rowC R S'.pa S'.ta S'.re S'.ro 0 S'.ca) (hg : GoodS T S') (e1 : S'.ps = S.ps) (e2 : S'.rs = S.rs) (e3 : S'.bs = S.bs) :
    RefAt T n0 w (wr.setCell ⟨n0 + 2, j, none⟩ u) rc zc R S' vp vr vb k := by
  have ho : ∀ g, g ≠ n0 + 2 → (wr.setCell ⟨n0 + 2, j, none⟩ u).heap[g]? = wr.heap[g]? := fun g hg => Below.heap_setCell wr ⟨n0 + 2, j, none⟩ u g hg
  exact ⟨(ho _ (by omega)).trans h.r4, (ho _ (by omega)).trans h.r6, hr ▸ h.ro.set j u, by rw [e1]; exact h.ps.kept fun g hg => ho g (by have := (h.ps.lt g hg).1; omega), by rw [e2]; exact h.rs.kept fun g hg => ho g (by have := (h.rs.lt g hg).1; omega), by rw [e3]; exact h.bs.kept fun g hg => ho g (by have := (h.bs.lt g hg).1; omega),
    hg, by rw [e1]; exact h.pl, by rw [e2]; exact h.rl, by rw [e3]; exact h.bl, by rw [e3]; exact h.bok, h.bw.setCell (p := ⟨n0 + 2, j, none⟩) (show n0 ≤ n0 + 2 by omega) u⟩
theorem RefAt.pushP (h0 : RefAt T n0 w wr rc zc R S vp vr vb k) (h1 : Below wr.heap.size wr w1) (hv : OwnI 42 2 w2 (n0 + 3) vp' (S'.ps.map p2)) (hg : w1.grownBy w2 vp.ownBlock) (e : S' = { S with ps := S'.ps }) (hl : S'.ps.length ≤ k + 1) : RefAt T n0 w w2 rc zc R S' vp' vr vb (k + 1) := by
  have h := h0.below h1
  have hlt : ∀ j, vp.ownBlock = some j → n0 + 3 ≤ j := fun j hj => (h.ps.lt j hj).1
  rw [e]
  exact ⟨(hg.block _ h.r4.lt (fun q => by have := hlt _ q.symm; omega)).trans h.r4, (hg.block _ h.r6.lt (fun q => by have := hlt _ q.symm; omega)).trans h.r6, (hg.block _ h.ro.lt (fun q => by have := hlt _ q.symm; omega)).trans h.ro, hv,
    h.rs.kept fun g hg2 => hg.block g (h.rs.lt g hg2).2 (fun q => h.rs.ne h.ps (by decide) g hg2 q.symm), h.bs.kept fun g hg2 => hg.block g (h.bs.lt g hg2).2 (fun q => h.bs.ne h.ps (by decide) g hg2 q.symm),
    ⟨h.good.l0, h.good.p0, h.good.t0, h.good.r0, h.good.o0, h.good.c0, h.good.sum⟩, hl, Nat.le_succ_of_le h.rl, h.bl, h.bok, h.bw.grown hg (Nat.le_of_lt h.r4.lt) (fun j q => by have := hlt _ q; omega)⟩
theorem RefAt.pushR (h0 : RefAt T n0 w wr rc zc R S vp vr vb k) (h1 : Below wr.heap.size wr w1) (hv : OwnI 44 3 w2 (n0 + 3) vr' (S'.rs.map p3)) (hg : w1.grownBy w2 vr.ownBlock) (e : S' = { S with rs := S'.rs }) (hl : S'.rs.length ≤ k + 1) : RefAt T n0 w w2 rc zc R S' vp vr' vb (k + 1) := by
  have h := h0.below h1
  have hlt : ∀ j, vr.ownBlock = some j → n0 + 3 ≤ j := fun j hj => (h.rs.lt j hj).1
  rw [e]
  exact ⟨(hg.block _ h.r4.lt (fun q => by have := hlt _ q.symm; omega)).trans h.r4, (hg.block _ h.r6.lt (fun q => by have := hlt _ q.symm; omega)).trans h.r6, (hg.block _ h.ro.lt (fun q => by have := hlt _ q.symm; omega)).trans h.ro,
    h.ps.kept fun g hg2 => hg.block g (h.ps.lt g hg2).2 (fun q => h.ps.ne h.rs (by decide) g hg2 q.symm), hv, h.bs.kept fun g hg2 => hg.block g (h.bs.lt g hg2).2 (fun q => h.bs.ne h.rs (by decide) g hg2 q.symm),
    ⟨h.good.l0, h.good.p0, h.good.t0, h.good.r0, h.good.o0, h.good.c0, h.good.sum⟩, Nat.le_succ_of_le h.pl, hl, h.bl, h.bok, h.bw.grown hg (Nat.le_of_lt h.r4.lt) (fun j q => by have := hlt _ q; omega)⟩
end

theorem recStep_rest (S : StV) (a : Int) : (recStep S a).pa = S.pa ∧ (recStep S a).ta = S.ta ∧ (recStep S a).re = S.re ∧ (recStep S a).ca = S.ca ∧ (recStep S a).ro + (recStep S a).left = S.ro + S.left := by
  unfold recStep
  split
  · exact ⟨rfl, rfl, rfl, rfl, rfl⟩
  · split
    · exact ⟨rfl, rfl, rfl, rfl, rfl⟩
    · exact ⟨rfl, rfl, rfl, rfl, by dsimp only; omega⟩
theorem recAll_rest : ∀ (l : List Int) (S : StV), (l.foldl recStep S).pa = S.pa ∧ (l.foldl recStep S).ta = S.ta ∧ (l.foldl recStep S).re = S.re ∧ (l.foldl recStep S).ca = S.ca ∧ (l.foldl recStep S).ro + (l.foldl recStep S).left = S.ro + S.left
  | [], _ => ⟨rfl, rfl, rfl, rfl, rfl⟩
  | a :: l, S => by
    have h := recAll_rest l (recStep S a)
    have h2 := recStep_rest S a
    exact ⟨h.1.trans h2.1, h.2.1.trans h2.2.1, h.2.2.1.trans h2.2.2.1, h.2.2.2.1.trans h2.2.2.2.1, h.2.2.2.2.trans h2.2.2.2.2⟩
theorem RefAt.recOut {T : Int} {n0 k : Nat} {w wr w' : World} {rc zc : Array Value} {R : RowV} {S : StV} {vp vr vb : Value} (h : RefAt T n0 w wr rc zc R S vp vr vb k) (acc : List Int) (hr : RefRec T (n0 + 3) wr w' S (acc.foldl recStep S) vb) :
    RefAt T n0 w (w'.setCell ⟨n0 + 2, 9, none⟩ (.int .i64 (acc.foldl recStep S).ro)) rc zc R (acc.foldl recStep S) vp vr vb (k + 1) := by
  obtain ⟨h1, h2, h3, h4, h5, h6, h7⟩ := hr
  have hlt : ∀ j, vb.ownBlock = some j → n0 + 3 ≤ j := fun j hj => (h.bs.lt j hj).1
  have hl := recAll_lists acc S
  have hf := recAll_rest acc S
  have ho : ∀ g, g ≠ n0 + 2 → (w'.setCell ⟨n0 + 2, 9, none⟩ (.int .i64 (acc.foldl recStep S).ro)).heap[g]? = w'.heap[g]? := fun g hg => Below.heap_setCell w' ⟨n0 + 2, 9, none⟩ _ g hg
  have k4 : RowAt w' n0 24 rc := (h7.block _ h.r4.lt (fun q => by have := hlt _ q.symm; omega)).trans h.r4
  have k6 : RowAt w' (n0 + 1) 24 zc := (h7.block _ h.r6.lt (fun q => by have := hlt _ q.symm; omega)).trans h.r6
  have ko : RowAt w' (n0 + 2) 24 (rowC R S.pa S.ta S.re S.ro 0 S.ca) := (h7.block _ h.ro.lt (fun q => by have := hlt _ q.symm; omega)).trans h.ro
  have kp := h.ps.kept (w' := w') fun g hg2 => h7.block g (h.ps.lt g hg2).2 (fun q => h.ps.ne h.bs (by decide) g hg2 q.symm)
  have kr := h.rs.kept (w' := w') fun g hg2 => h7.block g (h.rs.lt g hg2).2 (fun q => h.rs.ne h.bs (by decide) g hg2 q.symm)
  have kb : Below n0 w w' := h.bw.grown h7 (Nat.le_of_lt h.r4.lt) (fun j q => by have := hlt _ q; omega)
  refine ⟨(ho _ (by omega)).trans k4, (ho _ (by omega)).trans k6, ?_, by rw [hl.1]; exact kp.kept fun g hg => ho g (by have := (kp.lt g hg).1; omega), by rw [hl.2]; exact kr.kept fun g hg => ho g (by have := (kr.lt g hg).1; omega), h1.kept fun g hg => ho g (by have := (h1.lt g hg).1; omega),
    h2, by rw [hl.1]; exact Nat.le_succ_of_le h.pl, by rw [hl.2]; exact Nat.le_succ_of_le h.rl, by rw [h4]; exact h.bl, h3, kb.setCell (p := ⟨n0 + 2, 9, none⟩) (show n0 ≤ n0 + 2 by omega) _⟩
  rw [hf.1, hf.2.1, hf.2.2.1, hf.2.2.2.1]
  exact ko.set 9 _
set_option maxRecDepth 100000 in
set_option maxHeartbeats 8000000 in
theorem settle15_any (l : List TermV) (R : RowV) (bs : List (Int × Int)) (v vb : Value) (x6 x7 x8 x9 x10 x11 : Int) (w : World) (ht : TermsAt w v l) (hok : ∀ t ∈ l, TermOk t) (hl : l.length ≤ 1000) (hb : IRows 2 w vb (bs.map p2)) (hbl : bs.length ≤ 1000)
    (hbb : ∀ b ∈ bs, (-9223372036854775808 ≤ b.1 ∧ b.1 ≤ 9223372036854775807) ∧ -9223372036854775808 ≤ b.2 ∧ b.2 ≤ 9223372036854775807) (hp : 0 ≤ R.p ∧ R.p ≤ 100000) :
    Calls Try.prog 16 #[v, .agg (rowC R x6 x7 x8 x9 x10 x11), vb] w (SettleEnd w R (settleSpec l R bs)) := by
  have OPN := Lib.hid (fun W => open15_any R x6 x7 x8 x9 x10 x11 W)
  have SRC := Lib.hid (fun W => sources_any R x6 x7 x8 x9 x10 x11 W)
  obtain ⟨q0, q1, q2, q3, q4, q5⟩ := R
  unfold rowC at OPN SRC ⊢
  dsimp only at hp OPN SRC ⊢
  have HP := Lib.hid hp
  have HT := Lib.hid ht
  have HOK := Lib.hid hok
  have HBB := Lib.hid hbb
  have HB := Lib.hid hb
  obtain ⟨AT, ct, rfl⟩ := ht.slice
  obtain ⟨AB, cb, rfl⟩ := hb.slice
  obtain ⟨m, hm⟩ : ∃ m, l.length = m := ⟨_, rfl⟩
  obtain ⟨nb, hnb⟩ : ∃ n, (bs.map p2).length = n := ⟨_, rfl⟩
  rw [hm] at hl
  rw [hm, hnb]
  have HM := Lib.hid hm
  have HNB := Lib.hid hnb
  obtain ⟨W, hW⟩ : ∃ z, ((w.alloc (.cells #[.int .i64 q0, .int .i64 q1, .int .i64 q2, .int .i64 q3, .int .i64 q4, .int .i64 q5, .int .i64 x6, .int .i64 x7, .int .i64 x8, .int .i64 x9, .int .i64 x10, .int .i64 x11] 24)).alloc (.cells #[.int .i64 0, .int .i64 0, .int .i64 0, .int .i64 0, .int .i64 0, .int .i64 0, .int .i64 0, .int .i64 0, .int .i64 0, .int .i64 0, .int .i64 0, .int .i64 0] 24)).alloc (.cells #[.int .i64 q0, .int .i64 q1, .int .i64 q2, .int .i64 q3, .int .i64 q4, .int .i64 q5, .int .i64 0, .int .i64 0, .int .i64 0, .int .i64 0, .int .i64 0, .int .i64 0] 24) = z := ⟨_, rfl⟩
  have HW := Lib.hid hW
  obtain ⟨n0, hn0⟩ : ∃ z, w.heap.size = z := ⟨_, rfl⟩
  have HN0 := Lib.hid hn0
  have hsz : W.heap.size = n0 + 3 := by rw [← hW, ← hn0]; simp
  have r4 : RowAt W n0 24 #[.int .i64 q0, .int .i64 q1, .int .i64 q2, .int .i64 q3, .int .i64 q4, .int .i64 q5, .int .i64 x6, .int .i64 x7, .int .i64 x8, .int .i64 x9, .int .i64 x10, .int .i64 x11] := by rw [← hW, ← hn0]; exact ((RowAt.new w _ _).alloc _).alloc _
  have r6 : RowAt W (n0 + 1) 24 #[.int .i64 0, .int .i64 0, .int .i64 0, .int .i64 0, .int .i64 0, .int .i64 0, .int .i64 0, .int .i64 0, .int .i64 0, .int .i64 0, .int .i64 0, .int .i64 0] := by
    rw [← hW, ← hn0]
    have := (RowAt.new (w.alloc (.cells #[.int .i64 q0, .int .i64 q1, .int .i64 q2, .int .i64 q3, .int .i64 q4, .int .i64 q5, .int .i64 x6, .int .i64 x7, .int .i64 x8, .int .i64 x9, .int .i64 x10, .int .i64 x11] 24)) 24 #[.int .i64 0, .int .i64 0, .int .i64 0, .int .i64 0, .int .i64 0, .int .i64 0, .int .i64 0, .int .i64 0, .int .i64 0, .int .i64 0, .int .i64 0, .int .i64 0]).alloc (.cells #[.int .i64 q0, .int .i64 q1, .int .i64 q2, .int .i64 q3, .int .i64 q4, .int .i64 q5, .int .i64 0, .int .i64 0, .int .i64 0, .int .i64 0, .int .i64 0, .int .i64 0] 24)
    simpa using this
  have ro : RowAt W (n0 + 2) 24 #[.int .i64 q0, .int .i64 q1, .int .i64 q2, .int .i64 q3, .int .i64 q4, .int .i64 q5, .int .i64 0, .int .i64 0, .int .i64 0, .int .i64 0, .int .i64 0, .int .i64 0] := by
    rw [← hW, ← hn0]
    have := RowAt.new ((w.alloc (.cells #[.int .i64 q0, .int .i64 q1, .int .i64 q2, .int .i64 q3, .int .i64 q4, .int .i64 q5, .int .i64 x6, .int .i64 x7, .int .i64 x8, .int .i64 x9, .int .i64 x10, .int .i64 x11] 24)).alloc (.cells #[.int .i64 0, .int .i64 0, .int .i64 0, .int .i64 0, .int .i64 0, .int .i64 0, .int .i64 0, .int .i64 0, .int .i64 0, .int .i64 0, .int .i64 0, .int .i64 0] 24)) 24 #[.int .i64 q0, .int .i64 q1, .int .i64 q2, .int .i64 q3, .int .i64 q4, .int .i64 q5, .int .i64 0, .int .i64 0, .int .i64 0, .int .i64 0, .int .i64 0, .int .i64 0]
    simpa using this
  have bW : Below n0 w W := by rw [← hW, ← hn0]; exact (((Below.refl _ _).alloc (Nat.le_refl _) _).alloc (by simp) _).alloc (by simp; omega) _
  have HF := Lib.hid (And.intro hsz (And.intro r4 (And.intro r6 (And.intro ro bW))))
  clear ht hok hbb hb hm hnb hp hn0 hsz r4 r6 ro bW hW
  go_enter Try.func16, Try.ntmps16
  go_wp2_with (first | ((with_reducible refine wpList_stop (o := ⟨some 33, _, _, _, _, _⟩) ?_)) | ((with_reducible refine wpList_store_new (o := ⟨none, .store _ _ _, _, _, _, _⟩) ?_ 24 (.tmp 10) (.tmp 32) ?_ ?_ _ #[.int .i64 q0, .int .i64 q1, .int .i64 q2, .int .i64 q3, .int .i64 q4, .int .i64 q5, .int .i64 0, .int .i64 0, .int .i64 0, .int .i64 0, .int .i64 0, .int .i64 0] ?_ ?_ ?_ ?_ ?_); rfl; rfl; rfl; rfl; kernel_rfl; rfl; kernel_rfl))
  unfold Stop
  rw [HW.out, HN0.out, show n0 + 1 + 1 = n0 + 2 from rfl]
  obtain ⟨hsz, r4, r6, ro, bW⟩ := HF.out
  clear HW HF
  go_wp2_with (first | ((with_reducible refine wpList_build_zero (o := ⟨some 33, _, _, _, _, _⟩) Try.underlying26 balance_info ?_ ?_ ?_); rfl; rfl) | ((with_reducible refine wpList_stop (o := ⟨some 35, _, _, _, _, _⟩) ?_)))
  unfold Stop
  refine wpList_append_irows Try.underlying26 balance_info rfl (by decide) (by decide) (.tmp 33) (.tmp 34) (n0 + 3) [] (bs.map p2) _ _ (by have := own_zero 46 2 W; rw [hsz] at this; exact this) (HB.out.below ((show Below w.heap.size w W by rw [HN0.out]; exact bW).alloc (by rw [HN0.out]; omega) _)) ?_ ?_ ?_ ?_ ?_ ?_ ?_
  · have h1 := HNB.out
    rw [List.length_map] at *
    simp
    omega
  · simp; omega
  · rfl
  · rfl
  · rfl
  · rw [HNB.out]
    rfl
  intro v' w2 hown hg
  obtain ⟨Ao, no, co, rfl⟩ := hown.slice3
  have b2 : Below W.heap.size W w2 := ((Below.refl W.heap.size W).alloc (Nat.le_refl _) (.cells #[] 46)).grown hg (by simp) (fun j e => by simp [Value.ownBlock] at e; omega)
  have hown2 : OwnI 46 2 w2 (n0 + 3) (.slice Ao no co) (bs.map p2) := hown
  have r42 := r4.below b2 r4.lt
  have r62 := r6.below b2 r6.lt
  have ro2 := ro.below b2 ro.lt
  have bw2 : Below n0 w w2 := bW.trans (b2.mono (by omega))
  have hs2 : n0 + 3 ≤ w2.heap.size := by have := b2.size; omega
  clear hown hg b2 r4 r6 ro bW hsz HB HNB
  obtain ⟨op, hop⟩ : ∃ z, openR ⟨q0, q1, q2, q3, q4, q5⟩ = z := ⟨_, rfl⟩
  rw [hop] at OPN
  have HR42 := Lib.hid (row_cells (show w2.heap[n0]? = _ from r42))
  go_wp2_with (first | ((with_reducible refine wpList_load_at (o := ⟨some 36, _, _, _, _, _⟩) ?_ 24 (.tmp 4) ?_ n0 0 ?_ _ _ HR42.out Try.underlying24 ?_ ?_ ?_); rfl; rfl; rfl; rfl; kernel_rfl))
  refine (OPN.out _).mono ?_
  rintro e w3 ⟨rfl, hb3⟩
  have r43 : RowAt w3 n0 24 #[.int .i64 q0, .int .i64 q1, .int .i64 q2, .int .i64 q3, .int .i64 q4, .int .i64 q5, .int .i64 x6, .int .i64 x7, .int .i64 x8, .int .i64 x9, .int .i64 x10, .int .i64 x11] := r42.below hb3 r42.lt
  have r63 : RowAt w3 (n0 + 1) 24 #[.int .i64 0, .int .i64 0, .int .i64 0, .int .i64 0, .int .i64 0, .int .i64 0, .int .i64 0, .int .i64 0, .int .i64 0, .int .i64 0, .int .i64 0, .int .i64 0] := r62.below hb3 r62.lt
  have ro3 : RowAt w3 (n0 + 2) 24 #[.int .i64 q0, .int .i64 q1, .int .i64 q2, .int .i64 q3, .int .i64 q4, .int .i64 q5, .int .i64 0, .int .i64 0, .int .i64 0, .int .i64 0, .int .i64 0, .int .i64 0] := ro2.below hb3 ro2.lt
  have hown3 := hown2.below hb3
  have bw3 : Below n0 w w3 := bw2.trans (hb3.mono (by omega))
  clear hb3 r42 r62 ro2 hown2 bw2 HR42
  cases op
  · have NOP : Hid (settleSpec l ⟨q0, q1, q2, q3, q4, q5⟩ bs = ⟨0, 0, 0, 0, 0, 0, [], [], bs⟩) := Lib.hid (by unfold settleSpec; rw [if_neg (by rw [hop]; simp)])
    have HRO3 := Lib.hid (row_cells (show w3.heap[n0 + 2]? = _ from ro3))
    have HR63 := Lib.hid r63
    have HO3 := Lib.hid hown3
    have HB3 := Lib.hid bw3
    clear hop r43 r63 ro3 hown3 bw3
    go_wp2_with (first | ((with_reducible refine wpList_load_at (o := ⟨some 39, _, _, _, _, _⟩) ?_ 24 (.tmp 10) ?_ (n0 + 2) 0 ?_ _ _ HRO3.out Try.underlying24 ?_ ?_ ?_); rfl; rfl; rfl; rfl; kernel_rfl) | ((with_reducible refine wpList_stop (o := ⟨none, .store _ _ _, _, _, _, _⟩) ?_)))
    unfold Stop
    refine wpList_store_row rfl 24 (.tmp 6) (.tmp 39) rfl (n0 + 1) #[.int .i64 q0, .int .i64 q1, .int .i64 q2, .int .i64 q3, .int .i64 q4, .int .i64 q5, .int .i64 0, .int .i64 0, .int .i64 0, .int .i64 0, .int .i64 0, .int .i64 0] rfl rfl 24 #[.int .i64 0, .int .i64 0, .int .i64 0, .int .i64 0, .int .i64 0, .int .i64 0, .int .i64 0, .int .i64 0, .int .i64 0, .int .i64 0, .int .i64 0, .int .i64 0] HR63.out (by kernel_rfl) rfl (by kernel_rfl) ?_
    go_wp2_with fail
    refine bodyPost_ret (results_cell3 rfl _ _ (n0 + 1) _ #[.int .i64 q0, .int .i64 q1, .int .i64 q2, .int .i64 q3, .int .i64 q4, .int .i64 q5, .int .i64 0, .int .i64 0, .int .i64 0, .int .i64 0, .int .i64 0, .int .i64 0] _ _ rfl (setRow_same HR63.out) Try.underlying24 rfl (by kernel_rfl)) rfl ?_
    rw [NOP.out]
    refine ⟨.slice none 0 0, .slice none 0 0, .slice Ao no co, rfl, OwnI.nil _ _ _ _, OwnI.nil _ _ _ _, ?_, ?_⟩
    · refine OwnI.mono (OwnI.kept (w := w3) HO3.out ?_) (by rw [HN0.out]; omega)
      intro g hg
      exact setRow_other (fun e => (HO3.out.lt g hg).1 |> fun h => by omega)
    · rw [HN0.out]
      exact below_setRow HB3.out (by omega)
  · have h4 := openR_iff.1 hop
    dsimp only at h4
    obtain ⟨s3, hs3⟩ : ∃ z, sumL [q2, q3, q4, q5] = z := ⟨_, rfl⟩
    have SM := Lib.hid (fun bb W hi => sum15_any bb 4 [q2, q3, q4, q5] W (by simp) hi (by
      intro x hx
      simp at hx
      rcases hx with rfl | rfl | rfl | rfl
      · exact h4.1
      · exact h4.2.1
      · exact h4.2.2.1
      · exact h4.2.2.2.1))
    rw [hs3] at SM
    have hsum : (⟨q0, q1, q2, q3, q4, q5⟩ : RowV).sum = s3 := by rw [← hs3]; unfold RowV.sum sumL; simp
    have hgs := good_start hop bs
    rw [hsum] at hgs
    have HM3 : Hid (s3 ≤ 1000000000000000000) := Lib.hid (by rw [← hsum]; exact h4.2.2.2.2)
    have HOPEN := Lib.hid hop
    have HLEFT : Hid ((startS ⟨q0, q1, q2, q3, q4, q5⟩ bs).left = s3) := Lib.hid hsum
    have HR43 := Lib.hid (row_cells (show w3.heap[n0]? = _ from r43))
    have REF3 := Lib.hid (show RefAt s3 n0 w w3 #[.int .i64 q0, .int .i64 q1, .int .i64 q2, .int .i64 q3, .int .i64 q4, .int .i64 q5, .int .i64 x6, .int .i64 x7, .int .i64 x8, .int .i64 x9, .int .i64 x10, .int .i64 x11] #[.int .i64 0, .int .i64 0, .int .i64 0, .int .i64 0, .int .i64 0, .int .i64 0, .int .i64 0, .int .i64 0, .int .i64 0, .int .i64 0, .int .i64 0, .int .i64 0] ⟨q0, q1, q2, q3, q4, q5⟩ (startS ⟨q0, q1, q2, q3, q4, q5⟩ bs) (.slice none 0 0) (.slice none 0 0) (.slice Ao no co) 0 from
      ⟨r43, r63, ro3, OwnI.nil _ _ _ _, OwnI.nil _ _ _ _, hown3, hgs, by simp [startS], by simp [startS], hbl, HBB.out, bw3⟩)
    clear hop h4 hs3 hsum hgs r43 r63 ro3 hown3 bw3
    go_wp2_with (first | ((with_reducible refine wpList_load_at (o := ⟨some 41, _, _, _, _, _⟩) ?_ 24 (.tmp 4) ?_ n0 0 ?_ _ _ HR43.out Try.underlying24 ?_ ?_ ?_); rfl; rfl; rfl; rfl; kernel_rfl))
    refine (SRC.out _).mono ?_
    rintro e w4 ⟨b4, rfl, hi4, hb4⟩
    have REF4 := Lib.hid (REF3.out.below hb4)
    have HI4 := Lib.hid hi4
    clear hi4 hb4
    go_wp2_with fail
    refine (SM.out b4 _ HI4.out).mono ?_
    rintro e w5 ⟨rfl, rfl⟩
    go_wp2_with fail
    go_loopw [12, 13, 14, 15] (fun pv rv lv iv wr => ∃ (k : Nat) (lf : Int), k ≤ m ∧ iv = .int .i64 k ∧ lv = .int .i64 lf ∧ Hid (lf = ((l.take k).foldl (stepT q0 q1) (startS ⟨q0, q1, q2, q3, q4, q5⟩ bs)).left ∧ RefAt s3 n0 w wr #[.int .i64 q0, .int .i64 q1, .int .i64 q2, .int .i64 q3, .int .i64 q4, .int .i64 q5, .int .i64 x6, .int .i64 x7, .int .i64 x8, .int .i64 x9, .int .i64 x10, .int .i64 x11] #[.int .i64 0, .int .i64 0, .int .i64 0, .int .i64 0, .int .i64 0, .int .i64 0, .int .i64 0, .int .i64 0, .int .i64 0, .int .i64 0, .int .i64 0, .int .i64 0] ⟨q0, q1, q2, q3, q4, q5⟩ ((l.take k).foldl (stepT q0 q1) (startS ⟨q0, q1, q2, q3, q4, q5⟩ bs)) pv rv (.slice Ao no co) k)) (fun _ _ _ i _ => m - (intOf i).toNat)
    case atStart => exact ⟨0, s3, by omega, rfl, rfl, Lib.hid ⟨HLEFT.out.symm, REF4.out⟩⟩
    case round =>
      obtain ⟨k, lf, hk, rfl, rfl, HR⟩ := hrel
      obtain ⟨vp, hvp⟩ : ∃ z, u12 = z := ⟨_, rfl⟩
      obtain ⟨vr, hvr⟩ : ∃ z, u13 = z := ⟨_, rfl⟩
      subst hvp hvr
      obtain ⟨Z, hZ⟩ : ∃ z, (l.take k).foldl (stepT q0 q1) (startS ⟨q0, q1, q2, q3, q4, q5⟩ bs) = z := ⟨_, rfl⟩
      obtain ⟨hlf, hr⟩ := HR.out
      rw [hZ] at hr hlf
      clear HR
      by_cases hk2 : k < m
      · obtain ⟨t, ht⟩ : ∃ t, l[k]? = some t := ⟨_, List.getElem?_eq_getElem (by rw [HM.out]; exact hk2)⟩
        have hst : (l.take (k + 1)).foldl (stepT q0 q1) (startS ⟨q0, q1, q2, q3, q4, q5⟩ bs) = stepT q0 q1 Z t := by
          rw [List.take_add_one, ht, List.foldl_append, hZ]
          rfl
        have hbn : Below w.heap.size w wr := by rw [HN0.out]; exact hr.bw
        obtain ⟨b, o, hA, va, hva, hcells⟩ : ∃ b o, AT = some ⟨b, o, none⟩ ∧ ∃ va, IntsL w va t.acc ∧ ∀ (j : Nat) x, (termC t va)[j]? = some x → wr.cell? ⟨b, o + k * 5 + j, none⟩ = some x := by
          rcases HT.out with ⟨hnil, _⟩ | ⟨b, o, c, he, hlt, hc⟩
          · rw [hnil] at ht; simp at ht
          · simp only [Value.slice.injEq] at he
            obtain ⟨va, h1, h2⟩ := hc k t ht
            exact ⟨b, o, he.1, va, h1, fun j x hx => (hbn.cell (p := ⟨b, o + k * 5 + j, none⟩) hlt).trans (h2 j x hx)⟩
        subst hA
        have hto := HOK.out t (List.mem_of_getElem? ht)
        have VC := Lib.hid (fun W (h : Below w.heap.size w W) => validR_any t va W hto.2.2 (hva.below h) hto.2.1)
        have HLD := Lib.hid hcells
        have HVA := Lib.hid hva
        have HTO := Lib.hid hto
        have HREF := Lib.hid hr
        have HSTE := Lib.hid hst
        have HOC := Lib.hid (termC_one t hva)
        have HLF := Lib.hid hlf
        have HW8 := Lib.hid (hbn.alloc (o := .cells (termC t va) 52) hbn.size)
        obtain ⟨vv, hvv⟩ : ∃ z, validT t = z := ⟨_, rfl⟩
        rw [hvv] at VC
        clear hr ht hst hZ hbn hva hcells hto
        cases vv
        · have HEQ : Hid (stepT q0 q1 Z t = Z) := Lib.hid (by unfold stepT; rw [hvv]; rfl)
          clear hvv hlf
          go_wp2_with (first | ((with_reducible refine load_term (o := ⟨some 53, _, _, _, _, _⟩) (.tmp 52) b (o + k * 5) t va HLD.out ?_ ?_ ?_ ?_); rfl; rfl; rfl) | ((with_reducible refine store_term (o := ⟨none, .store _ _ _, _, _, _, _⟩) (.tmp 16) (.tmp 53) t va _ HOC.out ?_ ?_ ?_ ?_ ?_ ?_); rfl; rfl; rfl; rfl; rfl) | ((with_reducible refine load_term (o := ⟨some 54, _, _, _, _, _⟩) (.tmp 16) wr.heap.size 0 t va (row_cells (heap_alloc_last wr _)) ?_ ?_ ?_ ?_); rfl; rfl; rfl))
          refine (VC.out _ HW8.out).mono ?_
          rintro e w9 ⟨rfl, hb9⟩
          have HEND := Lib.hid (HREF.out.below (((Below.refl wr.heap.size wr).alloc (Nat.le_refl _) (.cells (termC t va) 52)).trans (hb9.mono (by simp))))
          clear hb9
          go_wp2_with fail
          go_roundw
          case rel => exact ⟨k + 1, lf, by omega, by go_num, rfl, Lib.hid (by rw [HSTE.out, HEQ.out]; exact ⟨HLF.out, HEND.out.more⟩)⟩
          case measure => simp [intOf]; omega
        · have HVV := Lib.hid hvv
          rcases validT_kinds hvv with hkk | hkk | hkk | hkk | hkk
          · have hv := validT_1 hvv hkk
            have hc0 : (termC t va)[0]? = some (.int .i64 1) := by rw [← hkk]; rfl
            obtain ⟨xn, hxn⟩ : ∃ z, t.n = z := ⟨_, rfl⟩
            obtain ⟨xm, hxm⟩ : ∃ z, t.m = z := ⟨_, rfl⟩
            obtain ⟨xa, hxa⟩ : ∃ z, t.ab = z := ⟨_, rfl⟩
            have g1 := HREF.out.good.l0
            have g2 := HREF.out.good.p0
            have g3 := HREF.out.good.t0
            have g4 := HREF.out.good.r0
            have g5 := HREF.out.good.o0
            have g6 := HREF.out.good.c0
            have g7 := HREF.out.good.sum
            have g8 := HM3.out
            rw [← hlf] at g1 g7
            have hnb := inR_iff.1 hv.1
            have hab := inR_iff.1 hv.2.2.2
            rw [hxn] at hnb
            rw [hxa] at hab
            obtain ⟨mx, hmx0⟩ : ∃ z, max (lf - xa) 0 = z := ⟨_, rfl⟩
            have hm1 : 0 ≤ mx ∧ mx ≤ lf := by omega
            have hp := partN_bd hm1.1 (show 0 ≤ xn by omega) hnb.2
            have PT := Lib.hid (fun W => refPart_any mx xn hm1.1 (by omega) (by omega) hnb.2 W)
            obtain ⟨x, hx⟩ : ∃ z, partN mx xn = z := ⟨_, rfl⟩
            rw [hx] at PT hp
            obtain ⟨y, hy⟩ : ∃ z, lf - xa = z := ⟨_, rfl⟩
            have wy : IntKind.i64.wrap (lf - xa) = y := by rw [hy]; exact IntWalk.i64_in _ (by omega)
            have hmx : (if y < 0 then 0 else y) = mx := by rw [← hmx0, ← hy]; split <;> omega
            obtain ⟨z1, hz1⟩ : ∃ z, Z.pa = z := ⟨_, rfl⟩
            obtain ⟨z2, hz2⟩ : ∃ z, z1 + x = z := ⟨_, rfl⟩
            have wz : IntKind.i64.wrap (z1 + x) = z2 := by rw [hz2]; exact IntWalk.i64_in _ (by omega)
            obtain ⟨l2, hl2⟩ : ∃ z, lf - x = z := ⟨_, rfl⟩
            have wl : IntKind.i64.wrap (lf - x) = l2 := by rw [hl2]; exact IntWalk.i64_in _ (by omega)
            have HG1 : Hid (GoodS s3 ({ Z with left := l2, pa := z2 } : StV)) := Lib.hid ⟨by dsimp only; omega, by dsimp only; omega, by dsimp only; omega, by dsimp only; omega, by dsimp only; omega, by dsimp only; omega, by dsimp only; omega⟩
            have HEQ : Hid (stepT q0 q1 Z t = { Z with left := l2, pa := z2, ps := Z.ps ++ if 0 < x then [(xm, x)] else [] }) := Lib.hid (by unfold stepT; rw [if_pos HVV.out]; unfold doTerm; rw [if_pos hkk]; unfold passStep; dsimp only; rw [← hlf, hxa, hxn, hmx0, hx, hz1, hl2, hz2, hxm])
            have HZ1 := Lib.hid hz1
            have HXM := Lib.hid hxm
            have HLF2 := Lib.hid hlf
            clear hvv hv hlf g1 g2 g3 g4 g5 g6 g7 g8 hz1 hz2 hnb hab hm1 hp hx hy hmx0 hl2
            go_wp2_with (first | ((with_reducible refine load_term (o := ⟨some 53, _, _, _, _, _⟩) (.tmp 52) b (o + k * 5) t va HLD.out ?_ ?_ ?_ ?_); rfl; rfl; rfl) | ((with_reducible refine store_term (o := ⟨none, .store _ _ _, _, _, _, _⟩) (.tmp 16) (.tmp 53) t va _ HOC.out ?_ ?_ ?_ ?_ ?_ ?_); rfl; rfl; rfl; rfl; rfl) | ((with_reducible refine load_term (o := ⟨some 54, _, _, _, _, _⟩) (.tmp 16) wr.heap.size 0 t va (row_cells (heap_alloc_last wr _)) ?_ ?_ ?_ ?_); rfl; rfl; rfl))
            refine (VC.out _ HW8.out).mono ?_
            rintro e w9 ⟨rfl, hb9⟩
            have hb89 : Below wr.heap.size wr w9 := ((Below.refl wr.heap.size wr).alloc (Nat.le_refl _) (.cells (termC t va) 52)).trans (hb9.mono (by simp))
            have HREF9 := Lib.hid (HREF.out.below hb89)
            have HB09 := Lib.hid (HW8.out.trans (hb9.mono HW8.out.size))
            have hrt9 : RowAt w9 wr.heap.size 52 (termC t va) := (RowAt.new wr _ _).below hb9 (by simp)
            have HLTN := Lib.hid (show n0 + 2 < wr.heap.size from HREF.out.ro.lt)
            have HRT9 := Lib.hid hrt9
            have c90 : w9.cell? ⟨wr.heap.size, 0, none⟩ = some (.int .i64 1) := by rw [hrt9.cell 0]; exact hc0
            have c91 : w9.cell? ⟨wr.heap.size, 1, none⟩ = some (.int .i64 xn) := by rw [← hxn]; exact hrt9.cell 1
            have c93 : w9.cell? ⟨wr.heap.size, 3, none⟩ = some (.int .i64 xa) := by rw [← hxa]; exact hrt9.cell 3
            have e6 : w9.cell? ⟨n0 + 2, 6, none⟩ = some (.int .i64 z1) := by rw [← HZ1.out]; exact HREF9.out.ro.cell 6
            have f6 : w9.frozen? ⟨n0 + 2, 6, none⟩ = false := HREF9.out.ro.free 6
            have REF11 := Lib.hid (HREF9.out.setOut 6 (.int .i64 z2) (S' := ({ Z with left := l2, pa := z2 } : StV)) rfl HG1.out rfl rfl rfl)
            clear hb9 hb89 hrt9 hc0 hxn hxm hxa
            by_cases hx0 : 0 < x
            · have d0 : decide (0 < x) = true := by simpa using hx0
              have HEX := Lib.hid (show (if 0 < x then [(xm, x)] else []) = [(xm, x)] from if_pos hx0)
              clear hx0
              go_wp2_with fail
              refine (PT.out _).mono ?_
              rintro e w10 ⟨rfl, rfl⟩
              go_wp2_with (first | ((with_reducible refine wpList_stop (o := ⟨some 78, _, _, _, _, _⟩) ?_)))
              unfold Stop
              obtain ⟨W11, hW11⟩ : ∃ z, w9.setCell ⟨n0 + 2, 6, none⟩ (.int .i64 z2) = z := ⟨_, rfl⟩
              have c112 : W11.cell? ⟨wr.heap.size, 2, none⟩ = some (.int .i64 xm) := by
                rw [← hW11, cell_same (Below.heap_setCell w9 ⟨n0 + 2, 6, none⟩ _ wr.heap.size (fun e => by have := HLTN.out; dsimp only at e; omega)), ← HXM.out]
                exact HRT9.out.cell 2
              have REFP := Lib.hid (show RefAt s3 n0 w W11 #[.int .i64 q0, .int .i64 q1, .int .i64 q2, .int .i64 q3, .int .i64 q4, .int .i64 q5, .int .i64 x6, .int .i64 x7, .int .i64 x8, .int .i64 x9, .int .i64 x10, .int .i64 x11] #[.int .i64 0, .int .i64 0, .int .i64 0, .int .i64 0, .int .i64 0, .int .i64 0, .int .i64 0, .int .i64 0, .int .i64 0, .int .i64 0, .int .i64 0, .int .i64 0] ⟨q0, q1, q2, q3, q4, q5⟩ ({ Z with left := l2, pa := z2 } : StV) u12 u13 (.slice Ao no co) k from by rw [← hW11]; exact REF11.out)
              have c400 : W11.cell? ⟨n0, 0, none⟩ = some (.int .i64 q0) := REFP.out.r4.cell 0
              have c401 : W11.cell? ⟨n0, 1, none⟩ = some (.int .i64 q1) := REFP.out.r4.cell 1
              rw [hW11]
              clear hW11 REF11
              go_wp2_with (first | ((with_reducible refine wpList_stop (o := ⟨some 82, _, _, _, _, _⟩) ?_)))
              unfold Stop
              have b13 : Below W11.heap.size W11 (W11.alloc (.cells #[.int .i64 xm, .int .i64 x] 42)) := (Below.refl _ _).alloc (Nat.le_refl _) _
              refine wpList_append_irow2 Try.underlying32 pass_info rfl (by decide) (by decide) (.tmp 76) (.tmp 81) (n0 + 3) (Z.ps.map p2) [xm, x] rfl W11.heap.size 1 u12 (REFP.out.below b13).ps (by rw [List.length_map]; have := HREF9.out.pl; omega) (by have := REFP.out.ro.lt; simp; omega) (irow_new W11 [xm, x] 42) rfl rfl rfl rfl (fun v' w13 hown' hg' => ?_)
              obtain ⟨A', n', c', rfl⟩ := hown'.slice3
              have HEND := Lib.hid (REFP.out.pushP (S' := { Z with left := l2, pa := z2, ps := Z.ps ++ [(xm, x)] }) b13 (by rw [List.map_append]; exact hown') hg' rfl (by have := HREF9.out.pl; simp; omega))
              clear hown' hg' b13
              go_wp2_with fail
              go_roundw
              case rel => exact ⟨k + 1, l2, by omega, by go_num, rfl, Lib.hid (by rw [HSTE.out, HEQ.out, HEX.out]; exact ⟨rfl, HEND.out⟩)⟩
              case measure => simp [intOf]; omega
            · have d0 : decide (0 < x) = false := by simpa using hx0
              have HEX := Lib.hid (show (if 0 < x then [(xm, x)] else []) = [] from if_neg hx0)
              have HEND := Lib.hid REF11.out.more
              clear hx0
              go_wp2_with fail
              refine (PT.out _).mono ?_
              rintro e w10 ⟨rfl, rfl⟩
              go_wp2_with fail
              go_roundw
              case rel => exact ⟨k + 1, l2, by omega, by go_num, rfl, Lib.hid (by rw [HSTE.out, HEQ.out, HEX.out, List.append_nil]; exact ⟨rfl, HEND.out⟩)⟩
              case measure => simp [intOf]; omega
          · have hv := validT_2 hvv hkk
            have hc0 : (termC t va)[0]? = some (.int .i64 2) := by rw [← hkk]; rfl
            obtain ⟨xn, hxn⟩ : ∃ z, t.n = z := ⟨_, rfl⟩
            obtain ⟨xm, hxm⟩ : ∃ z, t.m = z := ⟨_, rfl⟩
            obtain ⟨xa, hxa⟩ : ∃ z, t.ab = z := ⟨_, rfl⟩
            have g1 := HREF.out.good.l0
            have g2 := HREF.out.good.p0
            have g3 := HREF.out.good.t0
            have g4 := HREF.out.good.r0
            have g5 := HREF.out.good.o0
            have g6 := HREF.out.good.c0
            have g7 := HREF.out.good.sum
            have g8 := HM3.out
            rw [← hlf] at g1 g7
            have hnb := inR_iff.1 hv.1
            rw [hxn] at hnb
            have hp := partN_bd g1 (show 0 ≤ xn by omega) hnb.2
            have PT := Lib.hid (fun W => refPart_any lf xn g1 (by omega) (by omega) hnb.2 W)
            obtain ⟨x, hx⟩ : ∃ z, partN lf xn = z := ⟨_, rfl⟩
            rw [hx] at PT hp
            obtain ⟨z1, hz1⟩ : ∃ z, Z.ta = z := ⟨_, rfl⟩
            obtain ⟨z2, hz2⟩ : ∃ z, z1 + x = z := ⟨_, rfl⟩
            have wz : IntKind.i64.wrap (z1 + x) = z2 := by rw [hz2]; exact IntWalk.i64_in _ (by omega)
            obtain ⟨l2, hl2⟩ : ∃ z, lf - x = z := ⟨_, rfl⟩
            have wl : IntKind.i64.wrap (lf - x) = l2 := by rw [hl2]; exact IntWalk.i64_in _ (by omega)
            have HG1 : Hid (GoodS s3 ({ Z with left := l2, ta := z2 } : StV)) := Lib.hid ⟨by dsimp only; omega, by dsimp only; omega, by dsimp only; omega, by dsimp only; omega, by dsimp only; omega, by dsimp only; omega, by dsimp only; omega⟩
            have HEQ : Hid (stepT q0 q1 Z t = { Z with left := l2, ta := z2 }) := Lib.hid (by unfold stepT; rw [if_pos HVV.out]; unfold doTerm; rw [if_neg (by omega)]; rw [if_pos hkk]; unfold taxStep; dsimp only; rw [← hlf, hxn, hx, hz1, hl2, hz2])
            have HZ1 := Lib.hid hz1
            have HLF2 := Lib.hid hlf
            clear hvv hv hlf g1 g2 g3 g4 g5 g6 g7 g8 hz1 hz2 hnb hp hx hl2
            go_wp2_with (first | ((with_reducible refine load_term (o := ⟨some 53, _, _, _, _, _⟩) (.tmp 52) b (o + k * 5) t va HLD.out ?_ ?_ ?_ ?_); rfl; rfl; rfl) | ((with_reducible refine store_term (o := ⟨none, .store _ _ _, _, _, _, _⟩) (.tmp 16) (.tmp 53) t va _ HOC.out ?_ ?_ ?_ ?_ ?_ ?_); rfl; rfl; rfl; rfl; rfl) | ((with_reducible refine load_term (o := ⟨some 54, _, _, _, _, _⟩) (.tmp 16) wr.heap.size 0 t va (row_cells (heap_alloc_last wr _)) ?_ ?_ ?_ ?_); rfl; rfl; rfl))
            refine (VC.out _ HW8.out).mono ?_
            rintro e w9 ⟨rfl, hb9⟩
            have hb89 : Below wr.heap.size wr w9 := ((Below.refl wr.heap.size wr).alloc (Nat.le_refl _) (.cells (termC t va) 52)).trans (hb9.mono (by simp))
            have HREF9 := Lib.hid (HREF.out.below hb89)
            have HB09 := Lib.hid (HW8.out.trans (hb9.mono HW8.out.size))
            have hrt9 : RowAt w9 wr.heap.size 52 (termC t va) := (RowAt.new wr _ _).below hb9 (by simp)
            have HLTN := Lib.hid (show n0 + 2 < wr.heap.size from HREF.out.ro.lt)
            have HRT9 := Lib.hid hrt9
            have c90 : w9.cell? ⟨wr.heap.size, 0, none⟩ = some (.int .i64 2) := by rw [hrt9.cell 0]; exact hc0
            have c91 : w9.cell? ⟨wr.heap.size, 1, none⟩ = some (.int .i64 xn) := by rw [← hxn]; exact hrt9.cell 1
            have c93 : w9.cell? ⟨wr.heap.size, 3, none⟩ = some (.int .i64 xa) := by rw [← hxa]; exact hrt9.cell 3
            have e6 : w9.cell? ⟨n0 + 2, 7, none⟩ = some (.int .i64 z1) := by rw [← HZ1.out]; exact HREF9.out.ro.cell 7
            have f6 : w9.frozen? ⟨n0 + 2, 7, none⟩ = false := HREF9.out.ro.free 7
            have REF11 := Lib.hid (HREF9.out.setOut 7 (.int .i64 z2) (S' := ({ Z with left := l2, ta := z2 } : StV)) rfl HG1.out rfl rfl rfl)
            clear hb9 hb89 hrt9 hc0 hxn hxm hxa
            have HEND := Lib.hid REF11.out.more
            go_wp2_with fail
            refine (PT.out _).mono ?_
            rintro e w10 ⟨rfl, rfl⟩
            go_wp2_with fail
            go_roundw
            case rel => exact ⟨k + 1, l2, by omega, by go_num, rfl, Lib.hid (by rw [HSTE.out, HEQ.out]; exact ⟨rfl, HEND.out⟩)⟩
            case measure => simp [intOf]; omega
          · have hv := validT_3 hvv hkk
            have hc0 : (termC t va)[0]? = some (.int .i64 3) := by rw [← hkk]; rfl
            obtain ⟨xn, hxn⟩ : ∃ z, t.n = z := ⟨_, rfl⟩
            obtain ⟨xm, hxm⟩ : ∃ z, t.m = z := ⟨_, rfl⟩
            obtain ⟨xa, hxa⟩ : ∃ z, t.ab = z := ⟨_, rfl⟩
            have g1 := HREF.out.good.l0
            have g2 := HREF.out.good.p0
            have g3 := HREF.out.good.t0
            have g4 := HREF.out.good.r0
            have g5 := HREF.out.good.o0
            have g6 := HREF.out.good.c0
            have g7 := HREF.out.good.sum
            have g8 := HM3.out
            rw [← hlf] at g1 g7
            have hnb := inR_iff.1 hv.1
            rw [hxn] at hnb
            have hp := partN_bd g1 (show 0 ≤ xn by omega) hnb.2
            have PT := Lib.hid (fun W => refPart_any lf xn g1 (by omega) (by omega) hnb.2 W)
            obtain ⟨x, hx⟩ : ∃ z, partN lf xn = z := ⟨_, rfl⟩
            rw [hx] at PT hp
            have hmb := inR_iff.1 hv.2.2.1
            rw [hxm] at hmb
            obtain ⟨pm, hpm⟩ : ∃ z, q1 + xm = z := ⟨_, rfl⟩
            have wpm : IntKind.i64.wrap (q1 + xm) = pm := by rw [hpm]; exact IntWalk.i64_in _ (by have := HP.out; omega)
            obtain ⟨z1, hz1⟩ : ∃ z, Z.re = z := ⟨_, rfl⟩
            obtain ⟨z2, hz2⟩ : ∃ z, z1 + x = z := ⟨_, rfl⟩
            have wz : IntKind.i64.wrap (z1 + x) = z2 := by rw [hz2]; exact IntWalk.i64_in _ (by omega)
            obtain ⟨l2, hl2⟩ : ∃ z, lf - x = z := ⟨_, rfl⟩
            have wl : IntKind.i64.wrap (lf - x) = l2 := by rw [hl2]; exact IntWalk.i64_in _ (by omega)
            have HG1 : Hid (GoodS s3 ({ Z with left := l2, re := z2 } : StV)) := Lib.hid ⟨by dsimp only; omega, by dsimp only; omega, by dsimp only; omega, by dsimp only; omega, by dsimp only; omega, by dsimp only; omega, by dsimp only; omega⟩
            have HEQ : Hid (stepT q0 q1 Z t = { Z with left := l2, re := z2, rs := Z.rs ++ if 0 < x then [(q0, pm, x)] else [] }) := Lib.hid (by unfold stepT; rw [if_pos HVV.out]; unfold doTerm; rw [if_neg (by omega)]; rw [if_neg (by omega)]; rw [if_pos hkk]; unfold resStep; dsimp only; rw [← hlf, hxn, hx, hz1, hl2, hz2, hxm, hpm])
            have HZ1 := Lib.hid hz1
            have HXM := Lib.hid hxm
            have HLF2 := Lib.hid hlf
            clear hvv hv hlf g1 g2 g3 g4 g5 g6 g7 g8 hz1 hz2 hnb hp hx hmb hpm hl2
            go_wp2_with (first | ((with_reducible refine load_term (o := ⟨some 53, _, _, _, _, _⟩) (.tmp 52) b (o + k * 5) t va HLD.out ?_ ?_ ?_ ?_); rfl; rfl; rfl) | ((with_reducible refine store_term (o := ⟨none, .store _ _ _, _, _, _, _⟩) (.tmp 16) (.tmp 53) t va _ HOC.out ?_ ?_ ?_ ?_ ?_ ?_); rfl; rfl; rfl; rfl; rfl) | ((with_reducible refine load_term (o := ⟨some 54, _, _, _, _, _⟩) (.tmp 16) wr.heap.size 0 t va (row_cells (heap_alloc_last wr _)) ?_ ?_ ?_ ?_); rfl; rfl; rfl))
            refine (VC.out _ HW8.out).mono ?_
            rintro e w9 ⟨rfl, hb9⟩
            have hb89 : Below wr.heap.size wr w9 := ((Below.refl wr.heap.size wr).alloc (Nat.le_refl _) (.cells (termC t va) 52)).trans (hb9.mono (by simp))
            have HREF9 := Lib.hid (HREF.out.below hb89)
            have HB09 := Lib.hid (HW8.out.trans (hb9.mono HW8.out.size))
            have hrt9 : RowAt w9 wr.heap.size 52 (termC t va) := (RowAt.new wr _ _).below hb9 (by simp)
            have HLTN := Lib.hid (show n0 + 2 < wr.heap.size from HREF.out.ro.lt)
            have HRT9 := Lib.hid hrt9
            have c90 : w9.cell? ⟨wr.heap.size, 0, none⟩ = some (.int .i64 3) := by rw [hrt9.cell 0]; exact hc0
            have c91 : w9.cell? ⟨wr.heap.size, 1, none⟩ = some (.int .i64 xn) := by rw [← hxn]; exact hrt9.cell 1
            have c93 : w9.cell? ⟨wr.heap.size, 3, none⟩ = some (.int .i64 xa) := by rw [← hxa]; exact hrt9.cell 3
            have e6 : w9.cell? ⟨n0 + 2, 8, none⟩ = some (.int .i64 z1) := by rw [← HZ1.out]; exact HREF9.out.ro.cell 8
            have f6 : w9.frozen? ⟨n0 + 2, 8, none⟩ = false := HREF9.out.ro.free 8
            have REF11 := Lib.hid (HREF9.out.setOut 8 (.int .i64 z2) (S' := ({ Z with left := l2, re := z2 } : StV)) rfl HG1.out rfl rfl rfl)
            clear hb9 hb89 hrt9 hc0 hxn hxm hxa
            by_cases hx0 : 0 < x
            · have d0 : decide (0 < x) = true := by simpa using hx0
              have HEX := Lib.hid (show (if 0 < x then [(q0, pm, x)] else []) = [(q0, pm, x)] from if_pos hx0)
              clear hx0
              go_wp2_with fail
              refine (PT.out _).mono ?_
              rintro e w10 ⟨rfl, rfl⟩
              go_wp2_with (first | ((with_reducible refine wpList_stop (o := ⟨some 109, _, _, _, _, _⟩) ?_)))
              unfold Stop
              obtain ⟨W11, hW11⟩ : ∃ z, w9.setCell ⟨n0 + 2, 8, none⟩ (.int .i64 z2) = z := ⟨_, rfl⟩
              have c112 : W11.cell? ⟨wr.heap.size, 2, none⟩ = some (.int .i64 xm) := by
                rw [← hW11, cell_same (Below.heap_setCell w9 ⟨n0 + 2, 8, none⟩ _ wr.heap.size (fun e => by have := HLTN.out; dsimp only at e; omega)), ← HXM.out]
                exact HRT9.out.cell 2
              have REFP := Lib.hid (show RefAt s3 n0 w W11 #[.int .i64 q0, .int .i64 q1, .int .i64 q2, .int .i64 q3, .int .i64 q4, .int .i64 q5, .int .i64 x6, .int .i64 x7, .int .i64 x8, .int .i64 x9, .int .i64 x10, .int .i64 x11] #[.int .i64 0, .int .i64 0, .int .i64 0, .int .i64 0, .int .i64 0, .int .i64 0, .int .i64 0, .int .i64 0, .int .i64 0, .int .i64 0, .int .i64 0, .int .i64 0] ⟨q0, q1, q2, q3, q4, q5⟩ ({ Z with left := l2, re := z2 } : StV) u12 u13 (.slice Ao no co) k from by rw [← hW11]; exact REF11.out)
              have c400 : W11.cell? ⟨n0, 0, none⟩ = some (.int .i64 q0) := REFP.out.r4.cell 0
              have c401 : W11.cell? ⟨n0, 1, none⟩ = some (.int .i64 q1) := REFP.out.r4.cell 1
              rw [hW11]
              clear hW11 REF11
              go_wp2_with (first | ((with_reducible refine wpList_stop (o := ⟨some 118, _, _, _, _, _⟩) ?_)))
              unfold Stop
              have b13 : Below W11.heap.size W11 (W11.alloc (.cells #[.int .i64 q0, .int .i64 pm, .int .i64 x] 44)) := (Below.refl _ _).alloc (Nat.le_refl _) _
              refine wpList_append_irow2 Try.underlying33 reserve_info rfl (by decide) (by decide) (.tmp 107) (.tmp 117) (n0 + 3) (Z.rs.map p3) [q0, pm, x] rfl W11.heap.size 1 u13 (REFP.out.below b13).rs (by rw [List.length_map]; have := HREF9.out.rl; omega) (by have := REFP.out.ro.lt; simp; omega) (irow_new W11 [q0, pm, x] 44) rfl rfl rfl rfl (fun v' w13 hown' hg' => ?_)
              obtain ⟨A', n', c', rfl⟩ := hown'.slice3
              have HEND := Lib.hid (REFP.out.pushR (S' := { Z with left := l2, re := z2, rs := Z.rs ++ [(q0, pm, x)] }) b13 (by rw [List.map_append]; exact hown') hg' rfl (by have := HREF9.out.rl; simp; omega))
              clear hown' hg' b13
              go_wp2_with fail
              go_roundw
              case rel => exact ⟨k + 1, l2, by omega, by go_num, rfl, Lib.hid (by rw [HSTE.out, HEQ.out, HEX.out]; exact ⟨rfl, HEND.out⟩)⟩
              case measure => simp [intOf]; omega
            · have d0 : decide (0 < x) = false := by simpa using hx0
              have HEX := Lib.hid (show (if 0 < x then [(q0, pm, x)] else []) = [] from if_neg hx0)
              have HEND := Lib.hid REF11.out.more
              clear hx0
              go_wp2_with fail
              refine (PT.out _).mono ?_
              rintro e w10 ⟨rfl, rfl⟩
              go_wp2_with fail
              go_roundw
              case rel => exact ⟨k + 1, l2, by omega, by go_num, rfl, Lib.hid (by rw [HSTE.out, HEQ.out, HEX.out, List.append_nil]; exact ⟨rfl, HEND.out⟩)⟩
              case measure => simp [intOf]; omega
          · have hv := validT_4 hvv hkk
            have hc0 : (termC t va)[0]? = some (.int .i64 4) := by rw [← hkk]; rfl
            obtain ⟨xn, hxn⟩ : ∃ z, t.n = z := ⟨_, rfl⟩
            obtain ⟨xm, hxm⟩ : ∃ z, t.m = z := ⟨_, rfl⟩
            obtain ⟨xa, hxa⟩ : ∃ z, t.ab = z := ⟨_, rfl⟩
            have g1 := HREF.out.good.l0
            have g2 := HREF.out.good.p0
            have g3 := HREF.out.good.t0
            have g4 := HREF.out.good.r0
            have g5 := HREF.out.good.o0
            have g6 := HREF.out.good.c0
            have g7 := HREF.out.good.sum
            have g8 := HM3.out
            rw [← hlf] at g1 g7
            have hnb := inR_iff.1 hv.1
            rw [hxn] at hnb
            obtain ⟨x, hx⟩ : ∃ z, max (lf - xn) 0 = z := ⟨_, rfl⟩
            have hp : 0 ≤ x ∧ x ≤ lf := by omega
            obtain ⟨y, hy⟩ : ∃ z, lf - xn = z := ⟨_, rfl⟩
            have wy : IntKind.i64.wrap (lf - xn) = y := by rw [hy]; exact IntWalk.i64_in _ (by omega)
            have hmx : (if y < 0 then 0 else y) = x := by rw [← hx, ← hy]; split <;> omega
            obtain ⟨z1, hz1⟩ : ∃ z, Z.ca = z := ⟨_, rfl⟩
            obtain ⟨z2, hz2⟩ : ∃ z, z1 + x = z := ⟨_, rfl⟩
            have wz : IntKind.i64.wrap (z1 + x) = z2 := by rw [hz2]; exact IntWalk.i64_in _ (by omega)
            obtain ⟨l2, hl2⟩ : ∃ z, lf - x = z := ⟨_, rfl⟩
            have wl : IntKind.i64.wrap (lf - x) = l2 := by rw [hl2]; exact IntWalk.i64_in _ (by omega)
            have HG1 : Hid (GoodS s3 ({ Z with left := l2, ca := z2 } : StV)) := Lib.hid ⟨by dsimp only; omega, by dsimp only; omega, by dsimp only; omega, by dsimp only; omega, by dsimp only; omega, by dsimp only; omega, by dsimp only; omega⟩
            have HEQ : Hid (stepT q0 q1 Z t = { Z with left := l2, ca := z2 }) := Lib.hid (by unfold stepT; rw [if_pos HVV.out]; unfold doTerm; rw [if_neg (by omega)]; rw [if_neg (by omega)]; rw [if_neg (by omega)]; rw [if_pos hkk]; unfold capStep; dsimp only; rw [← hlf, hxn, hx, hz1, hl2, hz2])
            have HZ1 := Lib.hid hz1
            have HLF2 := Lib.hid hlf
            clear hvv hv hlf g1 g2 g3 g4 g5 g6 g7 g8 hz1 hz2 hnb hp hx hy hl2
            go_wp2_with (first | ((with_reducible refine load_term (o := ⟨some 53, _, _, _, _, _⟩) (.tmp 52) b (o + k * 5) t va HLD.out ?_ ?_ ?_ ?_); rfl; rfl; rfl) | ((with_reducible refine store_term (o := ⟨none, .store _ _ _, _, _, _, _⟩) (.tmp 16) (.tmp 53) t va _ HOC.out ?_ ?_ ?_ ?_ ?_ ?_); rfl; rfl; rfl; rfl; rfl) | ((with_reducible refine load_term (o := ⟨some 54, _, _, _, _, _⟩) (.tmp 16) wr.heap.size 0 t va (row_cells (heap_alloc_last wr _)) ?_ ?_ ?_ ?_); rfl; rfl; rfl))
            refine (VC.out _ HW8.out).mono ?_
            rintro e w9 ⟨rfl, hb9⟩
            have hb89 : Below wr.heap.size wr w9 := ((Below.refl wr.heap.size wr).alloc (Nat.le_refl _) (.cells (termC t va) 52)).trans (hb9.mono (by simp))
            have HREF9 := Lib.hid (HREF.out.below hb89)
            have HB09 := Lib.hid (HW8.out.trans (hb9.mono HW8.out.size))
            have hrt9 : RowAt w9 wr.heap.size 52 (termC t va) := (RowAt.new wr _ _).below hb9 (by simp)
            have HLTN := Lib.hid (show n0 + 2 < wr.heap.size from HREF.out.ro.lt)
            have HRT9 := Lib.hid hrt9
            have c90 : w9.cell? ⟨wr.heap.size, 0, none⟩ = some (.int .i64 4) := by rw [hrt9.cell 0]; exact hc0
            have c91 : w9.cell? ⟨wr.heap.size, 1, none⟩ = some (.int .i64 xn) := by rw [← hxn]; exact hrt9.cell 1
            have c93 : w9.cell? ⟨wr.heap.size, 3, none⟩ = some (.int .i64 xa) := by rw [← hxa]; exact hrt9.cell 3
            have e6 : w9.cell? ⟨n0 + 2, 11, none⟩ = some (.int .i64 z1) := by rw [← HZ1.out]; exact HREF9.out.ro.cell 11
            have f6 : w9.frozen? ⟨n0 + 2, 11, none⟩ = false := HREF9.out.ro.free 11
            have REF11 := Lib.hid (HREF9.out.setOut 11 (.int .i64 z2) (S' := ({ Z with left := l2, ca := z2 } : StV)) rfl HG1.out rfl rfl rfl)
            clear hb9 hb89 hrt9 hc0 hxn hxm hxa
            have HEND := Lib.hid REF11.out.more
            go_wp2_with fail
            go_roundw
            case rel => exact ⟨k + 1, l2, by omega, by go_num, rfl, Lib.hid (by rw [HSTE.out, HEQ.out]; exact ⟨rfl, HEND.out⟩)⟩
            case measure => simp [intOf]; omega
          · have hv := validT_5 hvv hkk
            have hc0 : (termC t va)[0]? = some (.int .i64 5) := by rw [← hkk]; rfl
            obtain ⟨xn, hxn⟩ : ∃ z, t.n = z := ⟨_, rfl⟩
            obtain ⟨xm, hxm⟩ : ∃ z, t.m = z := ⟨_, rfl⟩
            obtain ⟨xa, hxa⟩ : ∃ z, t.ab = z := ⟨_, rfl⟩
            have g1 := HREF.out.good.l0
            have g2 := HREF.out.good.p0
            have g3 := HREF.out.good.t0
            have g4 := HREF.out.good.r0
            have g5 := HREF.out.good.o0
            have g6 := HREF.out.good.c0
            have g7 := HREF.out.good.sum
            have g8 := HM3.out
            rw [← hlf] at g1 g7
            have hrest := recAll_rest t.acc Z
            have hgf := GoodS.recAll t.acc HREF.out.good
            obtain ⟨l2, hl2'⟩ : ∃ z, (t.acc.foldl recStep Z).left = z := ⟨_, rfl⟩
            obtain ⟨x, hx⟩ : ∃ z, lf - l2 = z := ⟨_, rfl⟩
            have h20 := hgf.l0
            have h2o := hgf.o0
            have hr5 := hrest.2.2.2.2
            rw [hl2'] at h20 hr5
            rw [← hlf] at hr5
            have hp : lf - x = l2 := by omega
            obtain ⟨z1, hz1⟩ : ∃ z, Z.ro = z := ⟨_, rfl⟩
            obtain ⟨z2, hz2⟩ : ∃ z, z1 + x = z := ⟨_, rfl⟩
            have wz : IntKind.i64.wrap (z1 + x) = z2 := by rw [hz2]; exact IntWalk.i64_in _ (by omega)
            have wl : IntKind.i64.wrap (lf - x) = l2 := by rw [hp]; exact IntWalk.i64_in _ (by omega)
            have HZ2 : Hid ((t.acc.foldl recStep Z).ro = z2) := Lib.hid (by omega)
            have HL2 : Hid ((t.acc.foldl recStep Z).left = l2) := Lib.hid hl2'
            have HEQ : Hid (stepT q0 q1 Z t = t.acc.foldl recStep Z) := Lib.hid (by unfold stepT; rw [if_pos HVV.out]; unfold doTerm; rw [if_neg (by omega)]; rw [if_neg (by omega)]; rw [if_neg (by omega)]; rw [if_neg (by omega)])
            have HX : Hid (lf - (t.acc.foldl recStep Z).left = x) := Lib.hid (by rw [hl2']; exact hx)
            have HZ1 := Lib.hid hz1
            have HLF2 := Lib.hid hlf
            clear hvv hv hlf g1 g2 g3 g4 g5 g6 g7 g8 hz1 hz2 hrest hgf h20 h2o hr5 hp hx hl2' 
            go_wp2_with (first | ((with_reducible refine load_term (o := ⟨some 53, _, _, _, _, _⟩) (.tmp 52) b (o + k * 5) t va HLD.out ?_ ?_ ?_ ?_); rfl; rfl; rfl) | ((with_reducible refine store_term (o := ⟨none, .store _ _ _, _, _, _, _⟩) (.tmp 16) (.tmp 53) t va _ HOC.out ?_ ?_ ?_ ?_ ?_ ?_); rfl; rfl; rfl; rfl; rfl) | ((with_reducible refine load_term (o := ⟨some 54, _, _, _, _, _⟩) (.tmp 16) wr.heap.size 0 t va (row_cells (heap_alloc_last wr _)) ?_ ?_ ?_ ?_); rfl; rfl; rfl))
            refine (VC.out _ HW8.out).mono ?_
            rintro e w9 ⟨rfl, hb9⟩
            have hb89 : Below wr.heap.size wr w9 := ((Below.refl wr.heap.size wr).alloc (Nat.le_refl _) (.cells (termC t va) 52)).trans (hb9.mono (by simp))
            have HREF9 := Lib.hid (HREF.out.below hb89)
            have HB09 := Lib.hid (HW8.out.trans (hb9.mono HW8.out.size))
            have hrt9 : RowAt w9 wr.heap.size 52 (termC t va) := (RowAt.new wr _ _).below hb9 (by simp)
            have HLTN := Lib.hid (show n0 + 2 < wr.heap.size from HREF.out.ro.lt)
            have HRT9 := Lib.hid hrt9
            have c90 : w9.cell? ⟨wr.heap.size, 0, none⟩ = some (.int .i64 5) := by rw [hrt9.cell 0]; exact hc0
            have c91 : w9.cell? ⟨wr.heap.size, 1, none⟩ = some (.int .i64 xn) := by rw [← hxn]; exact hrt9.cell 1
            have c93 : w9.cell? ⟨wr.heap.size, 3, none⟩ = some (.int .i64 xa) := by rw [← hxa]; exact hrt9.cell 3
            have c94 : w9.cell? ⟨wr.heap.size, 4, none⟩ = some va := hrt9.cell 4
            have RC := recoup15_any (n0 + 3) Z va (.slice Ao no co) t.acc w9 w HREF9.out.bs HREF9.out.good HM3.out (by rw [HN0.out]; omega) HB09.out HVA.out HTO.out.2.2 HREF9.out.bl HTO.out.2.1 HREF9.out.bok (by have := HREF9.out.ro.lt; omega)
            rw [← HLF2.out, HX.out] at RC
            have HRC := Lib.hid RC
            clear RC hb9 hb89 hrt9 hc0 hxn hxm hxa
            go_wp2_with fail
            refine HRC.out.mono ?_
            rintro e w10 ⟨rfl, hrec⟩
            have hro10 : RowAt w10 (n0 + 2) 24 (rowC ⟨q0, q1, q2, q3, q4, q5⟩ Z.pa Z.ta Z.re Z.ro 0 Z.ca) := (hrec.2.2.2.2.2.2.block _ HREF9.out.ro.lt (fun q => by have := (HREF9.out.bs.lt _ q.symm).1; omega)).trans HREF9.out.ro
            have e6 : w10.cell? ⟨n0 + 2, 9, none⟩ = some (.int .i64 z1) := by rw [← HZ1.out]; exact hro10.cell 9
            have f6 : w10.frozen? ⟨n0 + 2, 9, none⟩ = false := hro10.free 9
            have hend := HREF9.out.recOut t.acc hrec
            rw [HZ2.out] at hend
            have HEND := Lib.hid hend
            clear hro10 hrec hend
            go_wp2_with fail
            go_roundw
            case rel => exact ⟨k + 1, l2, by omega, by go_num, rfl, Lib.hid (by rw [HSTE.out, HEQ.out]; exact ⟨HL2.out.symm, HEND.out⟩)⟩
            case measure => simp [intOf]; omega
      · have hkm : k = m := by omega
        rw [hkm, ← HM.out, List.take_length] at hZ
        have HSP : Hid (settleSpec l ⟨q0, q1, q2, q3, q4, q5⟩ bs = ⟨Z.pa, Z.ta, Z.re, Z.ro, paidOf Z, carriedOf Z, Z.ps, Z.rs, Z.bs⟩) := Lib.hid (by
          unfold settleSpec
          rw [if_pos HOPEN.out]
          dsimp only
          unfold runS
          dsimp only
          rw [hZ])
        have HRE := Lib.hid hr
        obtain ⟨ca, hca⟩ : ∃ z, Z.ca = z := ⟨_, rfl⟩
        have g1 := hr.good.l0
        have g2 := hr.good.p0
        have g3 := hr.good.t0
        have g4 := hr.good.r0
        have g5 := hr.good.o0
        have g6 := hr.good.c0
        have g7 := hr.good.sum
        have g8 := HM3.out
        rw [← hlf] at g1 g7
        rw [hca] at g6 g7
        have CT := Lib.hid (fun W => refCents_any lf (by omega) (by omega) W)
        obtain ⟨pd, hpd⟩ : ∃ z, lf - lf % 10000 = z := ⟨_, rfl⟩
        obtain ⟨rs, hrs⟩ : ∃ z, lf % 10000 = z := ⟨_, rfl⟩
        have hrb : 0 ≤ rs ∧ rs ≤ lf := by omega
        rw [hpd, hrs] at CT
        obtain ⟨cr, hcr⟩ : ∃ z, ca + rs = z := ⟨_, rfl⟩
        have wcr : IntKind.i64.wrap (ca + rs) = cr := by rw [hcr]; exact IntWalk.i64_in _ (by omega)
        have HPD : Hid (paidOf Z = pd) := Lib.hid (by unfold paidOf; rw [← hlf, hpd])
        have HCR : Hid (carriedOf Z = cr) := Lib.hid (by unfold carriedOf; rw [← hlf, hca, hrs, hcr])
        have e10 : wr.cell? ⟨n0 + 2, 10, none⟩ = some (.int .i64 0) := hr.ro.cell 10
        have f10 : wr.frozen? ⟨n0 + 2, 10, none⟩ = false := hr.ro.free 10
        have hr10 := hr.ro.set 10 (.int .i64 pd)
        have e11 : (wr.setCell ⟨n0 + 2, 10, none⟩ (.int .i64 pd)).cell? ⟨n0 + 2, 11, none⟩ = some (.int .i64 ca) := by rw [← hca]; exact hr10.cell 11
        have f11 : (wr.setCell ⟨n0 + 2, 10, none⟩ (.int .i64 pd)).frozen? ⟨n0 + 2, 11, none⟩ = false := hr10.free 11
        clear hr hZ hkm g1 g2 g3 g4 g5 g6 g7 g8 hlf hca hpd hrs hcr hrb hr10
        go_wp2_with fail
        refine (CT.out _).mono ?_
        rintro e w' ⟨rfl, rfl⟩
        go_wp2_with (first | ((with_reducible refine wpList_stop (o := ⟨some 158, _, _, _, _, _⟩) ?_)))
        unfold Stop
        obtain ⟨W7, hW7⟩ : ∃ z, (wr.setCell ⟨n0 + 2, 10, none⟩ (.int .i64 pd)).setCell ⟨n0 + 2, 11, none⟩ (.int .i64 cr) = z := ⟨_, rfl⟩
        have hot7 : ∀ g, g ≠ n0 + 2 → W7.heap[g]? = wr.heap[g]? := fun g hg => by
          rw [← hW7]
          exact (Below.heap_setCell _ ⟨n0 + 2, 11, none⟩ _ g hg).trans (Below.heap_setCell _ ⟨n0 + 2, 10, none⟩ _ g hg)
        have ro7 : RowAt W7 (n0 + 2) 24 #[.int .i64 q0, .int .i64 q1, .int .i64 q2, .int .i64 q3, .int .i64 q4, .int .i64 q5, .int .i64 Z.pa, .int .i64 Z.ta, .int .i64 Z.re, .int .i64 Z.ro, .int .i64 pd, .int .i64 cr] := by
          rw [← hW7]
          exact (HRE.out.ro.set 10 (.int .i64 pd)).set 11 (.int .i64 cr)
        have r67 : RowAt W7 (n0 + 1) 24 #[.int .i64 0, .int .i64 0, .int .i64 0, .int .i64 0, .int .i64 0, .int .i64 0, .int .i64 0, .int .i64 0, .int .i64 0, .int .i64 0, .int .i64 0, .int .i64 0] := (hot7 _ (by omega)).trans HRE.out.r6
        have bw7 : Below n0 w W7 := by
          rw [← hW7]
          exact (HRE.out.bw.setCell (p := ⟨n0 + 2, 10, none⟩) (show n0 ≤ n0 + 2 by omega) _).setCell (p := ⟨n0 + 2, 11, none⟩) (show n0 ≤ n0 + 2 by omega) _
        rw [hW7]
        clear hW7 e10 f10 e11 f11 CT wcr
        have HR6 := Lib.hid r67
        have HOT := Lib.hid hot7
        have HBW7 := Lib.hid bw7
        have HRO7 := Lib.hid (row_cells (show W7.heap[n0 + 2]? = _ from ro7))
        clear r67 hot7 bw7 ro7
        go_wp2_with (first | ((with_reducible refine wpList_load_at (o := ⟨some 158, _, _, _, _, _⟩) ?_ 24 (.tmp 10) ?_ (n0 + 2) 0 ?_ _ _ HRO7.out Try.underlying24 ?_ ?_ ?_); rfl; rfl; rfl; rfl; kernel_rfl) | ((with_reducible refine wpList_stop (o := ⟨none, .store _ _ _, _, _, _, _⟩) ?_)))
        unfold Stop
        refine wpList_store_row rfl 24 (.tmp 6) (.tmp 158) rfl (n0 + 1) #[.int .i64 q0, .int .i64 q1, .int .i64 q2, .int .i64 q3, .int .i64 q4, .int .i64 q5, .int .i64 Z.pa, .int .i64 Z.ta, .int .i64 Z.re, .int .i64 Z.ro, .int .i64 pd, .int .i64 cr] rfl rfl 24 #[.int .i64 0, .int .i64 0, .int .i64 0, .int .i64 0, .int .i64 0, .int .i64 0, .int .i64 0, .int .i64 0, .int .i64 0, .int .i64 0, .int .i64 0, .int .i64 0] HR6.out (by kernel_rfl) rfl (by kernel_rfl) ?_
        go_wp2_with fail
        refine bodyPost_ret (results_cell3 rfl _ _ (n0 + 1) _ #[.int .i64 q0, .int .i64 q1, .int .i64 q2, .int .i64 q3, .int .i64 q4, .int .i64 q5, .int .i64 Z.pa, .int .i64 Z.ta, .int .i64 Z.re, .int .i64 Z.ro, .int .i64 pd, .int .i64 cr] _ _ rfl (setRow_same HR6.out) Try.underlying24 rfl (by kernel_rfl)) rfl ?_
        have hkeep : ∀ g, n0 + 3 ≤ g → (W7.setRow (n0 + 1) #[.int .i64 q0, .int .i64 q1, .int .i64 q2, .int .i64 q3, .int .i64 q4, .int .i64 q5, .int .i64 Z.pa, .int .i64 Z.ta, .int .i64 Z.re, .int .i64 Z.ro, .int .i64 pd, .int .i64 cr]).heap[g]? = wr.heap[g]? := fun g h1 => (setRow_other (show n0 + 1 ≠ g by omega)).trans (HOT.out g (by omega))
        rw [HSP.out]
        refine ⟨u12, u13, .slice Ao no co, ?_, ?_, ?_, ?_, ?_⟩
        · unfold ResV.row rowC
          dsimp only
          rw [HPD.out, HCR.out]
          rfl
        · exact OwnI.mono (HRE.out.ps.kept fun g hg => hkeep g (HRE.out.ps.lt g hg).1) (by rw [HN0.out]; omega)
        · exact OwnI.mono (HRE.out.rs.kept fun g hg => hkeep g (HRE.out.rs.lt g hg).1) (by rw [HN0.out]; omega)
        · exact OwnI.mono (HRE.out.bs.kept fun g hg => hkeep g (HRE.out.bs.lt g hg).1) (by rw [HN0.out]; omega)
        · rw [HN0.out]
          exact below_setRow HBW7.out (by omega)
end Go.Proofs.Ytejkgnlflhngbaa
