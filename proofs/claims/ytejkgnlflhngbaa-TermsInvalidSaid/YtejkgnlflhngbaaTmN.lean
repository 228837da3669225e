/- Settle. -/
import Derived.Test.YtejkgnlflhngbaaTmO
import Derived.Test.YtejkgnlflhngbaaTmJ
namespace Go.Proofs.Ytejkgnlflhngbaa
open Go Go.RowKit Go.Lib Go.Shelf Go.Maps

def TermOk (t : TermV) : Prop := (∀ x ∈ [t.k, t.n, t.m, t.ab], -9223372036854775808 ≤ x ∧ x ≤ 9223372036854775807) ∧ (∀ x ∈ t.acc, -9223372036854775808 ≤ x ∧ x ≤ 9223372036854775807) ∧ t.acc.length ≤ 1000000
/-- v is a slice of terms that reads as l -/
def TermsAt (w : World) (v : Value) (l : List TermV) : Prop :=
  (l = [] ∧ ∃ A c, v = .slice A 0 c) ∨ ∃ b o c, v = .slice (some ⟨b, o, none⟩) l.length c ∧ b < w.heap.size ∧ ∀ (i : Nat) t, l[i]? = some t → ∃ va, IntsL w va t.acc ∧ ∀ (j : Nat) x, (termC t va)[j]? = some x → w.cell? ⟨b, o + i * 5 + j, none⟩ = some x
theorem TermsAt.below {w w' : World} {v : Value} {l : List TermV} (h : TermsAt w v l) (hb : Below w.heap.size w w') : TermsAt w' v l := by
  rcases h with h0 | ⟨b, o, c, hv, hlt, hc⟩
  · exact .inl h0
  · refine .inr ⟨b, o, c, hv, Nat.lt_of_lt_of_le hlt hb.size, fun i t ht => ?_⟩
    obtain ⟨va, h1, h2⟩ := hc i t ht
    exact ⟨va, h1.below hb, fun j x hx => (hb.cell (p := ⟨b, o + i * 5 + j, none⟩) hlt).trans (h2 j x hx)⟩
theorem TermsAt.slice {w : World} {v : Value} {l : List TermV} (h : TermsAt w v l) : ∃ A c, v = .slice A l.length c := by
  rcases h with ⟨rfl, A, c, rfl⟩ | ⟨b, o, c, rfl, _⟩
  · exact ⟨A, c, rfl⟩
  · exact ⟨_, c, rfl⟩
/-- what Settle answers -/
structure ResV where
  pa : Int
  ta : Int
  re : Int
  ro : Int
  pd : Int
  ca : Int
  ps : List (Int × Int)
  rs : List (Int × Int × Int)
  bs : List (Int × Int)
def settleSpec (l : List TermV) (R : RowV) (bs : List (Int × Int)) : ResV :=
  if openR R then
    let S := runS l R bs
    ⟨S.pa, S.ta, S.re, S.ro, paidOf S, carriedOf S, S.ps, S.rs, S.bs⟩
  else ⟨0, 0, 0, 0, 0, 0, [], [], bs⟩
def ResV.row (R : RowV) (V : ResV) : Array Value := rowC R V.pa V.ta V.re V.ro V.pd V.ca
/-- what holds behind Settle -/
def SettleEnd (w : World) (R : RowV) (V : ResV) (e : Ending) (w' : World) : Prop :=
  ∃ vp vr vo, e = .returned (.tuple #[.agg (V.row R), vp, vr, vo]) ∧ OwnI 42 2 w' w.heap.size vp (V.ps.map p2) ∧ OwnI 44 3 w' w.heap.size vr (V.rs.map p3) ∧ OwnI 46 2 w' w.heap.size vo (V.bs.map p2) ∧ Below w.heap.size w w'

theorem row12f {W : World} {nb : Nat} {a0 a1 a2 a3 a4 a5 a6 a7 a8 a9 a10 a11 a12 a13 a14 a15 a16 : Value} (h : RowAt W nb 59 #[a0, a1, a2, a3, a4, a5, a6, a7, a8, a9, a10, a11, a12, a13, a14, a15, a16]) (j : Nat) (v : Value)
    (hj : (#[a0, a1, a2, a3, a4, a5, a6, a7, a8, a9, a10, a11] : Array Value)[j]? = some v) : W.cell? ⟨nb, 0 + j, none⟩ = some v := by
  rw [Nat.zero_add, h.cell j, ← hj]
  match j, hj with
  | 0, _ | 1, _ | 2, _ | 3, _ | 4, _ | 5, _ | 6, _ | 7, _ | 8, _ | 9, _ | 10, _ | 11, _ => rfl
  | j + 12, hj => simp at hj
theorem recStep_lists (S : StV) (a : Int) : (recStep S a).ps = S.ps ∧ (recStep S a).rs = S.rs := by
  unfold recStep
  split
  · exact ⟨rfl, rfl⟩
  · split <;> exact ⟨rfl, rfl⟩
theorem recAll_lists : ∀ (l : List Int) (S : StV), (l.foldl recStep S).ps = S.ps ∧ (l.foldl recStep S).rs = S.rs
  | [], _ => ⟨rfl, rfl⟩
  | a :: l, S => by
    have h := recAll_lists l (recStep S a)
    have h2 := recStep_lists S a
    exact ⟨h.1.trans h2.1, h.2.trans h2.2⟩
theorem term_size : (Try.prog.info? 52).map (·.size) = some 5 := by kernel_rfl
theorem termC_one (t : TermV) {w : World} {va : Value} (h : IntsL w va t.acc) : (termC t va).all (·.oneCell') = true := by
  obtain ⟨A, c, rfl⟩ := h.slice
  kernel_rfl
theorem load_term {ops : Array Oper} {rest : List Oper} {o : Oper} {a : Act} {w : World} {Q : Exit → Act → World → Prop} (x : Operand) (b off : Nat) (t : TermV) (va : Value) (hc : ∀ j v, (termC t va)[j]? = some v → w.cell? ⟨b, off + j, none⟩ = some v)
    (hgd : o.guard = none) (ho : o.op = .load 52 x) (hx : a.eval x = .pointer (some ⟨b, off, none⟩)) (h : wpList Try.prog ops Q rest (a.put o.dst (.agg (termC t va))) w) : wpList Try.prog ops Q (o :: rest) a w :=
  wpList_load_at hgd _ x ho b off hx (termC t va) _ hc Try.underlying52 rfl term_size h
theorem store_term {ops : Array Oper} {rest : List Oper} {o : Oper} {a : Act} {w : World} {Q : Exit → Act → World → Prop} (x y : Operand) (t : TermV) (va : Value) (c : Array Value) (h1 : (termC t va).all (·.oneCell') = true)
    (hgd : o.guard = none) (ho : o.op = .store 52 x y) (hx : a.eval x = .pointer (some ⟨w.heap.size, 0, none⟩)) (hy : a.eval y = .agg (termC t va)) (hs : c.size = 5)
    (h : wpList Try.prog ops Q rest (a.put o.dst undef) (w.alloc (.cells (termC t va) 52))) : wpList Try.prog ops Q (o :: rest) a (w.alloc (.cells c 52)) :=
  wpList_store_new hgd _ x y ho hx c (termC t va) hy term_size hs h1 h
/-- where the walk of Settle stands among the terms -/
structure RunAt (T : Int) (n0 mb eb : Nat) (w wr : World) (rc zc : Array Value) (R : RowV) (S : StV) (vo : Value) (k : Nat) : Prop where
  r4 : RowAt wr n0 24 rc
  r6 : RowAt wr (n0 + 1) 24 zc
  st : ∃ vp vr, SetAt (n0 + 2) wr (mb + 1) mb R S vp vr vo
  good : GoodS T S
  pl : S.ps.length ≤ k
  rl : S.rs.length ≤ k
  bok : ∀ b ∈ S.bs, (-9223372036854775808 ≤ b.1 ∧ b.1 ≤ 9223372036854775807) ∧ -9223372036854775808 ≤ b.2 ∧ b.2 ≤ 9223372036854775807
  eff : EffAt wr eb
  bw : Below n0 w wr
theorem EffAt.lt {w : World} {eb : Nat} (h : EffAt w eb) : eb < w.heap.size := World.ownsMap.lt h
theorem RunAt.below {T : Int} {n0 mb eb k : Nat} {w wr w' : World} {rc zc : Array Value} {R : RowV} {S : StV} {vo : Value} (h : RunAt T n0 mb eb w wr rc zc R S vo k) (hb : Below wr.heap.size wr w') : RunAt T n0 mb eb w w' rc zc R S vo k := by
  obtain ⟨vp, vr, hs⟩ := h.st
  exact ⟨h.r4.below hb h.r4.lt, h.r6.below hb h.r6.lt, ⟨vp, vr, hs.below hb⟩, h.good, h.pl, h.rl, h.bok, h.eff.kept (hb.block _ h.eff.lt), h.bw.trans (hb.mono (Nat.le_of_lt h.r4.lt))⟩
theorem RunAt.more {T : Int} {n0 mb eb k : Nat} {w wr : World} {rc zc : Array Value} {R : RowV} {S : StV} {vo : Value} (h : RunAt T n0 mb eb w wr rc zc R S vo k) : RunAt T n0 mb eb w wr rc zc R S vo (k + 1) :=
  { h with pl := Nat.le_succ_of_le h.pl, rl := Nat.le_succ_of_le h.rl }
theorem EffAt.turn {B : Nat} {w w' : World} {eb : Nat} (h : EffAt w eb) (ht : Turn B w w') : EffAt w' eb := by
  obtain ⟨es, clock, hh, r⟩ := h
  exact ⟨es, clock, ht.maps _ _ _ hh, r⟩
theorem RunAt.step {T : Int} {n0 mb eb k : Nat} {w wr w' : World} {rc zc : Array Value} {R : RowV} {S S' : StV} {vo : Value} (h : RunAt T n0 mb eb w wr rc zc R S vo k) (ht : Turn (n0 + 2) wr w') (hs : ∃ vp vr, SetAt (n0 + 2) w' (mb + 1) mb R S' vp vr vo) (hg : GoodS T S') (hp : S'.ps.length ≤ k + 1) (hr : S'.rs.length ≤ k + 1)
    (hb : ∀ b ∈ S'.bs, (-9223372036854775808 ≤ b.1 ∧ b.1 ≤ 9223372036854775807) ∧ -9223372036854775808 ≤ b.2 ∧ b.2 ≤ 9223372036854775807) : RunAt T n0 mb eb w w' rc zc R S' vo (k + 1) :=
  ⟨(ht.below.block n0 (by omega)).trans h.r4, (ht.below.block (n0 + 1) (by omega)).trans h.r6, hs, hg, hp, hr, hb, h.eff.turn ht, h.bw.trans (ht.below.mono (by omega))⟩
/-- where the walk of Settle stands while the map is made -/
structure MidAt (n0 mb : Nat) (w wr : World) (rc zc sc : Array Value) (vo : Value) (bs pre : List (Int × Int)) : Prop where
  r4 : RowAt wr n0 24 rc
  r6 : RowAt wr (n0 + 1) 24 zc
  rn : RowAt wr (mb + 1) 59 sc
  bal : OwnI 46 2 wr (n0 + 2) vo (bs.map p2)
  map : FirstMap wr mb pre
  bw : Below n0 w wr
theorem MidAt.below {n0 mb : Nat} {w wr w' : World} {rc zc sc : Array Value} {vo : Value} {bs pre : List (Int × Int)} (h : MidAt n0 mb w wr rc zc sc vo bs pre) (hb : Below wr.heap.size wr w') : MidAt n0 mb w w' rc zc sc vo bs pre :=
  ⟨h.r4.below hb h.r4.lt, h.r6.below hb h.r6.lt, h.rn.below hb h.rn.lt, h.bal.below hb, h.map.kept (hb.block _ h.map.lt), h.bw.trans (hb.mono (Nat.le_of_lt h.r4.lt))⟩
theorem MidAt.mapped {n0 mb : Nat} {w wr w' : World} {rc zc sc : Array Value} {vo : Value} {bs pre pre' : List (Int × Int)} (h : MidAt n0 mb w wr rc zc sc vo bs pre) (hg : wr.grownBy w' (some mb)) (hm : FirstMap w' mb pre') (hlt : n0 + 2 ≤ mb) : MidAt n0 mb w w' rc zc sc vo bs pre' := by
  have hmap := h.map
  refine ⟨(hg.block _ h.r4.lt (by simp; omega)).trans h.r4, (hg.block _ h.r6.lt (by simp; omega)).trans h.r6, (hg.block _ h.rn.lt (by simp)).trans h.rn, h.bal.kept fun g hgb => hg.block g (h.bal.lt g hgb).2 ?_, hm, h.bw.grown hg (Nat.le_of_lt h.r4.lt) (fun j e => by cases e; omega)⟩
  intro e
  cases e
  obtain ⟨_, D, _, ⟨es, clock, hh, _⟩, _⟩ := hmap
  rcases h.bal.2.2 with ⟨e0, _⟩ | ⟨g1, cap, cur, e0, _, hh1, _⟩
  · rw [e0] at hgb; simp [Value.ownBlock] at hgb
  · rw [e0] at hgb; simp [Value.ownBlock] at hgb; subst hgb; rw [hh] at hh1; cases hh1
theorem RowAt.trans_other {w w' : World} {B : Nat} {T : TypeId} {cs : Array Value} (h : w'.heap[B]? = w.heap[B]?) (hr : RowAt w B T cs) : RowAt w' B T cs := h.trans hr
/-- the first twelve cells of a settlement -/
theorem row12 {W : World} {nb : Nat} {q0 q1 q2 q3 q4 q5 : Int} {S : StV} {vp vr vb vm : Value} (h : RowAt W nb 59 (setC ⟨q0, q1, q2, q3, q4, q5⟩ S vp vr vb vm)) (j : Nat) (v : Value)
    (hj : (#[.int .i64 q0, .int .i64 q1, .int .i64 q2, .int .i64 q3, .int .i64 q4, .int .i64 q5, .int .i64 S.pa, .int .i64 S.ta, .int .i64 S.re, .int .i64 S.ro, .int .i64 0, .int .i64 S.ca] : Array Value)[j]? = some v) : W.cell? ⟨nb, 0 + j, none⟩ = some v := by
  rw [Nat.zero_add, h.cell j, ← hj]
  match j, hj with
  | 0, _ | 1, _ | 2, _ | 3, _ | 4, _ | 5, _ | 6, _ | 7, _ | 8, _ | 9, _ | 10, _ | 11, _ => rfl
  | j + 12, hj => simp at hj
set_option maxRecDepth 100000 in
set_option maxHeartbeats 8000000 in
theorem settle_any (l : List TermV) (R : RowV) (bs : List (Int × Int)) (v vb : Value) (x6 x7 x8 x9 x10 x11 : Int) (w : World) (ht : TermsAt w v l) (hok : ∀ t ∈ l, TermOk t) (hl : l.length ≤ 1000) (hb : IRows 2 w vb (bs.map p2)) (hbl : bs.length ≤ 1000)
    (hbb : ∀ b ∈ bs, (-9223372036854775808 ≤ b.1 ∧ b.1 ≤ 9223372036854775807) ∧ -9223372036854775808 ≤ b.2 ∧ b.2 ≤ 9223372036854775807) (hp : 0 ≤ R.p ∧ R.p ≤ 100000) :
    Calls Try.prog 15 #[v, .agg (rowC R x6 x7 x8 x9 x10 x11), vb] w (SettleEnd w R (settleSpec l R bs)) := by
  obtain ⟨q0, q1, q2, q3, q4, q5⟩ := R
  unfold rowC
  dsimp only at hp ⊢
  have CL := Lib.hid (fun W (h : Below w.heap.size w W) => clone_any vb (bs.map p2) W (hb.below h) (by rw [List.length_map]; exact hbl))
  have hmm := @run_makeMap Try.prog
  have B0 := Lib.hid (show Below w.heap.size w ((w.alloc (.cells #[.int .i64 q0, .int .i64 q1, .int .i64 q2, .int .i64 q3, .int .i64 q4, .int .i64 q5, .int .i64 x6, .int .i64 x7, .int .i64 x8, .int .i64 x9, .int .i64 x10, .int .i64 x11] 24)).alloc (.cells #[.int .i64 0, .int .i64 0, .int .i64 0, .int .i64 0, .int .i64 0, .int .i64 0, .int .i64 0, .int .i64 0, .int .i64 0, .int .i64 0, .int .i64 0, .int .i64 0] 24)) from ((Below.refl _ _).alloc (Nat.le_refl _) _).alloc (by simp) _)
  have HT := Lib.hid ht
  have HOK := Lib.hid hok
  have HBB := Lib.hid hbb
  have HP := Lib.hid hp
  have HP100 : Hid (0 ≤ q1 ∧ q1 ≤ 100000) := Lib.hid hp
  obtain ⟨AT, ct, rfl⟩ := ht.slice
  obtain ⟨m, hm⟩ : ∃ m, l.length = m := ⟨_, rfl⟩
  rw [hm] at hl ⊢
  have HM := Lib.hid hm
  clear ht hok hbb hb hm hp
  go_enter Try.func15, Try.ntmps15
  go_wp2_with fail
  refine (CL.out _ B0.out).mono ?_
  rintro e w1 ⟨vo, rfl, howno, hb1⟩
  obtain ⟨Ao, no, co, rfl⟩ := howno.slice3
  have r4 : RowAt w1 w.heap.size 24 #[.int .i64 q0, .int .i64 q1, .int .i64 q2, .int .i64 q3, .int .i64 q4, .int .i64 q5, .int .i64 x6, .int .i64 x7, .int .i64 x8, .int .i64 x9, .int .i64 x10, .int .i64 x11] := ((RowAt.new w _ _).alloc _).below hb1 (by simp; omega)
  have r6 : RowAt w1 (w.heap.size + 1) 24 #[.int .i64 0, .int .i64 0, .int .i64 0, .int .i64 0, .int .i64 0, .int .i64 0, .int .i64 0, .int .i64 0, .int .i64 0, .int .i64 0, .int .i64 0, .int .i64 0] := RowAt.below (C := w.heap.size + 2) (by have := RowAt.new (w.alloc (.cells #[.int .i64 q0, .int .i64 q1, .int .i64 q2, .int .i64 q3, .int .i64 q4, .int .i64 q5, .int .i64 x6, .int .i64 x7, .int .i64 x8, .int .i64 x9, .int .i64 x10, .int .i64 x11] 24)) 24 #[.int .i64 0, .int .i64 0, .int .i64 0, .int .i64 0, .int .i64 0, .int .i64 0, .int .i64 0, .int .i64 0, .int .i64 0, .int .i64 0, .int .i64 0, .int .i64 0]; simpa using this) (hb1.mono (by simp)) (by omega)
  have hs1 : w.heap.size + 2 ≤ w1.heap.size := by have := hb1.size; simpa using this
  have hown1 : OwnI 46 2 w1 (w.heap.size + 2) (.slice Ao no co) (bs.map p2) := by simpa using howno
  have hm1 : FirstMap (w1.alloc (.map #[] 0)) w1.heap.size (bs.take 0) := ⟨0, _, by simp, World.ownsMap_made _ _ _ _, fun a _ => ⟨rfl, fun i h => by simp [findB] at h⟩⟩
  have bw1 : Below w.heap.size w w1 := B0.out.trans (hb1.mono B0.out.size)
  clear howno hb1 CL B0
  go_wp2_with (first | ((with_reducible refine wpList_stop (o := ⟨some 27, _, _, _, _, _⟩) ?_)))
  obtain ⟨W, hW⟩ : ∃ z, (w1.alloc (.map #[] 0)).alloc (.cells #[.int .i64 0, .int .i64 0, .int .i64 0, .int .i64 0, .int .i64 0, .int .i64 0, .int .i64 0, .int .i64 0, .int .i64 0, .int .i64 0, .int .i64 0, .int .i64 0, .int .i64 0, .slice none 0 0, .slice none 0 0, .slice Ao no co, .map (some w1.heap.size)] 59) = z := ⟨_, rfl⟩
  have b2 : Below w1.heap.size w1 W := by rw [← hW]; exact ((Below.refl _ _).alloc (Nat.le_refl _) _).alloc (by simp) _
  have rn : RowAt W (w1.heap.size + 1) 59 #[.int .i64 0, .int .i64 0, .int .i64 0, .int .i64 0, .int .i64 0, .int .i64 0, .int .i64 0, .int .i64 0, .int .i64 0, .int .i64 0, .int .i64 0, .int .i64 0, .int .i64 0, .slice none 0 0, .slice none 0 0, .slice Ao no co, .map (some w1.heap.size)] := by
    rw [← hW]
    have := RowAt.new (w1.alloc (.map #[] 0)) 59 #[.int .i64 0, .int .i64 0, .int .i64 0, .int .i64 0, .int .i64 0, .int .i64 0, .int .i64 0, .int .i64 0, .int .i64 0, .int .i64 0, .int .i64 0, .int .i64 0, .int .i64 0, .slice none 0 0, .slice none 0 0, .slice Ao no co, .map (some w1.heap.size)]
    simpa using this
  have hmW : FirstMap W w1.heap.size (bs.take 0) := hm1.kept (by rw [← hW]; exact Below.heap_alloc _ _ _ (by simp))
  unfold Stop
  rw [hW]
  clear hW hm1
  have r4' := r4.below b2 r4.lt
  have r6' := r6.below b2 r6.lt
  have hownW := hown1.below b2
  have bwW : Below w.heap.size w W := bw1.trans (b2.mono bw1.size)
  obtain ⟨mb, hmb⟩ : ∃ z, w1.heap.size = z := ⟨_, rfl⟩
  rw [hmb] at rn hmW hs1 ⊢
  have hmbW : mb < W.heap.size := by rw [← hmb]; exact Nat.lt_of_lt_of_le (Nat.lt_succ_self _) (Nat.le_of_lt rn.lt |> fun h => by rw [hmb]; omega)
  clear r4 r6 hown1 bw1 b2 hmb
  obtain ⟨n0, hn0⟩ : ∃ z, w.heap.size = z := ⟨_, rfl⟩
  rw [hn0] at r4' r6' hownW bwW hs1 ⊢
  have HN0 := Lib.hid hn0
  clear hn0
  have c0 : W.cell? ⟨n0, 0, none⟩ = some (.int .i64 q0) := r4'.cell 0
  have c1 : W.cell? ⟨n0, 1, none⟩ = some (.int .i64 q1) := r4'.cell 1
  have c2 : W.cell? ⟨n0, 2, none⟩ = some (.int .i64 q2) := r4'.cell 2
  have c3 : W.cell? ⟨n0, 3, none⟩ = some (.int .i64 q3) := r4'.cell 3
  have c4 : W.cell? ⟨n0, 4, none⟩ = some (.int .i64 q4) := r4'.cell 4
  have c5 : W.cell? ⟨n0, 5, none⟩ = some (.int .i64 q5) := r4'.cell 5
  go_wp2_with (first | ((with_reducible refine wpList_stop (o := ⟨none, .store _ _ _, _, _, _, _⟩) ?_)))
  unfold Stop
  refine wpList_store_part rfl 24 (.tmp 40) (.tmp 38) rfl (mb + 1) 0 #[.int .i64 q0, .int .i64 q1, .int .i64 q2, .int .i64 q3, .int .i64 q4, .int .i64 q5, .int .i64 0, .int .i64 0, .int .i64 0, .int .i64 0, .int .i64 0, .int .i64 0] ?_ ?_ 59 _ (setC ⟨q0, q1, q2, q3, q4, q5⟩ ⟨0, 0, 0, 0, 0, 0, [], [], bs⟩ (.slice none 0 0) (.slice none 0 0) (.slice Ao no co) (.map (some mb))) rn ?_ ?_ ?_ ?_ ?_
  · rfl
  · rfl
  · kernel_rfl
  · simp
  · kernel_rfl
  · rfl
  obtain ⟨W2, hW2⟩ : ∃ z, W.setRow (mb + 1) (setC ⟨q0, q1, q2, q3, q4, q5⟩ ⟨0, 0, 0, 0, 0, 0, [], [], bs⟩ (.slice none 0 0) (.slice none 0 0) (.slice Ao no co) (.map (some mb))) = z := ⟨_, rfl⟩
  have hoth : ∀ k, k ≠ mb + 1 → W2.heap[k]? = W.heap[k]? := fun k hk => by rw [← hW2]; exact setRow_other (fun h => hk h.symm)
  have rn2 : RowAt W2 (mb + 1) 59 (setC ⟨q0, q1, q2, q3, q4, q5⟩ ⟨0, 0, 0, 0, 0, 0, [], [], bs⟩ (.slice none 0 0) (.slice none 0 0) (.slice Ao no co) (.map (some mb))) := by rw [← hW2]; exact setRow_same rn
  have b2 : Below n0 W W2 := by rw [← hW2]; exact below_setRow (Below.refl _ _) (by omega)
  have s2 : W2.heap.size = W.heap.size := by rw [← hW2]; simp
  have r42 : RowAt W2 n0 24 #[.int .i64 q0, .int .i64 q1, .int .i64 q2, .int .i64 q3, .int .i64 q4, .int .i64 q5, .int .i64 x6, .int .i64 x7, .int .i64 x8, .int .i64 x9, .int .i64 x10, .int .i64 x11] := (hoth n0 (by omega)).trans r4'
  have r62 : RowAt W2 (n0 + 1) 24 #[.int .i64 0, .int .i64 0, .int .i64 0, .int .i64 0, .int .i64 0, .int .i64 0, .int .i64 0, .int .i64 0, .int .i64 0, .int .i64 0, .int .i64 0, .int .i64 0] := (hoth _ (by omega)).trans r6'
  have hown2 : OwnI 46 2 W2 (n0 + 2) (.slice Ao no co) (bs.map p2) := hownW.kept fun g hg => hoth g (hownW.ne_row (by decide) rn g hg)
  have hm2 : FirstMap W2 mb (bs.take 0) := hmW.kept (hoth mb (by omega))
  have bw2 : Below n0 w W2 := bwW.trans b2
  rw [hW2]
  clear hW2 hoth b2 r4' r6' hownW hmW bwW rn c0 c1 c2 c3 c4 c5 hmbW
  have c0 : W2.cell? ⟨n0, 0, none⟩ = some (.int .i64 q0) := r42.cell 0
  have c1 : W2.cell? ⟨n0, 1, none⟩ = some (.int .i64 q1) := r42.cell 1
  have c2 : W2.cell? ⟨n0, 2, none⟩ = some (.int .i64 q2) := r42.cell 2
  have c3 : W2.cell? ⟨n0, 3, none⟩ = some (.int .i64 q3) := r42.cell 3
  have c4 : W2.cell? ⟨n0, 4, none⟩ = some (.int .i64 q4) := r42.cell 4
  have c5 : W2.cell? ⟨n0, 5, none⟩ = some (.int .i64 q5) := r42.cell 5
  clear s2
  have hrowc : ∀ (W' : World) (n : Nat), W'.heap.size = n → ∀ (i : Nat) x, ([q2, q3, q4, q5] : List Int)[i]? = some x → (W'.alloc (.cells #[.int .i64 q2, .int .i64 q3, .int .i64 q4, .int .i64 q5] 3)).cell? ⟨n, i, none⟩ = some (.int .i64 x) := by
    intro W' n hn i x hx
    subst hn
    rw [new_cell]
    match i, hx with
    | 0, hx | 1, hx | 2, hx | 3, hx => simp at hx; subst hx; rfl
    | i + 4, hx => simp at hx
  have WN := Lib.hid (fun W' (n : Nat) (hn : W'.heap.size = n) => withinM_any n 4 [q2, q3, q4, q5] (W'.alloc (.cells #[.int .i64 q2, .int .i64 q3, .int .i64 q4, .int .i64 q5] 3)) (by simp) (hrowc W' n hn))
  clear hrowc
  obtain ⟨ok4, hok4⟩ : ∃ z, ([q2, q3, q4, q5] : List Int).all okN = z := ⟨_, rfl⟩
  rw [hok4] at WN
  obtain ⟨W3, hW3⟩ : ∃ z, W2.alloc (.cells #[.int .i64 q2, .int .i64 q3, .int .i64 q4, .int .i64 q5] 3) = z := ⟨_, rfl⟩
  have b23 : Below W2.heap.size W2 W3 := by rw [← hW3]; exact (Below.refl _ _).alloc (Nat.le_refl _) _
  have WN2 : Hid (Calls Try.prog 25 #[.slice (some ⟨W2.heap.size, 0, none⟩) 4 4] W3 fun e w' => e = .returned (.bool ok4) ∧ W3 = w') := Lib.hid (by rw [← hW3]; exact WN.out W2 _ rfl)
  clear WN
  have r43 := r42.below b23 r42.lt
  have r63 := r62.below b23 r62.lt
  have rn3 := rn2.below b23 rn2.lt
  have hown3 := hown2.below b23
  have hm3 : FirstMap W3 mb (bs.take 0) := hm2.kept (b23.block _ hm2.lt)
  have bw3 : Below n0 w W3 := bw2.trans (b23.mono (by have := r42.lt; omega))
  have OPN : Hid (openR ⟨q0, q1, q2, q3, q4, q5⟩ = (ok4 && decide (q2 + q3 + q4 + q5 ≤ 1000000000000000000))) := Lib.hid (by
    rw [← hok4]
    simp [openR, okN, RowV.sum, Bool.and_assoc]
    rfl)
  have K3 := Lib.hid (show RowAt W3 n0 24 #[.int .i64 q0, .int .i64 q1, .int .i64 q2, .int .i64 q3, .int .i64 q4, .int .i64 q5, .int .i64 x6, .int .i64 x7, .int .i64 x8, .int .i64 x9, .int .i64 x10, .int .i64 x11] ∧ RowAt W3 (n0 + 1) 24 #[.int .i64 0, .int .i64 0, .int .i64 0, .int .i64 0, .int .i64 0, .int .i64 0, .int .i64 0, .int .i64 0, .int .i64 0, .int .i64 0, .int .i64 0, .int .i64 0] ∧ RowAt W3 (mb + 1) 59 (setC ⟨q0, q1, q2, q3, q4, q5⟩ ⟨0, 0, 0, 0, 0, 0, [], [], bs⟩ (.slice none 0 0) (.slice none 0 0) (.slice Ao no co) (.map (some mb))) ∧ OwnI 46 2 W3 (n0 + 2) (.slice Ao no co) (bs.map p2) ∧ FirstMap W3 mb (bs.take 0) ∧ Below n0 w W3 from ⟨r43, r63, rn3, hown3, hm3, bw3⟩)
  clear b23 r42 r62 rn2 hown2 hm2 bw2 r63 hown3 hm3 bw3
  cases ok4
  · have NOP : Hid (settleSpec l ⟨q0, q1, q2, q3, q4, q5⟩ bs = ⟨0, 0, 0, 0, 0, 0, [], [], bs⟩) := Lib.hid (by unfold settleSpec; rw [OPN.out]; rfl)
    clear OPN hok4 r43 rn3
    go_wp2_with fail
    refine WN2.out.mono ?_
    rintro e w' ⟨rfl, rfl⟩
    clear hW3
    go_wp2_with fail
    have rn4 : RowAt W3 (mb + 1) 59 (setC ⟨q0, q1, q2, q3, q4, q5⟩ ⟨0, 0, 0, 0, 0, 0, [], [], bs⟩ (.slice none 0 0) (.slice none 0 0) (.slice Ao no co) (.map (some mb))) := K3.out.2.2.1
    refine wp_region_held_drew (S := fun W' => RowAt W' (mb + 1) 59 (setC ⟨q0, q1, q2, q3, q4, q5⟩ ⟨0, 0, 0, 0, 0, 0, [], [], bs⟩ (.slice none 0 0) (.slice none 0 0) (.slice Ao no co) (.map (some mb)))) (by kernel_rfl) rn4.drew (fun hHeld => ?_)
    refine wpAnyH_take (i := 0) (oi := ⟨_, _, _, _, _, _⟩) (v := ?_) rfl (by kernel_rfl) (by kernel_rfl) (by kernel_rfl) (fun _ _ _ h => h) (Or.inl ⟨by rfl, ?_⟩) (by assumption) ?_
    rotate_left
    · intro w hSw
      go_simp
      all_goals with_reducible rfl
    simp only [Act.put, List.setIfInBounds_toArray, List.set_cons_zero, List.set_cons_succ]
    refine wpAnyH_take (i := 1) (oi := ⟨_, _, _, _, _, _⟩) (v := ?_) rfl (by kernel_rfl) (by kernel_rfl) (by kernel_rfl) (fun _ _ _ h => h) (Or.inl ⟨by rfl, ?_⟩) (by assumption) ?_
    rotate_left
    · intro w hSw
      go_simp
      all_goals with_reducible rfl
    simp only [Act.put, List.setIfInBounds_toArray, List.set_cons_zero, List.set_cons_succ]
    refine wpAnyH_take (i := 2) (oi := ⟨_, _, _, _, _, _⟩) (v := ?_) rfl (by kernel_rfl) (by kernel_rfl) (by kernel_rfl) (fun _ _ _ h => h) (Or.inl ⟨by rfl, ?_⟩) (by assumption) ?_
    rotate_left
    · intro w hSw
      go_simp
      all_goals with_reducible rfl
    simp only [Act.put, List.setIfInBounds_toArray, List.set_cons_zero, List.set_cons_succ]
    refine wpAnyH_take (i := 3) (oi := ⟨_, _, _, _, _, _⟩) rfl (by kernel_rfl) (by kernel_rfl) (by kernel_rfl) (fun _ _ _ h => h) (yieldsIf_load_at 24 (.tmp 68) (mb + 1) 0 #[.int .i64 q0, .int .i64 q1, .int .i64 q2, .int .i64 q3, .int .i64 q4, .int .i64 q5, .int .i64 0, .int .i64 0, .int .i64 0, .int .i64 0, .int .i64 0, .int .i64 0] _ (fun w hS j v hj => row12 hS j v hj) rfl (by rfl) rfl rfl rfl rfl) (by assumption) ?_
    simp only [Act.put, List.setIfInBounds_toArray, List.set_cons_zero, List.set_cons_succ]
    refine wpAnyH_take (i := 4) (oi := ⟨_, _, _, _, _, _⟩) (v := ?_) rfl (by kernel_rfl) (by kernel_rfl) (by kernel_rfl) (fun _ _ _ h => h) (Or.inl ⟨by rfl, ?_⟩) (by assumption) ?_
    rotate_left
    · intro w hSw
      go_simp
      all_goals with_reducible rfl
    simp only [Act.put, List.setIfInBounds_toArray, List.set_cons_zero, List.set_cons_succ]
    refine wpAnyH_take (i := 5) (oi := ⟨_, _, _, _, _, _⟩) (v := ?_) rfl (by kernel_rfl) (by kernel_rfl) (by kernel_rfl) (fun _ _ _ h => h) (Or.inl ⟨by rfl, ?_⟩) (by assumption) ?_
    rotate_left
    · intro w hSw
      go_simp
      all_goals with_reducible rfl
    simp only [Act.put, List.setIfInBounds_toArray, List.set_cons_zero, List.set_cons_succ]
    refine wpAnyH_take (i := 6) (oi := ⟨_, _, _, _, _, _⟩) (v := ?_) rfl (by kernel_rfl) (by kernel_rfl) (by kernel_rfl) (fun _ _ _ h => h) (Or.inl ⟨by rfl, ?_⟩) (by assumption) ?_
    rotate_left
    · intro w hSw
      go_simp
      all_goals with_reducible rfl
    simp only [Act.put, List.setIfInBounds_toArray, List.set_cons_zero, List.set_cons_succ]
    refine wpAnyH_take (i := 7) (oi := ⟨_, _, _, _, _, _⟩) (v := ?_) rfl (by kernel_rfl) (by kernel_rfl) (by kernel_rfl) (fun _ _ _ h => h) (Or.inl ⟨by rfl, ?_⟩) (by assumption) ?_
    rotate_left
    · intro w hSw
      have hc15 : w.cell? ⟨mb + 1, 15, none⟩ = some (.slice Ao no co) := RowAt.cell hSw 15
      go_simp
      all_goals with_reducible rfl
    simp only [Act.put, List.setIfInBounds_toArray, List.set_cons_zero, List.set_cons_succ]
    refine wpAnyH_ready (rs := [8]) (by kernel_rfl) (by simp) ?_
    refine AllReadyH.cons (o := ⟨_, _, _, _, _, _⟩) rfl (fun K hK => ?_) AllReadyH.nil
    rw [if_pos (by rfl)]
    refine wp_store_row 24 (.tmp 6) (.tmp 69) rfl (n0 + 1) #[.int .i64 q0, .int .i64 q1, .int .i64 q2, .int .i64 q3, .int .i64 q4, .int .i64 q5, .int .i64 0, .int .i64 0, .int .i64 0, .int .i64 0, .int .i64 0, .int .i64 0] rfl rfl 24 #[.int .i64 0, .int .i64 0, .int .i64 0, .int .i64 0, .int .i64 0, .int .i64 0, .int .i64 0, .int .i64 0, .int .i64 0, .int .i64 0, .int .i64 0, .int .i64 0] K3.out.2.1 (by kernel_rfl) rfl (by kernel_rfl) ?_
    refine hK.out _ _ (RowAt.trans_other (setRow_other (by have := hs1; omega)) rn4) (fun hHeld => ?_)
    clear hK K
    simp only [Act.put]
    refine wpAnyH_take (i := 9) (oi := ⟨_, _, _, _, _, _⟩) (v := ?_) rfl (by kernel_rfl) (by kernel_rfl) (by kernel_rfl) (fun _ _ _ h => h) (Or.inl ⟨by rfl, ?_⟩) (by assumption) ?_
    rotate_left
    · intro w hSw
      go_simp
      all_goals with_reducible rfl
    simp only [Act.put, List.setIfInBounds_toArray, List.set_cons_zero, List.set_cons_succ]
    refine wpAnyH_take (i := 10) (oi := ⟨_, _, _, _, _, _⟩) (v := ?_) rfl (by kernel_rfl) (by kernel_rfl) (by kernel_rfl) (fun _ _ _ h => h) (Or.inl ⟨by rfl, ?_⟩) (by assumption) ?_
    rotate_left
    · intro w hSw
      go_simp
      all_goals with_reducible rfl
    simp only [Act.put, List.setIfInBounds_toArray, List.set_cons_zero, List.set_cons_succ]
    refine wpAnyH_take (i := 11) (oi := ⟨_, _, _, _, _, _⟩) (v := ?_) rfl (by kernel_rfl) (by kernel_rfl) (by kernel_rfl) (fun _ _ _ h => h) (Or.inl ⟨by rfl, ?_⟩) (by assumption) ?_
    rotate_left
    · intro w hSw
      go_simp
      all_goals with_reducible rfl
    simp only [Act.put, List.setIfInBounds_toArray, List.set_cons_zero, List.set_cons_succ]
    refine wpAnyH_done (by kernel_rfl) ?_ _
    clear hHeld
    go_wp2_with fail
    refine bodyPost_ret (results_cell3 rfl _ _ (n0 + 1) _ #[.int .i64 q0, .int .i64 q1, .int .i64 q2, .int .i64 q3, .int .i64 q4, .int .i64 q5, .int .i64 0, .int .i64 0, .int .i64 0, .int .i64 0, .int .i64 0, .int .i64 0] _ _ rfl (setRow_same K3.out.2.1) Try.underlying24 rfl (by kernel_rfl)) rfl ?_
    rw [NOP.out]
    refine ⟨.slice none 0 0, .slice none 0 0, .slice Ao no co, rfl, OwnI.nil _ _ _ _, OwnI.nil _ _ _ _, ?_, ?_⟩
    · refine OwnI.mono (OwnI.kept (w := W3) K3.out.2.2.2.1 ?_) (by rw [HN0.out]; omega)
      intro g hg
      exact setRow_other (fun e => (K3.out.2.2.2.1.lt g hg).1 |> fun h => by omega)
    · rw [HN0.out]
      exact below_setRow (K3.out.2.2.2.2.2.drew) (by omega)
  · have h4 : (0 ≤ q2 ∧ q2 ≤ 1000000000000000000) ∧ (0 ≤ q3 ∧ q3 ≤ 1000000000000000000) ∧ (0 ≤ q4 ∧ q4 ≤ 1000000000000000000) ∧ 0 ≤ q5 ∧ q5 ≤ 1000000000000000000 := by
      simpa [okN_iff, and_assoc] using hok4
    obtain ⟨s1, hs1'⟩ : ∃ z, q2 + q3 = z := ⟨_, rfl⟩
    obtain ⟨s2, hs2'⟩ : ∃ z, s1 + q4 = z := ⟨_, rfl⟩
    obtain ⟨s3, hs3'⟩ : ∃ z, s2 + q5 = z := ⟨_, rfl⟩
    have x1 : IntKind.i64.wrap (q2 + q3) = s1 := by rw [hs1']; exact IntWalk.i64_in _ (by omega)
    have x2 : IntKind.i64.wrap (s1 + q4) = s2 := by rw [hs2']; exact IntWalk.i64_in _ (by omega)
    have x3 : IntKind.i64.wrap (s2 + q5) = s3 := by rw [hs3']; exact IntWalk.i64_in _ (by omega)
    have SUM : Hid (q2 + q3 + q4 + q5 = s3) := Lib.hid (by rw [hs1', hs2', hs3'])
    have HS3 : Hid (0 ≤ s3) := Lib.hid (by omega)
    have d2 : W3.cell? ⟨n0, 2, none⟩ = some (.int .i64 q2) := r43.cell 2
    have d3 : W3.cell? ⟨n0, 3, none⟩ = some (.int .i64 q3) := r43.cell 3
    have d4 : W3.cell? ⟨n0, 4, none⟩ = some (.int .i64 q4) := r43.cell 4
    have d5 : W3.cell? ⟨n0, 5, none⟩ = some (.int .i64 q5) := r43.cell 5
    clear h4 hs1' hs2' hs3' hok4 r43 rn3
    by_cases hmost : 1000000000000000000 < s3
    · have dm : decide (1000000000000000000 < s3) = true := by simpa using hmost
      have NOP : Hid (settleSpec l ⟨q0, q1, q2, q3, q4, q5⟩ bs = ⟨0, 0, 0, 0, 0, 0, [], [], bs⟩) := Lib.hid (by
        unfold settleSpec
        rw [OPN.out, SUM.out, show decide (s3 ≤ 1000000000000000000) = false by simp; omega]
        rfl)
      clear OPN hmost
      go_wp2_with fail
      refine WN2.out.mono ?_
      rintro e w' ⟨rfl, rfl⟩
      clear hW3
      go_wp2_with fail
      have rn4 : RowAt W3 (mb + 1) 59 (setC ⟨q0, q1, q2, q3, q4, q5⟩ ⟨0, 0, 0, 0, 0, 0, [], [], bs⟩ (.slice none 0 0) (.slice none 0 0) (.slice Ao no co) (.map (some mb))) := K3.out.2.2.1
      refine wp_region_held_drew (S := fun W' => RowAt W' (mb + 1) 59 (setC ⟨q0, q1, q2, q3, q4, q5⟩ ⟨0, 0, 0, 0, 0, 0, [], [], bs⟩ (.slice none 0 0) (.slice none 0 0) (.slice Ao no co) (.map (some mb)))) (by kernel_rfl) rn4.drew (fun hHeld => ?_)
      refine wpAnyH_take (i := 0) (oi := ⟨_, _, _, _, _, _⟩) (v := ?_) rfl (by kernel_rfl) (by kernel_rfl) (by kernel_rfl) (fun _ _ _ h => h) (Or.inl ⟨by rfl, ?_⟩) (by assumption) ?_
      rotate_left
      · intro w hSw
        go_simp
        all_goals with_reducible rfl
      simp only [Act.put, List.setIfInBounds_toArray, List.set_cons_zero, List.set_cons_succ]
      refine wpAnyH_take (i := 1) (oi := ⟨_, _, _, _, _, _⟩) (v := ?_) rfl (by kernel_rfl) (by kernel_rfl) (by kernel_rfl) (fun _ _ _ h => h) (Or.inl ⟨by rfl, ?_⟩) (by assumption) ?_
      rotate_left
      · intro w hSw
        go_simp
        all_goals with_reducible rfl
      simp only [Act.put, List.setIfInBounds_toArray, List.set_cons_zero, List.set_cons_succ]
      refine wpAnyH_take (i := 2) (oi := ⟨_, _, _, _, _, _⟩) (v := ?_) rfl (by kernel_rfl) (by kernel_rfl) (by kernel_rfl) (fun _ _ _ h => h) (Or.inl ⟨by rfl, ?_⟩) (by assumption) ?_
      rotate_left
      · intro w hSw
        go_simp
        all_goals with_reducible rfl
      simp only [Act.put, List.setIfInBounds_toArray, List.set_cons_zero, List.set_cons_succ]
      refine wpAnyH_take (i := 3) (oi := ⟨_, _, _, _, _, _⟩) rfl (by kernel_rfl) (by kernel_rfl) (by kernel_rfl) (fun _ _ _ h => h) (yieldsIf_load_at 24 (.tmp 68) (mb + 1) 0 #[.int .i64 q0, .int .i64 q1, .int .i64 q2, .int .i64 q3, .int .i64 q4, .int .i64 q5, .int .i64 0, .int .i64 0, .int .i64 0, .int .i64 0, .int .i64 0, .int .i64 0] _ (fun w hS j v hj => row12 hS j v hj) rfl (by rfl) rfl rfl rfl rfl) (by assumption) ?_
      simp only [Act.put, List.setIfInBounds_toArray, List.set_cons_zero, List.set_cons_succ]
      refine wpAnyH_take (i := 4) (oi := ⟨_, _, _, _, _, _⟩) (v := ?_) rfl (by kernel_rfl) (by kernel_rfl) (by kernel_rfl) (fun _ _ _ h => h) (Or.inl ⟨by rfl, ?_⟩) (by assumption) ?_
      rotate_left
      · intro w hSw
        go_simp
        all_goals with_reducible rfl
      simp only [Act.put, List.setIfInBounds_toArray, List.set_cons_zero, List.set_cons_succ]
      refine wpAnyH_take (i := 5) (oi := ⟨_, _, _, _, _, _⟩) (v := ?_) rfl (by kernel_rfl) (by kernel_rfl) (by kernel_rfl) (fun _ _ _ h => h) (Or.inl ⟨by rfl, ?_⟩) (by assumption) ?_
      rotate_left
      · intro w hSw
        go_simp
        all_goals with_reducible rfl
      simp only [Act.put, List.setIfInBounds_toArray, List.set_cons_zero, List.set_cons_succ]
      refine wpAnyH_take (i := 6) (oi := ⟨_, _, _, _, _, _⟩) (v := ?_) rfl (by kernel_rfl) (by kernel_rfl) (by kernel_rfl) (fun _ _ _ h => h) (Or.inl ⟨by rfl, ?_⟩) (by assumption) ?_
      rotate_left
      · intro w hSw
        go_simp
        all_goals with_reducible rfl
      simp only [Act.put, List.setIfInBounds_toArray, List.set_cons_zero, List.set_cons_succ]
      refine wpAnyH_take (i := 7) (oi := ⟨_, _, _, _, _, _⟩) (v := ?_) rfl (by kernel_rfl) (by kernel_rfl) (by kernel_rfl) (fun _ _ _ h => h) (Or.inl ⟨by rfl, ?_⟩) (by assumption) ?_
      rotate_left
      · intro w hSw
        have hc15 : w.cell? ⟨mb + 1, 15, none⟩ = some (.slice Ao no co) := RowAt.cell hSw 15
        go_simp
        all_goals with_reducible rfl
      simp only [Act.put, List.setIfInBounds_toArray, List.set_cons_zero, List.set_cons_succ]
      refine wpAnyH_ready (rs := [8]) (by kernel_rfl) (by simp) ?_
      refine AllReadyH.cons (o := ⟨_, _, _, _, _, _⟩) rfl (fun K hK => ?_) AllReadyH.nil
      rw [if_pos (by rfl)]
      refine wp_store_row 24 (.tmp 6) (.tmp 69) rfl (n0 + 1) #[.int .i64 q0, .int .i64 q1, .int .i64 q2, .int .i64 q3, .int .i64 q4, .int .i64 q5, .int .i64 0, .int .i64 0, .int .i64 0, .int .i64 0, .int .i64 0, .int .i64 0] rfl rfl 24 #[.int .i64 0, .int .i64 0, .int .i64 0, .int .i64 0, .int .i64 0, .int .i64 0, .int .i64 0, .int .i64 0, .int .i64 0, .int .i64 0, .int .i64 0, .int .i64 0] K3.out.2.1 (by kernel_rfl) rfl (by kernel_rfl) ?_
      refine hK.out _ _ (RowAt.trans_other (setRow_other (by have := hs1; omega)) rn4) (fun hHeld => ?_)
      clear hK K
      simp only [Act.put]
      refine wpAnyH_take (i := 9) (oi := ⟨_, _, _, _, _, _⟩) (v := ?_) rfl (by kernel_rfl) (by kernel_rfl) (by kernel_rfl) (fun _ _ _ h => h) (Or.inl ⟨by rfl, ?_⟩) (by assumption) ?_
      rotate_left
      · intro w hSw
        go_simp
        all_goals with_reducible rfl
      simp only [Act.put, List.setIfInBounds_toArray, List.set_cons_zero, List.set_cons_succ]
      refine wpAnyH_take (i := 10) (oi := ⟨_, _, _, _, _, _⟩) (v := ?_) rfl (by kernel_rfl) (by kernel_rfl) (by kernel_rfl) (fun _ _ _ h => h) (Or.inl ⟨by rfl, ?_⟩) (by assumption) ?_
      rotate_left
      · intro w hSw
        go_simp
        all_goals with_reducible rfl
      simp only [Act.put, List.setIfInBounds_toArray, List.set_cons_zero, List.set_cons_succ]
      refine wpAnyH_take (i := 11) (oi := ⟨_, _, _, _, _, _⟩) (v := ?_) rfl (by kernel_rfl) (by kernel_rfl) (by kernel_rfl) (fun _ _ _ h => h) (Or.inl ⟨by rfl, ?_⟩) (by assumption) ?_
      rotate_left
      · intro w hSw
        go_simp
        all_goals with_reducible rfl
      simp only [Act.put, List.setIfInBounds_toArray, List.set_cons_zero, List.set_cons_succ]
      refine wpAnyH_done (by kernel_rfl) ?_ _
      clear hHeld
      go_wp2_with fail
      refine bodyPost_ret (results_cell3 rfl _ _ (n0 + 1) _ #[.int .i64 q0, .int .i64 q1, .int .i64 q2, .int .i64 q3, .int .i64 q4, .int .i64 q5, .int .i64 0, .int .i64 0, .int .i64 0, .int .i64 0, .int .i64 0, .int .i64 0] _ _ rfl (setRow_same K3.out.2.1) Try.underlying24 rfl (by kernel_rfl)) rfl ?_
      rw [NOP.out]
      refine ⟨.slice none 0 0, .slice none 0 0, .slice Ao no co, rfl, OwnI.nil _ _ _ _, OwnI.nil _ _ _ _, ?_, ?_⟩
      · refine OwnI.mono (OwnI.kept (w := W3) K3.out.2.2.2.1 ?_) (by rw [HN0.out]; omega)
        intro g hg
        exact setRow_other (fun e => (K3.out.2.2.2.1.lt g hg).1 |> fun h => by omega)
      · rw [HN0.out]
        exact below_setRow (K3.out.2.2.2.2.2.drew) (by omega)
    · have dm : decide (1000000000000000000 < s3) = false := by simpa using hmost
      have OP : Hid (openR ⟨q0, q1, q2, q3, q4, q5⟩ = true) := Lib.hid (by
        rw [OPN.out, SUM.out, show decide (s3 ≤ 1000000000000000000) = true by simp; omega]
        rfl)
      have HM3 : Hid (s3 ≤ 1000000000000000000) := Lib.hid (by omega)
      clear OPN hmost
      go_wp2_with fail
      refine WN2.out.mono ?_
      rintro e w' ⟨rfl, rfl⟩
      clear hW3
      have e15 : W3.cell? ⟨mb + 1, 15, none⟩ = some (.slice Ao no co) := K3.out.2.2.1.cell 15
      have MID0 := Lib.hid (show MidAt n0 mb w W3 #[.int .i64 q0, .int .i64 q1, .int .i64 q2, .int .i64 q3, .int .i64 q4, .int .i64 q5, .int .i64 x6, .int .i64 x7, .int .i64 x8, .int .i64 x9, .int .i64 x10, .int .i64 x11] #[.int .i64 0, .int .i64 0, .int .i64 0, .int .i64 0, .int .i64 0, .int .i64 0, .int .i64 0, .int .i64 0, .int .i64 0, .int .i64 0, .int .i64 0, .int .i64 0] (setC ⟨q0, q1, q2, q3, q4, q5⟩ ⟨0, 0, 0, 0, 0, 0, [], [], bs⟩ (.slice none 0 0) (.slice none 0 0) (.slice Ao no co) (.map (some mb))) (.slice Ao no co) bs (bs.take 0) from ⟨K3.out.1, K3.out.2.1, K3.out.2.2.1, K3.out.2.2.2.1, K3.out.2.2.2.2.1, K3.out.2.2.2.2.2⟩)
      have hno : no = bs.length := by
        rcases K3.out.2.2.2.1.2.2 with ⟨e, h⟩ | ⟨g', cap, cur, e, _⟩
        · simp only [Value.slice.injEq] at e
          rw [List.length_map] at h
          omega
        · simp only [Value.slice.injEq, List.length_map] at e
          exact e.2.1
      clear K3
      go_wp2_with fail
      go_loopw [79] (fun iv wr => ∃ k : Nat, k ≤ no ∧ iv = .int .i64 k ∧ Hid (MidAt n0 mb w wr #[.int .i64 q0, .int .i64 q1, .int .i64 q2, .int .i64 q3, .int .i64 q4, .int .i64 q5, .int .i64 x6, .int .i64 x7, .int .i64 x8, .int .i64 x9, .int .i64 x10, .int .i64 x11] #[.int .i64 0, .int .i64 0, .int .i64 0, .int .i64 0, .int .i64 0, .int .i64 0, .int .i64 0, .int .i64 0, .int .i64 0, .int .i64 0, .int .i64 0, .int .i64 0] (setC ⟨q0, q1, q2, q3, q4, q5⟩ ⟨0, 0, 0, 0, 0, 0, [], [], bs⟩ (.slice none 0 0) (.slice none 0 0) (.slice Ao no co) (.map (some mb))) (.slice Ao no co) bs (bs.take k))) (fun i _ => no - (intOf i).toNat)
      case atStart => exact ⟨0, by omega, rfl, MID0⟩
      case round =>
        obtain ⟨k, hk, rfl, HR⟩ := hrel
        have hmid := HR.out
        by_cases hk2 : k < no
        · obtain ⟨⟨ba, bm⟩, hbk⟩ : ∃ b, bs[k]? = some b := ⟨_, List.getElem?_eq_getElem (by omega)⟩
          have hts : bs.take (k + 1) = bs.take k ++ [(ba, bm)] := by rw [List.take_add_one, hbk]; rfl
          have htl : (bs.take k).length = k := by rw [List.length_take]; omega
          obtain ⟨g, hA, hb0, hb1⟩ : ∃ g, Ao = some ⟨g, 0, none⟩ ∧ wr.cell? ⟨g, k * 2, none⟩ = some (.int .i64 ba) ∧ wr.cell? ⟨g, k * 2 + 1, none⟩ = some (.int .i64 bm) := by
            rcases hmid.bal.rows.2 with ⟨h2, _⟩ | ⟨b, o, c, he, hlt, hc⟩
            · rw [List.map_eq_nil_iff] at h2; rw [h2] at hbk; simp at hbk
            · rcases hmid.bal.2.2 with ⟨e0, _⟩ | ⟨g', cap, cur, e0, _⟩
              · rw [e0] at he; simp at he
              · rw [e0] at he
                simp only [Value.slice.injEq, Option.some.injEq, Addr.mk.injEq] at he e0
                obtain ⟨⟨rfl, rfl, _⟩, _⟩ := he
                have h3 := hc k [ba, bm] (by rw [List.getElem?_map, hbk]; rfl)
                exact ⟨g', e0.1, by have := h3 0 ba rfl; simpa using this, by have := h3 1 bm rfl; simpa using this⟩
          subst hA
          have hbd := HBB.out _ (List.mem_of_getElem? hbk)
          dsimp only at hbd
          obtain ⟨W4, hW4⟩ : ∃ z, wr.alloc (.cells #[.int .i64 ba, .int .i64 bm] 46) = z := ⟨_, rfl⟩
          have b4 : Below wr.heap.size wr W4 := by rw [← hW4]; exact (Below.refl _ _).alloc (Nat.le_refl _) _
          have c12 : W4.cell? ⟨wr.heap.size, 0, none⟩ = some (.int .i64 ba) := by rw [← hW4]; exact (RowAt.new wr _ _).cell 0
          have hmid4 := hmid.below b4
          have c16 : W4.cell? ⟨mb + 1, 16, none⟩ = some (.map (some mb)) := hmid4.rn.cell 16
          have hmidd := hmid4.below (Below.refl W4.heap.size W4).drew
          obtain ⟨c, hlk, hci⟩ := first_look hmidd.map hbd.1.1 hbd.1.2
          rcases hf : findB (bs.take k) ba with _ | i
          · rw [hf] at hlk
            simp only [Option.isSome_none] at hlk
            obtain ⟨W5, hup, hm5, hg5⟩ := FirstMap.put (b := (ba, bm)) (hmidd.below (Below.refl W4.drew.heap.size W4.drew).drew).map (by rw [htl]; omega) hf hbd.1.1 hbd.1.2
            rw [htl] at hup
            dsimp only at hup
            have HC5 := Lib.hid (show W5.cell? ⟨wr.heap.size, 0, none⟩ = some (.int .i64 ba) from (World.cell?_of_block (a := ⟨wr.heap.size, 0, none⟩) (hg5.block wr.heap.size (show wr.heap.size < W4.heap.size by rw [← hW4]; simp) (by have := hmid.map.lt; simp; omega))).trans c12)
            have HEND := Lib.hid (show MidAt n0 mb w W5 #[.int .i64 q0, .int .i64 q1, .int .i64 q2, .int .i64 q3, .int .i64 q4, .int .i64 q5, .int .i64 x6, .int .i64 x7, .int .i64 x8, .int .i64 x9, .int .i64 x10, .int .i64 x11] #[.int .i64 0, .int .i64 0, .int .i64 0, .int .i64 0, .int .i64 0, .int .i64 0, .int .i64 0, .int .i64 0, .int .i64 0, .int .i64 0, .int .i64 0, .int .i64 0] (setC ⟨q0, q1, q2, q3, q4, q5⟩ ⟨0, 0, 0, 0, 0, 0, [], [], bs⟩ (.slice none 0 0) (.slice none 0 0) (.slice (some ⟨g, 0, none⟩) no co) (.map (some mb))) (.slice (some ⟨g, 0, none⟩) no co) bs (bs.take (k + 1)) from by
              rw [hts]
              exact (hmidd.below (Below.refl W4.drew.heap.size W4.drew).drew).mapped hg5 hm5 (by omega))
            clear hmid hbk hts htl hbd hmid4 hmidd hci hf hm5 hg5 b4
            go_wp2_with fail
            clear hW4
            refine wp_region_held_drew (S := fun W' => W'.cell? ⟨mb + 1, 16, none⟩ = some (.map (some mb)) ∧ W'.cell? ⟨wr.heap.size, 0, none⟩ = some (.int .i64 ba)) (by kernel_rfl) ⟨c16, c12⟩ (fun hHeld => ?_)
            refine wpAnyH_take (i := 0) (oi := ⟨_, _, _, _, _, _⟩) (v := ?_) rfl (by kernel_rfl) (by kernel_rfl) (by kernel_rfl) (fun _ _ _ h => h) (Or.inl ⟨by rfl, ?_⟩) (by assumption) ?_
            rotate_left
            · intro w hSw
              go_simp
              all_goals with_reducible rfl
            simp only [Act.put, List.setIfInBounds_toArray, List.set_cons_zero, List.set_cons_succ]
            refine wpAnyH_take (i := 1) (oi := ⟨_, _, _, _, _, _⟩) (v := ?_) rfl (by kernel_rfl) (by kernel_rfl) (by kernel_rfl) (fun _ _ _ h => h) (Or.inl ⟨by rfl, ?_⟩) (by assumption) ?_
            rotate_left
            · intro w hSw
              go_simp
              all_goals with_reducible rfl
            simp only [Act.put, List.setIfInBounds_toArray, List.set_cons_zero, List.set_cons_succ]
            refine wpAnyH_take (i := 2) (oi := ⟨_, _, _, _, _, _⟩) (v := ?_) rfl (by kernel_rfl) (by kernel_rfl) (by kernel_rfl) (fun _ _ _ h => h) (Or.inl ⟨by rfl, ?_⟩) (by assumption) ?_
            rotate_left
            · intro w hSw
              go_simp
              all_goals with_reducible rfl
            simp only [Act.put, List.setIfInBounds_toArray, List.set_cons_zero, List.set_cons_succ]
            refine wpAnyH_take (i := 3) (oi := ⟨_, _, _, _, _, _⟩) (v := ?_) rfl (by kernel_rfl) (by kernel_rfl) (by kernel_rfl) (fun _ _ _ h => h) (Or.inl ⟨by rfl, ?_⟩) (by assumption) ?_
            rotate_left
            · intro w hSw
              obtain ⟨hc1, hc2⟩ := hSw
              go_simp
              all_goals with_reducible rfl
            simp only [Act.put, List.setIfInBounds_toArray, List.set_cons_zero, List.set_cons_succ]
            refine wpAnyH_take (i := 4) (oi := ⟨_, _, _, _, _, _⟩) (v := ?_) rfl (by kernel_rfl) (by kernel_rfl) (by kernel_rfl) (fun _ _ _ h => h) (Or.inl ⟨by rfl, ?_⟩) (by assumption) ?_
            rotate_left
            · intro w hSw
              go_simp
              all_goals with_reducible rfl
            simp only [Act.put, List.setIfInBounds_toArray, List.set_cons_zero, List.set_cons_succ]
            refine wpAnyH_take (i := 5) (oi := ⟨_, _, _, _, _, _⟩) (v := ?_) rfl (by kernel_rfl) (by kernel_rfl) (by kernel_rfl) (fun _ _ _ h => h) (Or.inl ⟨by rfl, ?_⟩) (by assumption) ?_
            rotate_left
            · intro w hSw
              obtain ⟨hc1, hc2⟩ := hSw
              go_simp
              all_goals with_reducible rfl
            simp only [Act.put, List.setIfInBounds_toArray, List.set_cons_zero, List.set_cons_succ]
            refine wpAnyH_ready (rs := [6]) (by kernel_rfl) (by simp) ?_
            refine AllReadyH.cons (o := ⟨_, _, _, _, _, _⟩) rfl (fun K hK => ?_) AllReadyH.nil
            go_simp
            go_wp2_with fail
            refine hK.out _ _ (by assumption) (fun hHeld => ?_)
            clear hK K
            try simp only [Act.put, List.setIfInBounds_toArray, List.set_cons_zero, List.set_cons_succ]
            refine wpAnyH_take (i := 7) (oi := ⟨_, _, _, _, _, _⟩) (v := ?_) rfl (by kernel_rfl) (by kernel_rfl) (by kernel_rfl) (fun _ _ _ h => h) (Or.inl ⟨by rfl, ?_⟩) (by assumption) ?_
            rotate_left
            · intro w hSw
              go_simp
              all_goals with_reducible rfl
            simp only [Act.put, List.setIfInBounds_toArray, List.set_cons_zero, List.set_cons_succ]
            refine wpAnyH_take (i := 8) (oi := ⟨_, _, _, _, _, _⟩) (v := ?_) rfl (by kernel_rfl) (by kernel_rfl) (by kernel_rfl) (fun _ _ _ h => h) (Or.inl ⟨by rfl, ?_⟩) (by assumption) ?_
            rotate_left
            · intro w hSw
              go_simp
              all_goals with_reducible rfl
            simp only [Act.put, List.setIfInBounds_toArray, List.set_cons_zero, List.set_cons_succ]
            refine wpAnyH_take (i := 9) (oi := ⟨_, _, _, _, _, _⟩) (v := ?_) rfl (by kernel_rfl) (by kernel_rfl) (by kernel_rfl) (fun _ _ _ h => h) (Or.inl ⟨by rfl, ?_⟩) (by assumption) ?_
            rotate_left
            · intro w hSw
              go_simp
              all_goals with_reducible rfl
            simp only [Act.put, List.setIfInBounds_toArray, List.set_cons_zero, List.set_cons_succ]
            refine wpAnyH_take (i := 10) (oi := ⟨_, _, _, _, _, _⟩) (v := ?_) rfl (by kernel_rfl) (by kernel_rfl) (by kernel_rfl) (fun _ _ _ h => h) (Or.inl ⟨by rfl, ?_⟩) (by assumption) ?_
            rotate_left
            · intro w hSw
              go_simp
              all_goals with_reducible rfl
            simp only [Act.put, List.setIfInBounds_toArray, List.set_cons_zero, List.set_cons_succ]
            refine wpAnyH_take (i := 11) (oi := ⟨_, _, _, _, _, _⟩) (v := ?_) rfl (by kernel_rfl) (by kernel_rfl) (by kernel_rfl) (fun _ _ _ h => h) (Or.inl ⟨by rfl, ?_⟩) (by assumption) ?_
            rotate_left
            · intro w hSw
              go_simp
              all_goals with_reducible rfl
            simp only [Act.put, List.setIfInBounds_toArray, List.set_cons_zero, List.set_cons_succ]
            refine wpAnyH_done (by kernel_rfl) ?_ _
            clear hHeld
            go_wp2_with fail
            refine wp_region_held_drew (S := fun W' => W'.cell? ⟨mb + 1, 16, none⟩ = some (.map (some mb)) ∧ W'.cell? ⟨wr.heap.size, 0, none⟩ = some (.int .i64 ba)) (by kernel_rfl) ⟨c16, c12⟩ (fun hHeld => ?_)
            refine wpAnyH_take (i := 0) (oi := ⟨_, _, _, _, _, _⟩) (v := ?_) rfl (by kernel_rfl) (by kernel_rfl) (by kernel_rfl) (fun _ _ _ h => h) (Or.inl ⟨by rfl, ?_⟩) (by assumption) ?_
            rotate_left
            · intro w hSw
              go_simp
              all_goals with_reducible rfl
            simp only [Act.put, List.setIfInBounds_toArray, List.set_cons_zero, List.set_cons_succ]
            refine wpAnyH_take (i := 1) (oi := ⟨_, _, _, _, _, _⟩) (v := ?_) rfl (by kernel_rfl) (by kernel_rfl) (by kernel_rfl) (fun _ _ _ h => h) (Or.inl ⟨by rfl, ?_⟩) (by assumption) ?_
            rotate_left
            · intro w hSw
              go_simp
              all_goals with_reducible rfl
            simp only [Act.put, List.setIfInBounds_toArray, List.set_cons_zero, List.set_cons_succ]
            refine wpAnyH_take (i := 2) (oi := ⟨_, _, _, _, _, _⟩) (v := ?_) rfl (by kernel_rfl) (by kernel_rfl) (by kernel_rfl) (fun _ _ _ h => h) (Or.inl ⟨by rfl, ?_⟩) (by assumption) ?_
            rotate_left
            · intro w hSw
              go_simp
              all_goals with_reducible rfl
            simp only [Act.put, List.setIfInBounds_toArray, List.set_cons_zero, List.set_cons_succ]
            refine wpAnyH_take (i := 3) (oi := ⟨_, _, _, _, _, _⟩) (v := ?_) rfl (by kernel_rfl) (by kernel_rfl) (by kernel_rfl) (fun _ _ _ h => h) (Or.inl ⟨by rfl, ?_⟩) (by assumption) ?_
            rotate_left
            · intro w hSw
              obtain ⟨hc1, hc2⟩ := hSw
              go_simp
              all_goals with_reducible rfl
            simp only [Act.put, List.setIfInBounds_toArray, List.set_cons_zero, List.set_cons_succ]
            refine wpAnyH_take (i := 4) (oi := ⟨_, _, _, _, _, _⟩) (v := ?_) rfl (by kernel_rfl) (by kernel_rfl) (by kernel_rfl) (fun _ _ _ h => h) (Or.inl ⟨by rfl, ?_⟩) (by assumption) ?_
            rotate_left
            · intro w hSw
              go_simp
              all_goals with_reducible rfl
            simp only [Act.put, List.setIfInBounds_toArray, List.set_cons_zero, List.set_cons_succ]
            refine wpAnyH_take (i := 5) (oi := ⟨_, _, _, _, _, _⟩) (v := ?_) rfl (by kernel_rfl) (by kernel_rfl) (by kernel_rfl) (fun _ _ _ h => h) (Or.inl ⟨by rfl, ?_⟩) (by assumption) ?_
            rotate_left
            · intro w hSw
              obtain ⟨hc1, hc2⟩ := hSw
              go_simp
              all_goals with_reducible rfl
            simp only [Act.put, List.setIfInBounds_toArray, List.set_cons_zero, List.set_cons_succ]
            refine wpAnyH_take (i := 6) (oi := ⟨_, _, _, _, _, _⟩) (v := ?_) rfl (by kernel_rfl) (by kernel_rfl) (by kernel_rfl) (fun _ _ _ h => h) (Or.inl ⟨by rfl, ?_⟩) (by assumption) ?_
            rotate_left
            · intro w hSw
              go_simp
              all_goals with_reducible rfl
            simp only [Act.put, List.setIfInBounds_toArray, List.set_cons_zero, List.set_cons_succ]
            refine wpAnyH_ready (rs := [7]) (by kernel_rfl) (by simp) ?_
            refine AllReadyH.cons (o := ⟨_, _, _, _, _, _⟩) rfl (fun K hK => ?_) AllReadyH.nil
            go_simp
            go_wp2_with fail
            refine hK.out _ _ ⟨HEND.out.rn.cell 16, HC5.out⟩ (fun hHeld => ?_)
            clear hK K
            refine wpAnyH_done (by kernel_rfl) ?_ _
            clear hHeld
            go_wp2_with fail
            go_roundw
            case rel => exact ⟨k + 1, by omega, by go_num, HEND⟩
            case measure => simp [intOf]; omega
          · rw [hf] at hlk
            simp only [Option.isSome_some] at hlk
            have HEND := Lib.hid (show MidAt n0 mb w W4.drew #[.int .i64 q0, .int .i64 q1, .int .i64 q2, .int .i64 q3, .int .i64 q4, .int .i64 q5, .int .i64 x6, .int .i64 x7, .int .i64 x8, .int .i64 x9, .int .i64 x10, .int .i64 x11] #[.int .i64 0, .int .i64 0, .int .i64 0, .int .i64 0, .int .i64 0, .int .i64 0, .int .i64 0, .int .i64 0, .int .i64 0, .int .i64 0, .int .i64 0, .int .i64 0] (setC ⟨q0, q1, q2, q3, q4, q5⟩ ⟨0, 0, 0, 0, 0, 0, [], [], bs⟩ (.slice none 0 0) (.slice none 0 0) (.slice (some ⟨g, 0, none⟩) no co) (.map (some mb))) (.slice (some ⟨g, 0, none⟩) no co) bs (bs.take (k + 1)) from by
              rw [hts]
              exact { hmidd with map := hmidd.map.twice (by rw [hf]; rfl) })
            clear hmid hbk hts htl hbd hmid4 hmidd hci hf b4
            go_wp2_with fail
            clear hW4
            refine wp_region_held_drew (S := fun W' => W'.cell? ⟨mb + 1, 16, none⟩ = some (.map (some mb)) ∧ W'.cell? ⟨wr.heap.size, 0, none⟩ = some (.int .i64 ba)) (by kernel_rfl) ⟨c16, c12⟩ (fun hHeld => ?_)
            refine wpAnyH_take (i := 0) (oi := ⟨_, _, _, _, _, _⟩) (v := ?_) rfl (by kernel_rfl) (by kernel_rfl) (by kernel_rfl) (fun _ _ _ h => h) (Or.inl ⟨by rfl, ?_⟩) (by assumption) ?_
            rotate_left
            · intro w hSw
              go_simp
              all_goals with_reducible rfl
            simp only [Act.put, List.setIfInBounds_toArray, List.set_cons_zero, List.set_cons_succ]
            refine wpAnyH_take (i := 1) (oi := ⟨_, _, _, _, _, _⟩) (v := ?_) rfl (by kernel_rfl) (by kernel_rfl) (by kernel_rfl) (fun _ _ _ h => h) (Or.inl ⟨by rfl, ?_⟩) (by assumption) ?_
            rotate_left
            · intro w hSw
              go_simp
              all_goals with_reducible rfl
            simp only [Act.put, List.setIfInBounds_toArray, List.set_cons_zero, List.set_cons_succ]
            refine wpAnyH_take (i := 2) (oi := ⟨_, _, _, _, _, _⟩) (v := ?_) rfl (by kernel_rfl) (by kernel_rfl) (by kernel_rfl) (fun _ _ _ h => h) (Or.inl ⟨by rfl, ?_⟩) (by assumption) ?_
            rotate_left
            · intro w hSw
              go_simp
              all_goals with_reducible rfl
            simp only [Act.put, List.setIfInBounds_toArray, List.set_cons_zero, List.set_cons_succ]
            refine wpAnyH_take (i := 3) (oi := ⟨_, _, _, _, _, _⟩) (v := ?_) rfl (by kernel_rfl) (by kernel_rfl) (by kernel_rfl) (fun _ _ _ h => h) (Or.inl ⟨by rfl, ?_⟩) (by assumption) ?_
            rotate_left
            · intro w hSw
              obtain ⟨hc1, hc2⟩ := hSw
              go_simp
              all_goals with_reducible rfl
            simp only [Act.put, List.setIfInBounds_toArray, List.set_cons_zero, List.set_cons_succ]
            refine wpAnyH_take (i := 4) (oi := ⟨_, _, _, _, _, _⟩) (v := ?_) rfl (by kernel_rfl) (by kernel_rfl) (by kernel_rfl) (fun _ _ _ h => h) (Or.inl ⟨by rfl, ?_⟩) (by assumption) ?_
            rotate_left
            · intro w hSw
              go_simp
              all_goals with_reducible rfl
            simp only [Act.put, List.setIfInBounds_toArray, List.set_cons_zero, List.set_cons_succ]
            refine wpAnyH_take (i := 5) (oi := ⟨_, _, _, _, _, _⟩) (v := ?_) rfl (by kernel_rfl) (by kernel_rfl) (by kernel_rfl) (fun _ _ _ h => h) (Or.inl ⟨by rfl, ?_⟩) (by assumption) ?_
            rotate_left
            · intro w hSw
              obtain ⟨hc1, hc2⟩ := hSw
              go_simp
              all_goals with_reducible rfl
            simp only [Act.put, List.setIfInBounds_toArray, List.set_cons_zero, List.set_cons_succ]
            refine wpAnyH_ready (rs := [6]) (by kernel_rfl) (by simp) ?_
            refine AllReadyH.cons (o := ⟨_, _, _, _, _, _⟩) rfl (fun K hK => ?_) AllReadyH.nil
            go_simp
            go_wp2_with fail
            refine hK.out _ _ (by assumption) (fun hHeld => ?_)
            clear hK K
            try simp only [Act.put, List.setIfInBounds_toArray, List.set_cons_zero, List.set_cons_succ]
            refine wpAnyH_take (i := 7) (oi := ⟨_, _, _, _, _, _⟩) (v := ?_) rfl (by kernel_rfl) (by kernel_rfl) (by kernel_rfl) (fun _ _ _ h => h) (Or.inl ⟨by rfl, ?_⟩) (by assumption) ?_
            rotate_left
            · intro w hSw
              go_simp
              all_goals with_reducible rfl
            simp only [Act.put, List.setIfInBounds_toArray, List.set_cons_zero, List.set_cons_succ]
            refine wpAnyH_take (i := 8) (oi := ⟨_, _, _, _, _, _⟩) (v := ?_) rfl (by kernel_rfl) (by kernel_rfl) (by kernel_rfl) (fun _ _ _ h => h) (Or.inl ⟨by rfl, ?_⟩) (by assumption) ?_
            rotate_left
            · intro w hSw
              go_simp
              all_goals with_reducible rfl
            simp only [Act.put, List.setIfInBounds_toArray, List.set_cons_zero, List.set_cons_succ]
            refine wpAnyH_take (i := 9) (oi := ⟨_, _, _, _, _, _⟩) (v := ?_) rfl (by kernel_rfl) (by kernel_rfl) (by kernel_rfl) (fun _ _ _ h => h) (Or.inl ⟨by rfl, ?_⟩) (by assumption) ?_
            rotate_left
            · intro w hSw
              go_simp
              all_goals with_reducible rfl
            simp only [Act.put, List.setIfInBounds_toArray, List.set_cons_zero, List.set_cons_succ]
            refine wpAnyH_take (i := 10) (oi := ⟨_, _, _, _, _, _⟩) (v := ?_) rfl (by kernel_rfl) (by kernel_rfl) (by kernel_rfl) (fun _ _ _ h => h) (Or.inl ⟨by rfl, ?_⟩) (by assumption) ?_
            rotate_left
            · intro w hSw
              go_simp
              all_goals with_reducible rfl
            simp only [Act.put, List.setIfInBounds_toArray, List.set_cons_zero, List.set_cons_succ]
            refine wpAnyH_take (i := 11) (oi := ⟨_, _, _, _, _, _⟩) (v := ?_) rfl (by kernel_rfl) (by kernel_rfl) (by kernel_rfl) (fun _ _ _ h => h) (Or.inl ⟨by rfl, ?_⟩) (by assumption) ?_
            rotate_left
            · intro w hSw
              go_simp
              all_goals with_reducible rfl
            simp only [Act.put, List.setIfInBounds_toArray, List.set_cons_zero, List.set_cons_succ]
            refine wpAnyH_done (by kernel_rfl) ?_ _
            clear hHeld
            go_wp2_with fail
            go_roundw
            case rel => exact ⟨k + 1, by omega, by go_num, HEND⟩
            case measure => simp [intOf]; omega
        · have hkn : k = bs.length := by omega
          have hmidE : MidAt n0 mb w wr #[.int .i64 q0, .int .i64 q1, .int .i64 q2, .int .i64 q3, .int .i64 q4, .int .i64 q5, .int .i64 x6, .int .i64 x7, .int .i64 x8, .int .i64 x9, .int .i64 x10, .int .i64 x11] #[.int .i64 0, .int .i64 0, .int .i64 0, .int .i64 0, .int .i64 0, .int .i64 0, .int .i64 0, .int .i64 0, .int .i64 0, .int .i64 0, .int .i64 0, .int .i64 0] (setC ⟨q0, q1, q2, q3, q4, q5⟩ ⟨0, 0, 0, 0, 0, 0, [], [], bs⟩ (.slice none 0 0) (.slice none 0 0) (.slice Ao no co) (.map (some mb))) (.slice Ao no co) bs bs := by rw [hkn, List.take_length] at hmid; exact hmid
          clear hmid HR
          have e2 : wr.cell? ⟨n0, 2, none⟩ = some (.int .i64 q2) := hmidE.r4.cell 2
          have e3 : wr.cell? ⟨n0, 3, none⟩ = some (.int .i64 q3) := hmidE.r4.cell 3
          have e4 : wr.cell? ⟨n0, 4, none⟩ = some (.int .i64 q4) := hmidE.r4.cell 4
          have e5 : wr.cell? ⟨n0, 5, none⟩ = some (.int .i64 q5) := hmidE.r4.cell 5
          have el : wr.cell? ⟨mb + 1, 12, none⟩ = some (.int .i64 0) := hmidE.rn.cell 12
          have fl : wr.frozen? ⟨mb + 1, 12, none⟩ = false := hmidE.rn.free 12
          have HME := Lib.hid hmidE
          clear hmidE hkn
          go_wp2_with fail
          obtain ⟨W6, hW6⟩ : ∃ z, wr.setCell ⟨mb + 1, 12, none⟩ (.int .i64 s3) = z := ⟨_, rfl⟩
          have hot : ∀ j, j ≠ mb + 1 → W6.heap[j]? = wr.heap[j]? := fun j hj => by rw [← hW6]; exact Below.heap_setCell _ _ _ _ hj
          have hset6 : SetAt (n0 + 2) W6 (mb + 1) mb ⟨q0, q1, q2, q3, q4, q5⟩ ⟨s3, 0, 0, 0, 0, 0, [], [], bs⟩ (.slice none 0 0) (.slice none 0 0) (.slice Ao no co) :=
            ⟨by omega, by rw [← hW6]; exact HME.out.rn.set 12 (.int .i64 s3), OwnI.nil _ _ _ _, OwnI.nil _ _ _ _, HME.out.bal.kept fun g hg => hot g (HME.out.bal.ne_row (by decide) HME.out.rn g hg), HME.out.map.kept (hot mb (by omega))⟩
          have bw6 : Below n0 w W6 := by rw [← hW6]; exact HME.out.bw.setCell (p := ⟨mb + 1, 12, none⟩) (show n0 ≤ mb + 1 by omega) _
          have r46 : RowAt W6 n0 24 #[.int .i64 q0, .int .i64 q1, .int .i64 q2, .int .i64 q3, .int .i64 q4, .int .i64 q5, .int .i64 x6, .int .i64 x7, .int .i64 x8, .int .i64 x9, .int .i64 x10, .int .i64 x11] := (hot n0 (by omega)).trans HME.out.r4
          have r66 : RowAt W6 (n0 + 1) 24 #[.int .i64 0, .int .i64 0, .int .i64 0, .int .i64 0, .int .i64 0, .int .i64 0, .int .i64 0, .int .i64 0, .int .i64 0, .int .i64 0, .int .i64 0, .int .i64 0] := (hot _ (by omega)).trans HME.out.r6
          have HST : Hid (startS ⟨q0, q1, q2, q3, q4, q5⟩ bs = ⟨s3, 0, 0, 0, 0, 0, [], [], bs⟩) := Lib.hid (by unfold startS RowV.sum; dsimp only; rw [SUM.out])
          have HGS : Hid (GoodS s3 (startS ⟨q0, q1, q2, q3, q4, q5⟩ bs)) := Lib.hid (by have := good_start OP.out bs; unfold RowV.sum at this; dsimp only at this; rw [SUM.out] at this; exact this)
          rw [hW6]
          clear hW6 hot HME e2 e3 e4 e5 el fl
          refine (effects_any W6).mono ?_
          rintro e w7 ⟨rfl, heff, hb7⟩
          obtain ⟨eb, heb⟩ : ∃ z, W6.heap.size = z := ⟨_, rfl⟩
          rw [heb] at heff ⊢
          have RUN0 := Lib.hid (show RunAt s3 n0 mb eb w w7 #[.int .i64 q0, .int .i64 q1, .int .i64 q2, .int .i64 q3, .int .i64 q4, .int .i64 q5, .int .i64 x6, .int .i64 x7, .int .i64 x8, .int .i64 x9, .int .i64 x10, .int .i64 x11] #[.int .i64 0, .int .i64 0, .int .i64 0, .int .i64 0, .int .i64 0, .int .i64 0, .int .i64 0, .int .i64 0, .int .i64 0, .int .i64 0, .int .i64 0, .int .i64 0] ⟨q0, q1, q2, q3, q4, q5⟩ (startS ⟨q0, q1, q2, q3, q4, q5⟩ bs) (.slice Ao no co) 0 from
            ⟨r46.below hb7 r46.lt, r66.below hb7 r66.lt, ⟨_, _, by rw [HST.out]; exact hset6.below hb7⟩, HGS.out, by simp [startS], by simp [startS], by simpa [startS] using HBB.out, heff, bw6.trans (hb7.mono (Nat.le_of_lt r46.lt))⟩)
          clear r46 r66 hset6 heff bw6 hb7 heb
          go_wp2_with fail
          go_loopw [121] (fun iv wr => ∃ k : Nat, k ≤ m ∧ iv = .int .i64 k ∧ Hid (RunAt s3 n0 mb eb w wr #[.int .i64 q0, .int .i64 q1, .int .i64 q2, .int .i64 q3, .int .i64 q4, .int .i64 q5, .int .i64 x6, .int .i64 x7, .int .i64 x8, .int .i64 x9, .int .i64 x10, .int .i64 x11] #[.int .i64 0, .int .i64 0, .int .i64 0, .int .i64 0, .int .i64 0, .int .i64 0, .int .i64 0, .int .i64 0, .int .i64 0, .int .i64 0, .int .i64 0, .int .i64 0] ⟨q0, q1, q2, q3, q4, q5⟩ ((l.take k).foldl (stepT q0 q1) (startS ⟨q0, q1, q2, q3, q4, q5⟩ bs)) (.slice Ao no co) k)) (fun i _ => m - (intOf i).toNat)
          case atStart => exact ⟨0, by omega, rfl, RUN0⟩
          case round =>
            obtain ⟨k, hk, rfl, HR⟩ := hrel
            obtain ⟨Z, hZ⟩ : ∃ z, (l.take k).foldl (stepT q0 q1) (startS ⟨q0, q1, q2, q3, q4, q5⟩ bs) = z := ⟨_, rfl⟩
            have hr := HR.out
            rw [hZ] at hr
            clear HR
            by_cases hk2 : k < m
            · obtain ⟨t, ht⟩ : ∃ t, l[k]? = some t := ⟨_, List.getElem?_eq_getElem (by rw [HM.out]; exact hk2)⟩
              have hst : (l.take (k + 1)).foldl (stepT q0 q1) (startS ⟨q0, q1, q2, q3, q4, q5⟩ bs) = stepT q0 q1 Z t := by
                rw [List.take_add_one, ht, List.foldl_append, hZ]
                rfl
              have hbn : Below w.heap.size w wr := by rw [HN0.out]; exact hr.bw
              obtain ⟨b, o, hA, va, hva, hcells⟩ : ∃ b o, AT = some ⟨b, o, none⟩ ∧ ∃ va, IntsL w va t.acc ∧ ∀ (j : Nat) x, (termC t va)[j]? = some x → wr.cell? ⟨b, o + k * 5 + j, none⟩ = some x := by
                rcases HT.out with ⟨hnil, _⟩ | ⟨b, o, c, he, hlt, hc⟩
                · rw [hnil] at ht; simp at ht
                · simp only [Value.slice.injEq] at he
                  obtain ⟨va, h1, h2⟩ := hc k t ht
                  exact ⟨b, o, he.1, va, h1, fun j x hx => (hbn.cell (p := ⟨b, o + k * 5 + j, none⟩) hlt).trans (h2 j x hx)⟩
              subst hA
              have hto := HOK.out t (List.mem_of_getElem? ht)
              have VC := Lib.hid (fun W (h : Below w.heap.size w W) => validC_any t va W hto.2.2 (hva.below h) hto.2.1)
              have HLD := Lib.hid hcells
              have HVA := Lib.hid hva
              have HOC := Lib.hid (termC_one t hva)
              have HTO := Lib.hid hto
              have HRUN := Lib.hid hr
              have HSTE := Lib.hid hst
              have hw8 : Below w.heap.size w (wr.alloc (.cells (termC t va) 52)) := hbn.alloc hbn.size _
              have HW8 := Lib.hid hw8
              obtain ⟨vv, hvv⟩ : ∃ z, validT t = z := ⟨_, rfl⟩
              rw [hvv] at VC
              clear hr ht hst hZ hbn hva hcells hto hw8
              cases vv
              · have HEQ : Hid (stepT q0 q1 Z t = Z) := Lib.hid (by unfold stepT; rw [hvv]; rfl)
                clear hvv
                go_wp2_with (first | ((with_reducible refine load_term (o := ⟨some 124, _, _, _, _, _⟩) (.tmp 123) b (o + k * 5) t va HLD.out ?_ ?_ ?_ ?_); rfl; rfl; rfl) | ((with_reducible refine store_term (o := ⟨none, .store _ _ _, _, _, _, _⟩) (.tmp 17) (.tmp 124) t va _ HOC.out ?_ ?_ ?_ ?_ ?_ ?_); rfl; rfl; rfl; rfl; rfl) | ((with_reducible refine load_term (o := ⟨some 125, _, _, _, _, _⟩) (.tmp 17) wr.heap.size 0 t va (row_cells (heap_alloc_last wr _)) ?_ ?_ ?_ ?_); rfl; rfl; rfl))
                refine (VC.out _ HW8.out).mono ?_
                rintro e w9 ⟨rfl, hb9⟩
                have HEND := Lib.hid (HRUN.out.below (((Below.refl wr.heap.size wr).alloc (Nat.le_refl _) (.cells (termC t va) 52)).trans (hb9.mono (by simp))))
                clear hb9
                go_wp2_with fail
                go_roundw
                case rel => exact ⟨k + 1, by omega, by go_num, Lib.hid (by rw [HSTE.out, HEQ.out]; exact HEND.out.more)⟩
                case measure => simp [intOf]; omega
              · have HVV := Lib.hid hvv
                rcases validT_kinds hvv with hkk | hkk | hkk | hkk | hkk
                · have hv := validT_1 hvv hkk
                  have HV1 := Lib.hid (And.intro hv.1 hv.2.2.2)
                  have HEQ : Hid (stepT q0 q1 Z t = passStep Z t) := Lib.hid (by unfold stepT; rw [if_pos HVV.out]; unfold doTerm; rw [if_pos hkk])
                  have hc0 : (termC t va)[0]? = some (.int .i64 1) := by rw [← hkk]; rfl
                  clear hvv
                  go_wp2_with (first | ((with_reducible refine load_term (o := ⟨some 124, _, _, _, _, _⟩) (.tmp 123) b (o + k * 5) t va HLD.out ?_ ?_ ?_ ?_); rfl; rfl; rfl) | ((with_reducible refine store_term (o := ⟨none, .store _ _ _, _, _, _, _⟩) (.tmp 17) (.tmp 124) t va _ HOC.out ?_ ?_ ?_ ?_ ?_ ?_); rfl; rfl; rfl; rfl; rfl) | ((with_reducible refine load_term (o := ⟨some 125, _, _, _, _, _⟩) (.tmp 17) wr.heap.size 0 t va (row_cells (heap_alloc_last wr _)) ?_ ?_ ?_ ?_); rfl; rfl; rfl))
                  refine (VC.out _ HW8.out).mono ?_
                  rintro e w9 ⟨rfl, hb9⟩
                  have hb89 : Below wr.heap.size wr w9 := ((Below.refl wr.heap.size wr).alloc (Nat.le_refl _) (.cells (termC t va) 52)).trans (hb9.mono (by simp))
                  have HRUN9 := Lib.hid (HRUN.out.below hb89)
                  have HB09 := Lib.hid (HW8.out.trans (hb9.mono HW8.out.size))
                  have hrt9 : RowAt w9 wr.heap.size 52 (termC t va) := (RowAt.new wr _ _).below hb9 (by simp)
                  have HRT9 := Lib.hid (show w9.heap[wr.heap.size]? = some (.cells (termC t va) 52 (0, 0)) from hrt9)
                  have c90 : w9.cell? ⟨wr.heap.size, 0, none⟩ = some (.int .i64 1) := by rw [hrt9.cell 0]; exact hc0
                  have hlk : (Instr.lookup 62 (.map (some eb)) (.int .i64 1) false).run Try.prog w9 = .ok (.func (.func 40) #[] #[]) w9 := eff_look HRUN9.out.eff 1 40 (by simp)
                  obtain ⟨vp, vr, hset⟩ := HRUN9.out.st
                  have HSET := Lib.hid hset
                  have C := Lib.hid (pass_any (n0 + 2) (mb + 1) mb ⟨q0, q1, q2, q3, q4, q5⟩ Z vp vr (.slice Ao no co) t va w9 HSET.out HRUN9.out.good HM3.out hv.1 hv.2.2.2 (by have := HRUN9.out.pl; omega))
                  clear hb9 hb89 hrt9 hset hc0 hv
                  go_wp2_with (first | ((with_reducible refine load_term (o := ⟨some 132, _, _, _, _, _⟩) (.tmp 17) wr.heap.size 0 t va (row_cells HRT9.out) ?_ ?_ ?_ ?_); rfl; rfl; rfl))
                  refine C.out.mono ?_
                  rintro e w10 ⟨rfl, ⟨vp2, hs2⟩, htn⟩
                  have HEND := Lib.hid (HRUN9.out.step htn (S' := passStep Z t) ⟨vp2, vr, hs2⟩ (HRUN9.out.good.pass HV1.out.1 (inR_iff.1 HV1.out.2).1) (by have := HRUN9.out.pl; unfold passStep; dsimp only; rw [List.length_append]; split <;> simp <;> omega) (Nat.le_succ_of_le HRUN9.out.rl) HRUN9.out.bok)
                  clear hs2 htn
                  go_wp2_with fail
                  go_roundw
                  case rel => exact ⟨k + 1, by omega, by go_num, Lib.hid (by rw [HSTE.out, HEQ.out]; exact HEND.out)⟩
                  case measure => simp [intOf]; omega
                · have hv := validT_2 hvv hkk
                  have HV1 := Lib.hid hv.1
                  have HEQ : Hid (stepT q0 q1 Z t = taxStep Z t) := Lib.hid (by unfold stepT; rw [if_pos HVV.out]; unfold doTerm; rw [if_neg (by omega)]; rw [if_pos hkk])
                  have hc0 : (termC t va)[0]? = some (.int .i64 2) := by rw [← hkk]; rfl
                  clear hvv
                  go_wp2_with (first | ((with_reducible refine load_term (o := ⟨some 124, _, _, _, _, _⟩) (.tmp 123) b (o + k * 5) t va HLD.out ?_ ?_ ?_ ?_); rfl; rfl; rfl) | ((with_reducible refine store_term (o := ⟨none, .store _ _ _, _, _, _, _⟩) (.tmp 17) (.tmp 124) t va _ HOC.out ?_ ?_ ?_ ?_ ?_ ?_); rfl; rfl; rfl; rfl; rfl) | ((with_reducible refine load_term (o := ⟨some 125, _, _, _, _, _⟩) (.tmp 17) wr.heap.size 0 t va (row_cells (heap_alloc_last wr _)) ?_ ?_ ?_ ?_); rfl; rfl; rfl))
                  refine (VC.out _ HW8.out).mono ?_
                  rintro e w9 ⟨rfl, hb9⟩
                  have hb89 : Below wr.heap.size wr w9 := ((Below.refl wr.heap.size wr).alloc (Nat.le_refl _) (.cells (termC t va) 52)).trans (hb9.mono (by simp))
                  have HRUN9 := Lib.hid (HRUN.out.below hb89)
                  have HB09 := Lib.hid (HW8.out.trans (hb9.mono HW8.out.size))
                  have hrt9 : RowAt w9 wr.heap.size 52 (termC t va) := (RowAt.new wr _ _).below hb9 (by simp)
                  have HRT9 := Lib.hid (show w9.heap[wr.heap.size]? = some (.cells (termC t va) 52 (0, 0)) from hrt9)
                  have c90 : w9.cell? ⟨wr.heap.size, 0, none⟩ = some (.int .i64 2) := by rw [hrt9.cell 0]; exact hc0
                  have hlk : (Instr.lookup 62 (.map (some eb)) (.int .i64 2) false).run Try.prog w9 = .ok (.func (.func 41) #[] #[]) w9 := eff_look HRUN9.out.eff 2 41 (by simp)
                  obtain ⟨vp, vr, hset⟩ := HRUN9.out.st
                  have HSET := Lib.hid hset
                  have C := Lib.hid (tax_any (n0 + 2) (mb + 1) mb ⟨q0, q1, q2, q3, q4, q5⟩ Z vp vr (.slice Ao no co) t va w9 HSET.out HRUN9.out.good HM3.out hv.1)
                  clear hb9 hb89 hrt9 hset hc0 hv
                  go_wp2_with (first | ((with_reducible refine load_term (o := ⟨some 132, _, _, _, _, _⟩) (.tmp 17) wr.heap.size 0 t va (row_cells HRT9.out) ?_ ?_ ?_ ?_); rfl; rfl; rfl))
                  refine C.out.mono ?_
                  rintro e w10 ⟨rfl, hs2, htn⟩
                  have HEND := Lib.hid (HRUN9.out.step htn (S' := taxStep Z t) ⟨vp, vr, hs2⟩ (HRUN9.out.good.tax HV1.out) (Nat.le_succ_of_le HRUN9.out.pl) (Nat.le_succ_of_le HRUN9.out.rl) HRUN9.out.bok)
                  clear hs2 htn
                  go_wp2_with fail
                  go_roundw
                  case rel => exact ⟨k + 1, by omega, by go_num, Lib.hid (by rw [HSTE.out, HEQ.out]; exact HEND.out)⟩
                  case measure => simp [intOf]; omega
                · have hv := validT_3 hvv hkk
                  have HV1 := Lib.hid hv.1
                  have HEQ : Hid (stepT q0 q1 Z t = resStep q0 q1 Z t) := Lib.hid (by unfold stepT; rw [if_pos HVV.out]; unfold doTerm; rw [if_neg (by omega)]; rw [if_neg (by omega)]; rw [if_pos hkk])
                  have hc0 : (termC t va)[0]? = some (.int .i64 3) := by rw [← hkk]; rfl
                  clear hvv
                  go_wp2_with (first | ((with_reducible refine load_term (o := ⟨some 124, _, _, _, _, _⟩) (.tmp 123) b (o + k * 5) t va HLD.out ?_ ?_ ?_ ?_); rfl; rfl; rfl) | ((with_reducible refine store_term (o := ⟨none, .store _ _ _, _, _, _, _⟩) (.tmp 17) (.tmp 124) t va _ HOC.out ?_ ?_ ?_ ?_ ?_ ?_); rfl; rfl; rfl; rfl; rfl) | ((with_reducible refine load_term (o := ⟨some 125, _, _, _, _, _⟩) (.tmp 17) wr.heap.size 0 t va (row_cells (heap_alloc_last wr _)) ?_ ?_ ?_ ?_); rfl; rfl; rfl))
                  refine (VC.out _ HW8.out).mono ?_
                  rintro e w9 ⟨rfl, hb9⟩
                  have hb89 : Below wr.heap.size wr w9 := ((Below.refl wr.heap.size wr).alloc (Nat.le_refl _) (.cells (termC t va) 52)).trans (hb9.mono (by simp))
                  have HRUN9 := Lib.hid (HRUN.out.below hb89)
                  have HB09 := Lib.hid (HW8.out.trans (hb9.mono HW8.out.size))
                  have hrt9 : RowAt w9 wr.heap.size 52 (termC t va) := (RowAt.new wr _ _).below hb9 (by simp)
                  have HRT9 := Lib.hid (show w9.heap[wr.heap.size]? = some (.cells (termC t va) 52 (0, 0)) from hrt9)
                  have c90 : w9.cell? ⟨wr.heap.size, 0, none⟩ = some (.int .i64 3) := by rw [hrt9.cell 0]; exact hc0
                  have hlk : (Instr.lookup 62 (.map (some eb)) (.int .i64 3) false).run Try.prog w9 = .ok (.func (.func 42) #[] #[]) w9 := eff_look HRUN9.out.eff 3 42 (by simp)
                  obtain ⟨vp, vr, hset⟩ := HRUN9.out.st
                  have HSET := Lib.hid hset
                  have C := Lib.hid (res_any (n0 + 2) (mb + 1) mb ⟨q0, q1, q2, q3, q4, q5⟩ Z vp vr (.slice Ao no co) t va w9 HSET.out HRUN9.out.good HM3.out hv.1 hv.2.2.1 HP100.out (by have := HRUN9.out.rl; omega))
                  clear hb9 hb89 hrt9 hset hc0 hv
                  go_wp2_with (first | ((with_reducible refine load_term (o := ⟨some 132, _, _, _, _, _⟩) (.tmp 17) wr.heap.size 0 t va (row_cells HRT9.out) ?_ ?_ ?_ ?_); rfl; rfl; rfl))
                  refine C.out.mono ?_
                  rintro e w10 ⟨rfl, ⟨vr2, hs2⟩, htn⟩
                  have HEND := Lib.hid (HRUN9.out.step htn (S' := resStep q0 q1 Z t) ⟨vp, vr2, hs2⟩ (HRUN9.out.good.res HV1.out) (Nat.le_succ_of_le HRUN9.out.pl) (by have := HRUN9.out.rl; unfold resStep; dsimp only; rw [List.length_append]; split <;> simp <;> omega) HRUN9.out.bok)
                  clear hs2 htn
                  go_wp2_with fail
                  go_roundw
                  case rel => exact ⟨k + 1, by omega, by go_num, Lib.hid (by rw [HSTE.out, HEQ.out]; exact HEND.out)⟩
                  case measure => simp [intOf]; omega
                · have hv := validT_4 hvv hkk
                  have HV1 := Lib.hid hv.1
                  have HEQ : Hid (stepT q0 q1 Z t = capStep Z t) := Lib.hid (by unfold stepT; rw [if_pos HVV.out]; unfold doTerm; rw [if_neg (by omega)]; rw [if_neg (by omega)]; rw [if_neg (by omega)]; rw [if_pos hkk])
                  have hc0 : (termC t va)[0]? = some (.int .i64 4) := by rw [← hkk]; rfl
                  clear hvv
                  go_wp2_with (first | ((with_reducible refine load_term (o := ⟨some 124, _, _, _, _, _⟩) (.tmp 123) b (o + k * 5) t va HLD.out ?_ ?_ ?_ ?_); rfl; rfl; rfl) | ((with_reducible refine store_term (o := ⟨none, .store _ _ _, _, _, _, _⟩) (.tmp 17) (.tmp 124) t va _ HOC.out ?_ ?_ ?_ ?_ ?_ ?_); rfl; rfl; rfl; rfl; rfl) | ((with_reducible refine load_term (o := ⟨some 125, _, _, _, _, _⟩) (.tmp 17) wr.heap.size 0 t va (row_cells (heap_alloc_last wr _)) ?_ ?_ ?_ ?_); rfl; rfl; rfl))
                  refine (VC.out _ HW8.out).mono ?_
                  rintro e w9 ⟨rfl, hb9⟩
                  have hb89 : Below wr.heap.size wr w9 := ((Below.refl wr.heap.size wr).alloc (Nat.le_refl _) (.cells (termC t va) 52)).trans (hb9.mono (by simp))
                  have HRUN9 := Lib.hid (HRUN.out.below hb89)
                  have HB09 := Lib.hid (HW8.out.trans (hb9.mono HW8.out.size))
                  have hrt9 : RowAt w9 wr.heap.size 52 (termC t va) := (RowAt.new wr _ _).below hb9 (by simp)
                  have HRT9 := Lib.hid (show w9.heap[wr.heap.size]? = some (.cells (termC t va) 52 (0, 0)) from hrt9)
                  have c90 : w9.cell? ⟨wr.heap.size, 0, none⟩ = some (.int .i64 4) := by rw [hrt9.cell 0]; exact hc0
                  have hlk : (Instr.lookup 62 (.map (some eb)) (.int .i64 4) false).run Try.prog w9 = .ok (.func (.func 43) #[] #[]) w9 := eff_look HRUN9.out.eff 4 43 (by simp)
                  obtain ⟨vp, vr, hset⟩ := HRUN9.out.st
                  have HSET := Lib.hid hset
                  have C := Lib.hid (cap_any (n0 + 2) (mb + 1) mb ⟨q0, q1, q2, q3, q4, q5⟩ Z vp vr (.slice Ao no co) t va w9 HSET.out HRUN9.out.good HM3.out hv.1)
                  clear hb9 hb89 hrt9 hset hc0 hv
                  go_wp2_with (first | ((with_reducible refine load_term (o := ⟨some 132, _, _, _, _, _⟩) (.tmp 17) wr.heap.size 0 t va (row_cells HRT9.out) ?_ ?_ ?_ ?_); rfl; rfl; rfl))
                  refine C.out.mono ?_
                  rintro e w10 ⟨rfl, hs2, htn⟩
                  have HEND := Lib.hid (HRUN9.out.step htn (S' := capStep Z t) ⟨vp, vr, hs2⟩ (HRUN9.out.good.cap (inR_iff.1 HV1.out).1) (Nat.le_succ_of_le HRUN9.out.pl) (Nat.le_succ_of_le HRUN9.out.rl) HRUN9.out.bok)
                  clear hs2 htn
                  go_wp2_with fail
                  go_roundw
                  case rel => exact ⟨k + 1, by omega, by go_num, Lib.hid (by rw [HSTE.out, HEQ.out]; exact HEND.out)⟩
                  case measure => simp [intOf]; omega
                · have hv := validT_5 hvv hkk
                  have HEQ : Hid (stepT q0 q1 Z t = t.acc.foldl recStep Z) := Lib.hid (by unfold stepT; rw [if_pos HVV.out]; unfold doTerm; rw [if_neg (by omega)]; rw [if_neg (by omega)]; rw [if_neg (by omega)]; rw [if_neg (by omega)])
                  have hc0 : (termC t va)[0]? = some (.int .i64 5) := by rw [← hkk]; rfl
                  clear hvv
                  go_wp2_with (first | ((with_reducible refine load_term (o := ⟨some 124, _, _, _, _, _⟩) (.tmp 123) b (o + k * 5) t va HLD.out ?_ ?_ ?_ ?_); rfl; rfl; rfl) | ((with_reducible refine store_term (o := ⟨none, .store _ _ _, _, _, _, _⟩) (.tmp 17) (.tmp 124) t va _ HOC.out ?_ ?_ ?_ ?_ ?_ ?_); rfl; rfl; rfl; rfl; rfl) | ((with_reducible refine load_term (o := ⟨some 125, _, _, _, _, _⟩) (.tmp 17) wr.heap.size 0 t va (row_cells (heap_alloc_last wr _)) ?_ ?_ ?_ ?_); rfl; rfl; rfl))
                  refine (VC.out _ HW8.out).mono ?_
                  rintro e w9 ⟨rfl, hb9⟩
                  have hb89 : Below wr.heap.size wr w9 := ((Below.refl wr.heap.size wr).alloc (Nat.le_refl _) (.cells (termC t va) 52)).trans (hb9.mono (by simp))
                  have HRUN9 := Lib.hid (HRUN.out.below hb89)
                  have HB09 := Lib.hid (HW8.out.trans (hb9.mono HW8.out.size))
                  have hrt9 : RowAt w9 wr.heap.size 52 (termC t va) := (RowAt.new wr _ _).below hb9 (by simp)
                  have HRT9 := Lib.hid (show w9.heap[wr.heap.size]? = some (.cells (termC t va) 52 (0, 0)) from hrt9)
                  have c90 : w9.cell? ⟨wr.heap.size, 0, none⟩ = some (.int .i64 5) := by rw [hrt9.cell 0]; exact hc0
                  have hlk : (Instr.lookup 62 (.map (some eb)) (.int .i64 5) false).run Try.prog w9 = .ok (.func (.func 44) #[] #[]) w9 := eff_look HRUN9.out.eff 5 44 (by simp)
                  obtain ⟨vp, vr, hset⟩ := HRUN9.out.st
                  have HSET := Lib.hid hset
                  have C := Lib.hid (recoup_any (n0 + 2) (mb + 1) mb ⟨q0, q1, q2, q3, q4, q5⟩ Z vp vr (.slice Ao no co) t va w9 w HSET.out HRUN9.out.good HM3.out (by rw [HN0.out]; omega) HB09.out HVA.out HTO.out.2.2 HTO.out.2.1 HRUN9.out.bok)
                  clear hb9 hb89 hrt9 hset hc0 hv
                  go_wp2_with (first | ((with_reducible refine load_term (o := ⟨some 132, _, _, _, _, _⟩) (.tmp 17) wr.heap.size 0 t va (row_cells HRT9.out) ?_ ?_ ?_ ?_); rfl; rfl; rfl))
                  refine C.out.mono ?_
                  rintro e w10 ⟨rfl, hs2, _, hbok2, htn⟩
                  have HEND := Lib.hid (HRUN9.out.step htn (S' := t.acc.foldl recStep Z) ⟨vp, vr, hs2⟩ (GoodS.recAll _ HRUN9.out.good) (by rw [(recAll_lists t.acc Z).1]; exact Nat.le_succ_of_le HRUN9.out.pl) (by rw [(recAll_lists t.acc Z).2]; exact Nat.le_succ_of_le HRUN9.out.rl) hbok2)
                  clear hs2 htn
                  go_wp2_with fail
                  go_roundw
                  case rel => exact ⟨k + 1, by omega, by go_num, Lib.hid (by rw [HSTE.out, HEQ.out]; exact HEND.out)⟩
                  case measure => simp [intOf]; omega
            · have hkm : k = m := by omega
              rw [hkm, ← HM.out, List.take_length] at hZ
              have hrE := hr
              have HSP : Hid (settleSpec l ⟨q0, q1, q2, q3, q4, q5⟩ bs = ⟨Z.pa, Z.ta, Z.re, Z.ro, paidOf Z, carriedOf Z, Z.ps, Z.rs, Z.bs⟩) := Lib.hid (by
                unfold settleSpec
                rw [if_pos OP.out]
                dsimp only
                unfold runS
                dsimp only
                rw [hZ])
              obtain ⟨vp, vr, hset⟩ := hr.st
              have HRE := Lib.hid hrE
              have HSE := Lib.hid hset
              obtain ⟨lf, hlf⟩ : ∃ z, Z.left = z := ⟨_, rfl⟩
              obtain ⟨ca, hca⟩ : ∃ z, Z.ca = z := ⟨_, rfl⟩
              have g1 := hr.good.l0
              have g2 := hr.good.p0
              have g3 := hr.good.t0
              have g4 := hr.good.r0
              have g5 := hr.good.o0
              have g6 := hr.good.c0
              have g7 := hr.good.sum
              have g8 := HM3.out
              rw [hlf] at g1 g7
              rw [hca] at g6 g7
              have CT := Lib.hid (fun W => cents_any lf (by omega) (by omega) W)
              obtain ⟨pd, hpd⟩ : ∃ z, lf - lf % 10000 = z := ⟨_, rfl⟩
              obtain ⟨rs, hrs⟩ : ∃ z, lf % 10000 = z := ⟨_, rfl⟩
              have hrb : 0 ≤ rs ∧ rs ≤ lf := by omega
              rw [hpd, hrs] at CT
              obtain ⟨cr, hcr⟩ : ∃ z, ca + rs = z := ⟨_, rfl⟩
              have wcr : IntKind.i64.wrap (ca + rs) = cr := by rw [hcr]; exact IntWalk.i64_in _ (by omega)
              have HPD : Hid (paidOf Z = pd) := Lib.hid (by unfold paidOf; rw [hlf, hpd])
              have HCR : Hid (carriedOf Z = cr) := Lib.hid (by unfold carriedOf; rw [hlf, hca, hrs, hcr])
              have e12 : wr.cell? ⟨mb + 1, 12, none⟩ = some (.int .i64 lf) := by rw [← hlf]; exact hset.row.cell 12
              have e10 : wr.cell? ⟨mb + 1, 10, none⟩ = some (.int .i64 0) := hset.row.cell 10
              have f10 : wr.frozen? ⟨mb + 1, 10, none⟩ = false := hset.row.free 10
              have hr10 := hset.row.set 10 (.int .i64 pd)
              have e11 : (wr.setCell ⟨mb + 1, 10, none⟩ (.int .i64 pd)).cell? ⟨mb + 1, 11, none⟩ = some (.int .i64 ca) := by rw [← hca]; exact hr10.cell 11
              have f11 : (wr.setCell ⟨mb + 1, 10, none⟩ (.int .i64 pd)).frozen? ⟨mb + 1, 11, none⟩ = false := hr10.free 11
              clear hr hset hrE hZ hkm g1 g2 g3 g4 g5 g6 g7 g8 hlf hca hpd hrs hcr hrb hr10
              go_wp2_with fail
              refine (CT.out _).mono ?_
              rintro e w' ⟨rfl, rfl⟩
              go_wp2_with fail
              obtain ⟨W7, hW7⟩ : ∃ z, (wr.setCell ⟨mb + 1, 10, none⟩ (.int .i64 pd)).setCell ⟨mb + 1, 11, none⟩ (.int .i64 cr) = z := ⟨_, rfl⟩
              have hot7 : ∀ g, g ≠ mb + 1 → W7.heap[g]? = wr.heap[g]? := fun g hg => by
                rw [← hW7]
                exact (Below.heap_setCell _ ⟨mb + 1, 11, none⟩ _ g hg).trans (Below.heap_setCell _ ⟨mb + 1, 10, none⟩ _ g hg)
              have rn7 : RowAt W7 (mb + 1) 59 #[.int .i64 q0, .int .i64 q1, .int .i64 q2, .int .i64 q3, .int .i64 q4, .int .i64 q5, .int .i64 Z.pa, .int .i64 Z.ta, .int .i64 Z.re, .int .i64 Z.ro, .int .i64 pd, .int .i64 cr, .int .i64 Z.left, vp, vr, .slice Ao no co, .map (some mb)] := by
                rw [← hW7]
                exact (HSE.out.row.set 10 (.int .i64 pd)).set 11 (.int .i64 cr)
              have r67 : RowAt W7 (n0 + 1) 24 #[.int .i64 0, .int .i64 0, .int .i64 0, .int .i64 0, .int .i64 0, .int .i64 0, .int .i64 0, .int .i64 0, .int .i64 0, .int .i64 0, .int .i64 0, .int .i64 0] := (hot7 _ (by omega)).trans HRE.out.r6
              have bw7 : Below n0 w W7 := by
                rw [← hW7]
                exact (HRE.out.bw.setCell (p := ⟨mb + 1, 10, none⟩) (show n0 ≤ mb + 1 by omega) _).setCell (p := ⟨mb + 1, 11, none⟩) (show n0 ≤ mb + 1 by omega) _
              rw [hW7]
              clear hW7 e12 e10 f10 e11 f11 CT wcr
              have HR6 := Lib.hid r67
              have HOT := Lib.hid hot7
              have HBW7 := Lib.hid bw7
              clear r67 hot7 bw7
              refine wp_region_held_drew (S := fun W' => RowAt W' (mb + 1) 59 #[.int .i64 q0, .int .i64 q1, .int .i64 q2, .int .i64 q3, .int .i64 q4, .int .i64 q5, .int .i64 Z.pa, .int .i64 Z.ta, .int .i64 Z.re, .int .i64 Z.ro, .int .i64 pd, .int .i64 cr, .int .i64 Z.left, vp, vr, .slice Ao no co, .map (some mb)]) (by kernel_rfl) rn7.drew (fun hHeld => ?_)
              refine wpAnyH_take (i := 0) (oi := ⟨_, _, _, _, _, _⟩) (v := ?_) rfl (by kernel_rfl) (by kernel_rfl) (by kernel_rfl) (fun _ _ _ h => h) (Or.inl ⟨by rfl, ?_⟩) (by assumption) ?_
              rotate_left
              · intro w hSw
                go_simp
                all_goals with_reducible rfl
              simp only [Act.put, List.setIfInBounds_toArray, List.set_cons_zero, List.set_cons_succ]
              refine wpAnyH_take (i := 1) (oi := ⟨_, _, _, _, _, _⟩) (v := ?_) rfl (by kernel_rfl) (by kernel_rfl) (by kernel_rfl) (fun _ _ _ h => h) (Or.inl ⟨by rfl, ?_⟩) (by assumption) ?_
              rotate_left
              · intro w hSw
                go_simp
                all_goals with_reducible rfl
              simp only [Act.put, List.setIfInBounds_toArray, List.set_cons_zero, List.set_cons_succ]
              refine wpAnyH_take (i := 2) (oi := ⟨_, _, _, _, _, _⟩) (v := ?_) rfl (by kernel_rfl) (by kernel_rfl) (by kernel_rfl) (fun _ _ _ h => h) (Or.inl ⟨by rfl, ?_⟩) (by assumption) ?_
              rotate_left
              · intro w hSw
                go_simp
                all_goals with_reducible rfl
              simp only [Act.put, List.setIfInBounds_toArray, List.set_cons_zero, List.set_cons_succ]
              refine wpAnyH_take (i := 3) (oi := ⟨_, _, _, _, _, _⟩) rfl (by kernel_rfl) (by kernel_rfl) (by kernel_rfl) (fun _ _ _ h => h) (yieldsIf_load_at 24 (.tmp 160) (mb + 1) 0 #[.int .i64 q0, .int .i64 q1, .int .i64 q2, .int .i64 q3, .int .i64 q4, .int .i64 q5, .int .i64 Z.pa, .int .i64 Z.ta, .int .i64 Z.re, .int .i64 Z.ro, .int .i64 pd, .int .i64 cr] _ (fun w hS j v hj => row12f hS j v hj) rfl (by rfl) rfl rfl rfl rfl) (by assumption) ?_
              simp only [Act.put, List.setIfInBounds_toArray, List.set_cons_zero, List.set_cons_succ]
              refine wpAnyH_take (i := 4) (oi := ⟨_, _, _, _, _, _⟩) (v := ?_) rfl (by kernel_rfl) (by kernel_rfl) (by kernel_rfl) (fun _ _ _ h => h) (Or.inl ⟨by rfl, ?_⟩) (by assumption) ?_
              rotate_left
              · intro w hSw
                go_simp
                all_goals with_reducible rfl
              simp only [Act.put, List.setIfInBounds_toArray, List.set_cons_zero, List.set_cons_succ]
              refine wpAnyH_take (i := 5) (oi := ⟨_, _, _, _, _, _⟩) (v := ?_) rfl (by kernel_rfl) (by kernel_rfl) (by kernel_rfl) (fun _ _ _ h => h) (Or.inl ⟨by rfl, ?_⟩) (by assumption) ?_
              rotate_left
              · intro w hSw
                go_simp
                all_goals with_reducible rfl
              simp only [Act.put, List.setIfInBounds_toArray, List.set_cons_zero, List.set_cons_succ]
              refine wpAnyH_take (i := 6) (oi := ⟨_, _, _, _, _, _⟩) (v := ?_) rfl (by kernel_rfl) (by kernel_rfl) (by kernel_rfl) (fun _ _ _ h => h) (Or.inl ⟨by rfl, ?_⟩) (by assumption) ?_
              rotate_left
              · intro w hSw
                go_simp
                all_goals with_reducible rfl
              simp only [Act.put, List.setIfInBounds_toArray, List.set_cons_zero, List.set_cons_succ]
              refine wpAnyH_take (i := 7) (oi := ⟨_, _, _, _, _, _⟩) (v := ?_) rfl (by kernel_rfl) (by kernel_rfl) (by kernel_rfl) (fun _ _ _ h => h) (Or.inl ⟨by rfl, ?_⟩) (by assumption) ?_
              rotate_left
              · intro w hSw
                have hcc : w.cell? ⟨mb + 1, 13, none⟩ = some vp := RowAt.cell hSw 13
                go_simp
                all_goals with_reducible rfl
              simp only [Act.put, List.setIfInBounds_toArray, List.set_cons_zero, List.set_cons_succ]
              refine wpAnyH_take (i := 8) (oi := ⟨_, _, _, _, _, _⟩) (v := ?_) rfl (by kernel_rfl) (by kernel_rfl) (by kernel_rfl) (fun _ _ _ h => h) (Or.inl ⟨by rfl, ?_⟩) (by assumption) ?_
              rotate_left
              · intro w hSw
                go_simp
                all_goals with_reducible rfl
              simp only [Act.put, List.setIfInBounds_toArray, List.set_cons_zero, List.set_cons_succ]
              refine wpAnyH_take (i := 9) (oi := ⟨_, _, _, _, _, _⟩) (v := ?_) rfl (by kernel_rfl) (by kernel_rfl) (by kernel_rfl) (fun _ _ _ h => h) (Or.inl ⟨by rfl, ?_⟩) (by assumption) ?_
              rotate_left
              · intro w hSw
                go_simp
                all_goals with_reducible rfl
              simp only [Act.put, List.setIfInBounds_toArray, List.set_cons_zero, List.set_cons_succ]
              refine wpAnyH_take (i := 10) (oi := ⟨_, _, _, _, _, _⟩) (v := ?_) rfl (by kernel_rfl) (by kernel_rfl) (by kernel_rfl) (fun _ _ _ h => h) (Or.inl ⟨by rfl, ?_⟩) (by assumption) ?_
              rotate_left
              · intro w hSw
                go_simp
                all_goals with_reducible rfl
              simp only [Act.put, List.setIfInBounds_toArray, List.set_cons_zero, List.set_cons_succ]
              refine wpAnyH_take (i := 11) (oi := ⟨_, _, _, _, _, _⟩) (v := ?_) rfl (by kernel_rfl) (by kernel_rfl) (by kernel_rfl) (fun _ _ _ h => h) (Or.inl ⟨by rfl, ?_⟩) (by assumption) ?_
              rotate_left
              · intro w hSw
                have hcc : w.cell? ⟨mb + 1, 14, none⟩ = some vr := RowAt.cell hSw 14
                go_simp
                all_goals with_reducible rfl
              simp only [Act.put, List.setIfInBounds_toArray, List.set_cons_zero, List.set_cons_succ]
              refine wpAnyH_take (i := 12) (oi := ⟨_, _, _, _, _, _⟩) (v := ?_) rfl (by kernel_rfl) (by kernel_rfl) (by kernel_rfl) (fun _ _ _ h => h) (Or.inl ⟨by rfl, ?_⟩) (by assumption) ?_
              rotate_left
              · intro w hSw
                go_simp
                all_goals with_reducible rfl
              simp only [Act.put, List.setIfInBounds_toArray, List.set_cons_zero, List.set_cons_succ]
              refine wpAnyH_take (i := 13) (oi := ⟨_, _, _, _, _, _⟩) (v := ?_) rfl (by kernel_rfl) (by kernel_rfl) (by kernel_rfl) (fun _ _ _ h => h) (Or.inl ⟨by rfl, ?_⟩) (by assumption) ?_
              rotate_left
              · intro w hSw
                go_simp
                all_goals with_reducible rfl
              simp only [Act.put, List.setIfInBounds_toArray, List.set_cons_zero, List.set_cons_succ]
              refine wpAnyH_take (i := 14) (oi := ⟨_, _, _, _, _, _⟩) (v := ?_) rfl (by kernel_rfl) (by kernel_rfl) (by kernel_rfl) (fun _ _ _ h => h) (Or.inl ⟨by rfl, ?_⟩) (by assumption) ?_
              rotate_left
              · intro w hSw
                go_simp
                all_goals with_reducible rfl
              simp only [Act.put, List.setIfInBounds_toArray, List.set_cons_zero, List.set_cons_succ]
              refine wpAnyH_take (i := 15) (oi := ⟨_, _, _, _, _, _⟩) (v := ?_) rfl (by kernel_rfl) (by kernel_rfl) (by kernel_rfl) (fun _ _ _ h => h) (Or.inl ⟨by rfl, ?_⟩) (by assumption) ?_
              rotate_left
              · intro w hSw
                have hcc : w.cell? ⟨mb + 1, 15, none⟩ = some (.slice Ao no co) := RowAt.cell hSw 15
                go_simp
                all_goals with_reducible rfl
              simp only [Act.put, List.setIfInBounds_toArray, List.set_cons_zero, List.set_cons_succ]
              refine wpAnyH_ready (rs := [16]) (by kernel_rfl) (by simp) ?_
              refine AllReadyH.cons (o := ⟨_, _, _, _, _, _⟩) rfl (fun K hK => ?_) AllReadyH.nil
              rw [if_pos (by rfl)]
              refine wp_store_row 24 (.tmp 6) (.tmp 161) rfl (n0 + 1) #[.int .i64 q0, .int .i64 q1, .int .i64 q2, .int .i64 q3, .int .i64 q4, .int .i64 q5, .int .i64 Z.pa, .int .i64 Z.ta, .int .i64 Z.re, .int .i64 Z.ro, .int .i64 pd, .int .i64 cr] rfl rfl 24 #[.int .i64 0, .int .i64 0, .int .i64 0, .int .i64 0, .int .i64 0, .int .i64 0, .int .i64 0, .int .i64 0, .int .i64 0, .int .i64 0, .int .i64 0, .int .i64 0] HR6.out (by kernel_rfl) rfl (by kernel_rfl) ?_
              refine hK.out _ _ (RowAt.trans_other (setRow_other (by have := hs1; omega)) rn7) (fun hHeld => ?_)
              clear hK K
              simp only [Act.put]
              refine wpAnyH_take (i := 17) (oi := ⟨_, _, _, _, _, _⟩) (v := ?_) rfl (by kernel_rfl) (by kernel_rfl) (by kernel_rfl) (fun _ _ _ h => h) (Or.inl ⟨by rfl, ?_⟩) (by assumption) ?_
              rotate_left
              · intro w hSw
                go_simp
                all_goals with_reducible rfl
              simp only [Act.put, List.setIfInBounds_toArray, List.set_cons_zero, List.set_cons_succ]
              refine wpAnyH_take (i := 18) (oi := ⟨_, _, _, _, _, _⟩) (v := ?_) rfl (by kernel_rfl) (by kernel_rfl) (by kernel_rfl) (fun _ _ _ h => h) (Or.inl ⟨by rfl, ?_⟩) (by assumption) ?_
              rotate_left
              · intro w hSw
                go_simp
                all_goals with_reducible rfl
              simp only [Act.put, List.setIfInBounds_toArray, List.set_cons_zero, List.set_cons_succ]
              refine wpAnyH_take (i := 19) (oi := ⟨_, _, _, _, _, _⟩) (v := ?_) rfl (by kernel_rfl) (by kernel_rfl) (by kernel_rfl) (fun _ _ _ h => h) (Or.inl ⟨by rfl, ?_⟩) (by assumption) ?_
              rotate_left
              · intro w hSw
                go_simp
                all_goals with_reducible rfl
              simp only [Act.put, List.setIfInBounds_toArray, List.set_cons_zero, List.set_cons_succ]
              refine wpAnyH_done (by kernel_rfl) ?_ _
              clear hHeld
              go_wp2_with fail
              refine bodyPost_ret (results_cell3 rfl _ _ (n0 + 1) _ #[.int .i64 q0, .int .i64 q1, .int .i64 q2, .int .i64 q3, .int .i64 q4, .int .i64 q5, .int .i64 Z.pa, .int .i64 Z.ta, .int .i64 Z.re, .int .i64 Z.ro, .int .i64 pd, .int .i64 cr] _ _ rfl (setRow_same HR6.out) Try.underlying24 rfl (by kernel_rfl)) rfl ?_
              have hkeep : ∀ g, n0 + 2 ≤ g → g ≠ mb + 1 → (W7.drew.setRow (n0 + 1) #[.int .i64 q0, .int .i64 q1, .int .i64 q2, .int .i64 q3, .int .i64 q4, .int .i64 q5, .int .i64 Z.pa, .int .i64 Z.ta, .int .i64 Z.re, .int .i64 Z.ro, .int .i64 pd, .int .i64 cr]).heap[g]? = wr.heap[g]? := fun g h1 h2 => (setRow_other (show n0 + 1 ≠ g by omega)).trans (HOT.out g h2)
              rw [HSP.out]
              refine ⟨vp, vr, .slice Ao no co, ?_, ?_, ?_, ?_, ?_⟩
              · unfold ResV.row rowC
                dsimp only
                rw [HPD.out, HCR.out, hno]
                rfl
              · refine OwnI.mono (HSE.out.ps.kept fun g hg => hkeep g (HSE.out.ps.lt g hg).1 (HSE.out.ps.ne_row (by decide) HSE.out.row g hg)) (by rw [HN0.out]; omega)
              · refine OwnI.mono (HSE.out.rs.kept fun g hg => hkeep g (HSE.out.rs.lt g hg).1 (HSE.out.rs.ne_row (by decide) HSE.out.row g hg)) (by rw [HN0.out]; omega)
              · refine OwnI.mono (HSE.out.bs.kept fun g hg => hkeep g (HSE.out.bs.lt g hg).1 (HSE.out.bs.ne_row (by decide) HSE.out.row g hg)) (by rw [HN0.out]; omega)
              · rw [HN0.out]
                exact below_setRow HBW7.out.drew (by omega)
end Go.Proofs.Ytejkgnlflhngbaa
