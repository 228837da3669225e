/- TermsInvalid returns true. -/
import Derived.Test.YtejkgnlflhngbaaTmWg
import Derived.Test.YtejkgnlflhngbaaTmPi
namespace Go.Proofs.Ytejkgnlflhngbaa
open Go Go.RowKit Go.Lib Go.Shelf Go.Maps

def goodOf (L : List (TermV × Value)) (k : Nat) : List (TermV × Value) := (L.take k).filter fun p => validT p.1
theorem goodOf_succ {L : List (TermV × Value)} {k : Nat} {p : TermV × Value} (h : L[k]? = some p) : goodOf L (k + 1) = goodOf L k ++ if validT p.1 then [p] else [] := by
  unfold goodOf
  rw [List.take_add_one, h, List.filter_append]
  cases hv : validT p.1 <;> simp [hv]
theorem goodOf_all (L : List (TermV × Value)) : (goodOf L L.length).map (·.1) = (L.map (·.1)).filter validT := by
  unfold goodOf
  rw [List.take_length, List.filter_map]
  rfl
theorem named_succ {q : List TermV} {k : Nat} {t : TermV} (h : q[k]? = some t) : named (q.take (k + 1)) = named (q.take k) ++ (if validT t then (if t.k == 5 then t.acc else []) else []) := by
  unfold named
  rw [List.take_add_one, h, List.flatMap_append]
  simp
def ownOf (N : List Int) (bq : List (Int × Int)) (i : Nat) : List (Int × Int) := (bq.take i).filter (nmd N)
theorem ownOf_succ {N : List Int} {bq : List (Int × Int)} {i : Nat} {b : Int × Int} (h : bq[i]? = some b) : ownOf N bq (i + 1) = ownOf N bq i ++ if nmd N b then [b] else [] := by
  unfold ownOf
  rw [List.take_add_one, h, List.filter_append]
  cases hv : nmd N b <;> simp [hv]
theorem ownOf_all (N : List Int) (bq : List (Int × Int)) : ownOf N bq bq.length = bq.filter (nmd N) := by
  unfold ownOf
  rw [List.take_length]
def hasAcc (N : List Int) (x : Int) (j : Nat) : Bool := (N.take j).any (· == x)
theorem hasAcc_succ {N : List Int} {x a : Int} {j : Nat} (h : N[j]? = some a) : hasAcc N x (j + 1) = (hasAcc N x j || a == x) := by
  unfold hasAcc
  rw [List.take_add_one, h]
  simp
theorem hasAcc_all (N : List Int) (x y : Int) : hasAcc N x N.length = nmd N (x, y) := by
  unfold hasAcc nmd
  rw [List.take_length]
theorem hasAcc_yes {N : List Int} {x y : Int} {j : Nat} (h : N[j]? = some x) : nmd N (x, y) = true := nmd_mem.2 (List.mem_of_getElem? h)
theorem named_len {q : List TermV} (h : ∀ t ∈ q, t.acc.length ≤ 6) (k : Nat) : (named (q.take k)).length ≤ 6 * k := by
  induction k with
  | zero => simp [named]
  | succ k ih =>
    cases hq : q[k]? with
    | none =>
      rw [show q.take (k + 1) = q.take k by rw [List.take_add_one, hq]; simp]
      omega
    | some t =>
      rw [named_succ hq, List.length_append]
      have := h t (List.mem_of_getElem? hq)
      split
      · split
        · omega
        · simp; omega
      · simp; omega
/-- what the first loop has collected -/
structure Loop1 (L : List (TermV × Value)) (q : List TermV) (k : Nat) (gv nv : Value) (W wr : World) : Prop where
  own : wr.ownsRow W.heap.size 52 5 gv (goodOf L k).length (tCells (goodOf L k))
  nam : OwnI 3 1 wr W.heap.size nv ((named (q.take k)).map fun a => [a])
  below : Below W.heap.size W wr
/-- what the second loop has collected -/
structure Loop2 (N : List Int) (bq : List (Int × Int)) (i : Nat) (ov : Value) (W wr : World) : Prop where
  own : OwnI 46 2 wr W.heap.size ov ((ownOf N bq i).map p2)
  below : Below W.heap.size W wr
theorem OwnT.get {w : World} {base : Nat} {A : Option Addr} {n c : Nat} {L : List (TermV × Value)} (h : OwnT w base (.slice A n c) L) {i : Nat} {p : TermV × Value} (hr : L[i]? = some p) :
    ∃ b, A = some ⟨b, 0, none⟩ ∧ b < w.heap.size ∧ ∀ (j : Nat) x, (termC p.1 p.2)[j]? = some x → w.cell? ⟨b, i * 5 + j, none⟩ = some x := by
  rcases h.own.2 with ⟨he, hn⟩ | ⟨g, cap, cur, he, _, hg, hnc, _, hcs, ht⟩
  · rw [List.length_eq_zero_iff.1 hn] at hr; simp at hr
  · simp only [Value.slice.injEq] at he
    refine ⟨g, he.1, (Array.getElem?_eq_some_iff.1 hg).1, fun j x hx => ?_⟩
    have h1 := tCells_get L i p hr j x hx
    rw [← ht] at h1
    rw [cell_of_row _ _ _ _ _ _ hg, ← Array.getElem?_toList]
    rw [List.getElem?_take] at h1
    split at h1
    · exact h1
    · cases h1
theorem OwnT.count {w : World} {base : Nat} {A : Option Addr} {n c : Nat} {L : List (TermV × Value)} (h : OwnT w base (.slice A n c) L) : n = L.length := by
  rcases h.own.2 with ⟨he, hn⟩ | ⟨g, cap, cur, he, _, hg, hnc, _, hcs, ht⟩
  · simp only [Value.slice.injEq] at he; omega
  · simp only [Value.slice.injEq] at he; exact he.2.1
theorem irows_get {k : Nat} {w : World} {A : Option Addr} {n c : Nat} {L : List (List Int)} (h : IRows k w (.slice A n c) L) {i : Nat} {r : List Int} (hr : L[i]? = some r) :
    ∃ b o, A = some ⟨b, o, none⟩ ∧ b < w.heap.size ∧ ∀ (j : Nat) x, r[j]? = some x → w.cell? ⟨b, o + i * k + j, none⟩ = some (.int .i64 x) := by
  rcases h.2 with ⟨h0, _⟩ | ⟨b, o, c, he, hlt, hc⟩
  · rw [h0] at hr; simp at hr
  · simp only [Value.slice.injEq] at he
    exact ⟨b, o, he.1, hlt, fun j x hx => hc i r hr j x hx⟩
theorem ints_get {w : World} {A : Option Addr} {n c : Nat} {l : List Int} (h : IntsL w (.slice A n c) l) {i : Nat} {x : Int} (hr : l[i]? = some x) :
    ∃ b o, A = some ⟨b, o, none⟩ ∧ b < w.heap.size ∧ w.cell? ⟨b, o + i, none⟩ = some (.int .i64 x) := by
  rcases h with ⟨h0, _⟩ | ⟨b, o, c, he, hlt, hc⟩
  · rw [h0] at hr; simp at hr
  · simp only [Value.slice.injEq] at he
    exact ⟨b, o, he.1, hlt, hc i x hr⟩
theorem ownsRow_below {w w' : World} {base : Nat} {T : TypeId} {k n : Nat} {v : Value} {xs : List Value} (h : w.ownsRow base T k v n xs) (hb : Below w.heap.size w w') : w'.ownsRow base T k v n xs := by
  refine ⟨h.1, ?_⟩
  rcases h.2 with h0 | ⟨g, cap, cur, hv, hbg, hg, rest⟩
  · exact .inl h0
  · exact .inr ⟨g, cap, cur, hv, hbg, (hb.block g (Array.getElem?_eq_some_iff.1 hg).1).trans hg, rest⟩
theorem ownsRow_mono {w : World} {b c : Nat} {T : TypeId} {k n : Nat} {v : Value} {xs : List Value} (h : w.ownsRow c T k v n xs) (hb : b ≤ c) : w.ownsRow b T k v n xs := by
  refine ⟨h.1, ?_⟩
  rcases h.2 with h0 | ⟨g, cap, cur, hv, hbg, rest⟩
  · exact .inl h0
  · exact .inr ⟨g, cap, cur, hv, by omega, rest⟩
theorem own_kept {w w' : World} {base base' : Nat} {v va : Value} {n : Nat} {xs : List Value} {R : List (List Int)} (hv : w.ownsRow base' 52 5 v n xs) (h : OwnI 3 1 w base va R) (hg : w.grownBy w' va.ownBlock) : w'.ownsRow base' 52 5 v n xs := by
  refine ⟨hv.1, ?_⟩
  rcases hv.2 with h0 | ⟨g, cap, cur, he, hbg, hh, rest⟩
  · exact .inl h0
  · refine .inr ⟨g, cap, cur, he, hbg, (hg.block g (Array.getElem?_eq_some_iff.1 hh).1 fun e => ?_).trans hh, rest⟩
    rcases h.2.2 with ⟨e0, _⟩ | ⟨g1, cap1, cur1, e0, _, hh1, _⟩
    · rw [e0] at e; simp [Value.ownBlock] at e
    · rw [e0] at e
      simp [Value.ownBlock] at e
      subst e
      rw [hh] at hh1
      simp at hh1
theorem Loop1.after {L : List (TermV × Value)} {q : List TermV} {k : Nat} {gv nv : Value} {W wr w' : World} (h : Loop1 L q k gv nv W wr) (hb : Below wr.heap.size wr w') : Loop1 L q k gv nv W w' :=
  ⟨ownsRow_below h.own hb, h.nam.below hb, h.below.trans (hb.mono h.below.size)⟩
theorem row_same (a0 a1 a2 a3 a4 a5 a6 a7 a8 a9 a10 a11 : Int) (w : World) : (Go.binOp .neq 24 (.agg #[.int .i64 a0, .int .i64 a1, .int .i64 a2, .int .i64 a3, .int .i64 a4, .int .i64 a5, .int .i64 a6, .int .i64 a7, .int .i64 a8, .int .i64 a9, .int .i64 a10, .int .i64 a11]) (.agg #[.int .i64 a0, .int .i64 a1, .int .i64 a2, .int .i64 a3, .int .i64 a4, .int .i64 a5, .int .i64 a6, .int .i64 a7, .int .i64 a8, .int .i64 a9, .int .i64 a10, .int .i64 a11])).run Try.prog w = .ok (.bool false) w := by
  simp [go_sem]
theorem eql_bal (x y : Int) (w : World) : (Go.binOp .eql 46 (.agg #[.int .i64 x, .int .i64 y]) (.agg #[.int .i64 x, .int .i64 y])).run Try.prog w = .ok (.bool true) w := by
  simp [go_sem]
theorem eql_bal_no (x y a b : Int) (h : a ≠ x) (w : World) : (Go.binOp .eql 46 (.agg #[.int .i64 x, .int .i64 y]) (.agg #[.int .i64 a, .int .i64 b])).run Try.prog w = .ok (.bool false) w := by
  have e : (x == a) = false := by simpa using fun e => h e.symm
  simp [go_sem, e]
set_option maxRecDepth 100000 in
set_option maxHeartbeats 8000000 in
theorem invalid_yes (A : Option Addr) (n c : Nat) (l : List TermV) (y0 y1 y2 y3 : Int) (A4 : Option Addr) (n4 c4 : Nat) (bs : List (Int × Int)) (w : World)
    (ht : TermsIn w (.slice A n c) l) (hn : l.length = n) (hl : n ≤ 140737488351232) (hok : ∀ t ∈ l, (∀ x ∈ [t.k, t.n, t.m, t.ab], -9223372036854775808 ≤ x ∧ x ≤ 9223372036854775807) ∧ (∀ x ∈ t.acc, -9223372036854775808 ≤ x ∧ x ≤ 9223372036854775807)) (hal : ∀ t ∈ l, t.acc.length ≤ 9223372036854775807)
    (hb : IRows 2 w (.slice A4 n4 c4) (bs.map p2)) (hn4 : bs.length = n4) (hl4 : n4 ≤ 140737488351232) (hc4 : n4 ≤ c4) (hbb : ∀ b ∈ bs, (-9223372036854775808 ≤ b.1 ∧ b.1 ≤ 9223372036854775807) ∧ -9223372036854775808 ≤ b.2 ∧ b.2 ≤ 9223372036854775807)
    (b0 : I64 y0) (b1 : I64 y1) (b2 : I64 y2) (b3 : I64 y3) :
    Calls Try.prog 6 #[.slice A n c, .agg #[.int .i64 y0, .int .i64 y1, .int .i64 y2, .int .i64 y3], .slice A4 n4 c4] w fun e w' => e = .returned (.bool true) ∧ Below w.heap.size w w' := by
  have HT := Lib.hid ht
  have HFEW := Lib.hid (fun W (h2 : TermsIn W (.slice A n c) l) => few_any A n c l W h2 hn hl hal)
  have HSOME := Lib.hid (fun W (h : Below w.heap.size w W) => some_any A4 n4 c4 bs W (hb.below h) hn4 hl4 hc4)
  have HTOK := Lib.hid (few_ok hok)
  have hbb2 : ∀ b ∈ bs.take 12, (-9223372036854775808 ≤ b.1 ∧ b.1 ≤ 9223372036854775807) ∧ -9223372036854775808 ≤ b.2 ∧ b.2 ≤ 9223372036854775807 := fun b h => hbb b (List.mem_of_mem_take h)
  have HBOK := Lib.hid hbb2
  have HLEN : Hid ((fewT l).length ≤ 1000 ∧ (bs.take 12).length ≤ 12) := Lib.hid ⟨few_len l, by rw [List.length_take]; omega⟩
  have OPN := Lib.hid (fun W => open_any y0 y1 y2 y3 5 3 W b0 b1 b2 b3 ⟨by omega, by omega⟩)
  have hopen := openRow_open y0 y1 y2 y3 5 3
  have hz := pickN_bd 3 1200 (by omega)
  unfold openRow rowC at OPN
  unfold openRow at hopen
  dsimp only at OPN
  obtain ⟨z0, ez0⟩ : ∃ z, pickN 3 1200 = z := ⟨_, rfl⟩
  obtain ⟨z1, ez1⟩ : ∃ z, pickN y0 1000000000000001 = z := ⟨_, rfl⟩
  obtain ⟨z2, ez2⟩ : ∃ z, pickN y1 100000001 = z := ⟨_, rfl⟩
  obtain ⟨z3, ez3⟩ : ∃ z, pickN y2 100000001 = z := ⟨_, rfl⟩
  obtain ⟨z4, ez4⟩ : ∃ z, pickN y3 100001 = z := ⟨_, rfl⟩
  rw [ez0, ez1, ez2, ez3, ez4] at OPN hopen
  rw [ez0] at hz
  have HPQ : Hid (0 ≤ z0 ∧ z0 < 1200) := Lib.hid hz
  have hlaw := invalid_law (R := ⟨5, z0, z1, z2, z3, z4⟩) (fewT l) (bs.take 12)
  obtain ⟨S, hS⟩ : ∃ z, runS (fewT l) ⟨5, z0, z1, z2, z3, z4⟩ (bs.take 12) = z := ⟨_, rfl⟩
  obtain ⟨N, hN⟩ : ∃ z, named (fewT l) = z := ⟨_, rfl⟩
  rw [hS, hN] at hlaw
  have hV : settleSpec (fewT l) ⟨5, z0, z1, z2, z3, z4⟩ (bs.take 12) = ⟨S.pa, S.ta, S.re, S.ro, paidOf S, carriedOf S, S.ps, S.rs, S.bs⟩ := by unfold settleSpec; rw [if_pos hopen]; dsimp only; rw [hS]
  have hV2 : settleSpec ((fewT l).filter validT) ⟨5, z0, z1, z2, z3, z4⟩ ((bs.take 12).filter (nmd N)) = ⟨S.pa, S.ta, S.re, S.ro, paidOf S, carriedOf S, S.ps, S.rs, S.bs.filter (nmd N)⟩ := by unfold settleSpec; rw [if_pos hopen]; dsimp only; rw [hlaw.eq]; rfl
  have hpl := run_len 5 z0 (fewT l) (startS ⟨5, z0, z1, z2, z3, z4⟩ (bs.take 12))
  have hpl2 : S.ps.length ≤ 1000000 ∧ S.rs.length ≤ 1000000 := by
    have h1 := few_len l
    have h2 : runS (fewT l) ⟨5, z0, z1, z2, z3, z4⟩ (bs.take 12) = (fewT l).foldl (stepT 5 z0) (startS ⟨5, z0, z1, z2, z3, z4⟩ (bs.take 12)) := rfl
    rw [← h2, hS] at hpl
    have e1 : (startS ⟨5, z0, z1, z2, z3, z4⟩ (bs.take 12)).ps.length = 0 := rfl
    have e2 : (startS ⟨5, z0, z1, z2, z3, z4⟩ (bs.take 12)).rs.length = 0 := rfl
    rw [e1, e2] at hpl
    omega
  have hst := hlaw.stay
  obtain ⟨v0, ev0⟩ : ∃ z, S.pa = z := ⟨_, rfl⟩
  obtain ⟨v1, ev1⟩ : ∃ z, S.ta = z := ⟨_, rfl⟩
  obtain ⟨v2, ev2⟩ : ∃ z, S.re = z := ⟨_, rfl⟩
  obtain ⟨v3, ev3⟩ : ∃ z, S.ro = z := ⟨_, rfl⟩
  obtain ⟨v4, ev4⟩ : ∃ z, paidOf S = z := ⟨_, rfl⟩
  obtain ⟨v5, ev5⟩ : ∃ z, carriedOf S = z := ⟨_, rfl⟩
  obtain ⟨vbs, evb⟩ : ∃ z, S.bs = z := ⟨_, rfl⟩
  obtain ⟨vps, evp⟩ : ∃ z, S.ps = z := ⟨_, rfl⟩
  obtain ⟨vrs, evr⟩ : ∃ z, S.rs = z := ⟨_, rfl⟩
  rw [ev0, ev1, ev2, ev3, ev4, ev5, evp, evr, evb] at hV hV2
  rw [evb] at hst
  rw [evp, evr] at hpl2
  have hacc6 : ∀ t ∈ fewT l, t.acc.length ≤ 6 := by
    intro t ht
    unfold fewT at ht
    obtain ⟨s, hs, rfl⟩ := List.mem_map.1 ht
    unfold cutT
    dsimp only
    rw [List.length_take]
    omega
  have hq12 : (fewT l).length ≤ 12 := by unfold fewT; rw [List.length_map, List.length_take]; omega
  have HLAW := Lib.hid (show settleSpec (fewT l) ⟨5, z0, z1, z2, z3, z4⟩ (bs.take 12) = ⟨v0, v1, v2, v3, v4, v5, vps, vrs, vbs⟩ ∧ settleSpec ((fewT l).filter validT) ⟨5, z0, z1, z2, z3, z4⟩ ((bs.take 12).filter (nmd N)) = ⟨v0, v1, v2, v3, v4, v5, vps, vrs, vbs.filter (nmd N)⟩ ∧ Stay N (bs.take 12) vbs from ⟨hV, hV2, hst⟩)
  have HQ := Lib.hid (show named (fewT l) = N ∧ (∀ t ∈ fewT l, t.acc.length ≤ 6) ∧ (fewT l).length ≤ 12 from ⟨hN, hacc6, hq12⟩)
  have HPL := Lib.hid hpl2
  clear ht hn hl hok hal hb hn4 hl4 hc4 hbb hbb2 b0 b1 b2 b3 hz hopen ez0 ez1 ez2 ez3 ez4 hlaw hS hN hV hV2 hpl hpl2 hst hacc6 hq12 ev0 ev1 ev2 ev3 ev4 ev5 evb evp evr
  go_enter Try.func6, Try.ntmps6
  go_wp2_with fail
  refine (sane_yes _).mono ?_
  rintro e w1 ⟨rfl, hx1⟩
  have r1 : RowAt w1 w.heap.size 25 #[.int .i64 y0, .int .i64 y1, .int .i64 y2, .int .i64 y3] := (RowAt.new w _ _).below hx1 (by simp)
  have bw1 : Below w.heap.size w w1 := ((Below.refl _ _).alloc (Nat.le_refl _) _).trans (hx1.mono (by simp))
  have HR1 := Lib.hid (And.intro r1 bw1)
  clear r1 bw1 hx1
  go_wp2_with fail
  refine (HFEW.out w1 (HT.out.below HR1.out.2)).mono ?_
  rintro e w2 ⟨vl, L, rfl, hL, howl, hx⟩
  obtain ⟨Al, nl, cl, rfl⟩ := howl.slice3
  have HLQ := Lib.hid hL
  have HOWL2 := Lib.hid howl
  have HR2 := Lib.hid (And.intro (HR1.out.1.below hx HR1.out.1.lt) (HR1.out.2.trans (hx.mono HR1.out.2.size)))
  clear hL howl hx HR1
  go_wp2_with fail
  refine (HSOME.out w2 HR2.out.2).mono ?_
  rintro e w3 ⟨vb, rfl, hob, hx⟩
  obtain ⟨Ab, nb, cb, rfl⟩ := hob.slice3
  have hnb : nb = (bs.take 12).length := by have := hob.count; rw [List.length_map] at this; exact this
  obtain ⟨bq, hbq⟩ : ∃ z, bs.take 12 = z := ⟨_, rfl⟩
  rw [hbq] at hob hnb HBOK HLEN HLAW
  have HIB3 := Lib.hid hob.rows
  have HOWL3 := Lib.hid (HOWL2.out.kept (w' := w3) fun g _ h => hx.block g h)
  have r3 := HR2.out.1.below hx HR2.out.1.lt
  have HBW3 := Lib.hid (HR2.out.2.trans (hx.mono HR2.out.2.size))
  have HNB := Lib.hid hnb
  have g0 : w3.cell? ⟨w.heap.size, 0, none⟩ = some (.int .i64 y0) := r3.cell 0
  have g1 : w3.cell? ⟨w.heap.size, 1, none⟩ = some (.int .i64 y1) := r3.cell 1
  have g2 : w3.cell? ⟨w.heap.size, 2, none⟩ = some (.int .i64 y2) := r3.cell 2
  have g3 : w3.cell? ⟨w.heap.size, 3, none⟩ = some (.int .i64 y3) := r3.cell 3
  clear hob hx HR2 HOWL2 r3 hnb hbq
  go_wp2_with fail
  refine (OPN.out w3).mono ?_
  rintro e w4 ⟨rfl, hx⟩
  have HX4 := Lib.hid hx
  clear hx g0 g1 g2 g3
  obtain ⟨q, hq⟩ : ∃ z, fewT l = z := ⟨_, rfl⟩
  rw [hq] at HLQ HTOK HLEN HLAW HQ
  clear hq
  go_wp2_with (first | ((with_reducible refine wpList_store_new (o := ⟨none, .store _ _ _, _, _, _, _⟩) ?_ 24 (.tmp 8) (.tmp 31) ?_ ?_ _ #[.int .i64 5, .int .i64 z0, .int .i64 z1, .int .i64 z2, .int .i64 z3, .int .i64 z4, .int .i64 0, .int .i64 0, .int .i64 0, .int .i64 0, .int .i64 0, .int .i64 0] ?_ ?_ ?_ ?_ ?_); rfl; rfl; rfl; rfl; kernel_rfl; rfl; kernel_rfl))
  obtain ⟨W5, hW5⟩ : ∃ z, w4.alloc (.cells #[.int .i64 5, .int .i64 z0, .int .i64 z1, .int .i64 z2, .int .i64 z3, .int .i64 z4, .int .i64 0, .int .i64 0, .int .i64 0, .int .i64 0, .int .i64 0, .int .i64 0] 24) = z := ⟨_, rfl⟩
  have b5 : Below w3.heap.size w3 W5 := by rw [← hW5]; exact HX4.out.alloc HX4.out.size _
  have r5 : RowAt W5 w4.heap.size 24 #[.int .i64 5, .int .i64 z0, .int .i64 z1, .int .i64 z2, .int .i64 z3, .int .i64 z4, .int .i64 0, .int .i64 0, .int .i64 0, .int .i64 0, .int .i64 0, .int .i64 0] := by rw [← hW5]; exact RowAt.new w4 _ _
  rw [hW5]
  clear hW5
  obtain ⟨n12, hn12⟩ : ∃ z, w4.heap.size = z := ⟨_, rfl⟩
  rw [hn12] at r5 ⊢
  clear hn12
  have HB5 := Lib.hid b5
  have HR5 := Lib.hid r5
  have HOWL5 := Lib.hid (HOWL3.out.kept (w' := W5) fun g _ h => b5.block g h)
  have HIB5 := Lib.hid (HIB3.out.below b5)
  have hnl : nl = L.length := HOWL5.out.count
  have hLq : L.length = q.length := by rw [← HLQ.out, List.length_map]
  have hnl12 : nl ≤ 12 := by rw [hnl, hLq]; exact HQ.out.2.2
  have HNL := Lib.hid (And.intro hnl hLq)
  have hnb12 : nb ≤ 12 := by rw [HNB.out]; exact HLEN.out.2
  obtain ⟨B2, hB2⟩ : ∃ z, w1.heap.size = z := ⟨_, rfl⟩
  rw [hB2] at HOWL5
  clear b5 r5 HX4 HOWL3 HIB3 hnl hLq hB2
  go_loopw [9, 10, 11] (fun gv nv iv wr => ∃ k : Nat, k ≤ nl ∧ iv = .int .i64 k ∧ Hid (Loop1 L q k gv nv W5 wr)) (fun _ _ i _ => nl - (intOf i).toNat)
  case atStart => exact ⟨0, by omega, rfl, Lib.hid ⟨World.ownsRow_nil _ _ _ _, OwnI.nil _ _ _ _, Below.refl _ _⟩⟩
  case round =>
    obtain ⟨k, hk, rfl, HK⟩ := hrel
    by_cases hk2 : k < nl
    · obtain ⟨p, hp⟩ : ∃ f, L[k]? = some f := ⟨_, List.getElem?_eq_getElem (by rw [← HNL.out.1]; exact hk2)⟩
      obtain ⟨t, va⟩ := p
      have hqt : q[k]? = some t := by rw [← HLQ.out, List.getElem?_map, hp]; rfl
      have hmem := List.mem_of_getElem? hqt
      have htok := HTOK.out t hmem
      have hacc := HQ.out.2.1 t hmem
      have hgs := goodOf_succ hp
      have hns := named_succ hqt
      have hnlen := named_len HQ.out.2.1 k
      have hglen : (goodOf L k).length ≤ 12 := by
        unfold goodOf
        refine Nat.le_trans (List.length_filter_le _ _) ?_
        rw [List.length_take]
        omega
      obtain ⟨b1, hA1, hlt1, h1⟩ := HOWL5.out.get hp
      subst hA1
      have hown := HOWL5.out.acc _ (List.mem_of_getElem? hp)
      obtain ⟨Aa, na, ca, hva⟩ := hown.slice3
      subst hva
      obtain ⟨xk, xn, xm, xa, acc⟩ := t
      dsimp only at hacc hgs hns hown htok
      have HVAL : Hid (Calls Try.prog 22 #[.agg #[.int .i64 xk, .int .i64 xn, .int .i64 xm, .int .i64 xa, .slice Aa na ca]] wr fun e w' => e = .returned (.bool (validT ⟨xk, xn, xm, xa, acc⟩)) ∧ Below wr.heap.size wr w') := Lib.hid (validC_any ⟨xk, xn, xm, xa, acc⟩ (.slice Aa na ca) wr htok.2.2 ((ints_of_rows hown.rows).below HK.out.below) htok.2.1)
      obtain ⟨vt, hvt⟩ : ∃ z, validT ⟨xk, xn, xm, xa, acc⟩ = z := ⟨_, rfl⟩
      rw [hvt] at HVAL hgs hns
      have HGS := Lib.hid hgs
      have HNS := Lib.hid hns
      have HOWN := Lib.hid hown
      have HCELL : Hid (∀ (W' : World), Below W5.heap.size W5 W' → ∀ (j : Nat) v, (#[.int .i64 xk, .int .i64 xn, .int .i64 xm, .int .i64 xa, .slice Aa na ca] : Array Value)[j]? = some v → W'.cell? ⟨b1, k * 5 + j, none⟩ = some v) := Lib.hid fun W' hb j v hv => (hb.cell (p := ⟨b1, k * 5 + j, none⟩) hlt1).trans (h1 j v hv)
      have HC1 := Lib.hid (HCELL.out wr HK.out.below)
      have HLE := Lib.hid (show acc.length ≤ 6 ∧ (named (q.take k)).length ≤ 6 * k ∧ (goodOf L k).length ≤ 12 from ⟨hacc, hnlen, hglen⟩)
      clear hp hqt hmem htok hacc hgs hns hnlen hglen h1 hown hvt
      go_wp2_with (first | ((with_reducible refine wpList_load_want (o := ⟨some 41, _, _, _, _, _⟩) ?_ 52 (.tmp 40) ?_ b1 (k * 5) ?_ _ _ HC1.out Try.underlying52 ?_ ?_ ?_); rfl; rfl; rfl; rfl; kernel_rfl))
      refine HVAL.out.mono ?_
      rintro e w8 ⟨rfl, hx⟩
      have HK8 := Lib.hid (HK.out.after hx)
      clear hx HC1 HVAL HK
      cases vt
      · have HEND : Hid (Loop1 L q (k + 1) u9 u10 W5 w8) := Lib.hid ⟨by rw [HGS.out]; simpa using HK8.out.own, by rw [HNS.out]; simpa using HK8.out.nam, HK8.out.below⟩
        go_wp2_with fail
        go_roundw
        case rel => exact ⟨k + 1, by omega, by go_num, HEND⟩
        case measure => simp [intOf]; omega
      · have HC8 := Lib.hid (HCELL.out w8 HK8.out.below)
        go_wp2_with (first | ((with_reducible refine wpList_load_want (o := ⟨some 47, _, _, _, _, _⟩) ?_ 52 (.tmp 46) ?_ b1 (k * 5) ?_ _ _ HC8.out Try.underlying52 ?_ ?_ ?_); rfl; rfl; rfl; rfl; kernel_rfl) | ((with_reducible refine wpList_stop (o := ⟨some 49, _, _, _, _, _⟩) ?_)))
        unfold Stop
        obtain ⟨W9, hW9⟩ : ∃ z, w8.alloc (.cells #[.int .i64 xk, .int .i64 xn, .int .i64 xm, .int .i64 xa, .slice Aa na ca] 52) = z := ⟨_, rfl⟩
        have b9 : Below w8.heap.size w8 W9 := by rw [← hW9]; exact (Below.refl _ _).alloc (Nat.le_refl _) _
        have r9 : RowAt W9 w8.heap.size 52 #[.int .i64 xk, .int .i64 xn, .int .i64 xm, .int .i64 xa, .slice Aa na ca] := by rw [← hW9]; exact RowAt.new w8 _ _
        rw [hW9]
        clear hW9
        have k9 := HK8.out.after b9
        obtain ⟨i0, hi, hz0, hz1, hz2⟩ := info_parts term_info
        refine wpList_append_own _ rfl (.tmp 43) (.tmp 48) 22 rfl W5.heap.size 52 i0 _ 5 56 Try.underlying22 hi hz0 hz1 hz2 rfl (by decide) u9 (goodOf L k).length (tCells (goodOf L k)) rfl k9.own ⟨w8.heap.size, 0, none⟩ 1 1 (termC ⟨xk, xn, xm, xa, acc⟩ (.slice Aa na ca)).toList rfl rfl ?_ ?_ ?_ ?_ ?_ ?_
        · intro j u hj
          rw [addr_add, r9.cell j, ← hj]
          simp [termC]
        · intro u hu
          have : (termC ⟨xk, xn, xm, xa, acc⟩ (.slice Aa na ca)).all (·.oneCell') = true := by kernel_rfl
          rw [← Array.all_toList, List.all_eq_true] at this
          exact this u hu
        · have := HLE.out.2.2; unfold maxLen; omega
        · have := HLE.out.2.2; omega
        · have := k9.below.size; omega
        intro v9 w9 hown9 hg9 _
        have hb9 : Below W5.heap.size W5 w9 := k9.below.grown hg9 k9.below.size (fun j e => (World.ownsRow.lt k9.own j e).1)
        have hnam9 := acc_kept k9.nam k9.own hg9
        have hown9' : w9.ownsRow W5.heap.size 52 5 v9 (goodOf L (k + 1)).length (tCells (goodOf L (k + 1))) := by
          have hg : goodOf L (k + 1) = goodOf L k ++ [((⟨xk, xn, xm, xa, acc⟩ : TermV), Value.slice Aa na ca)] := by rw [HGS.out]; simp
          rw [hg, tCells_app, List.length_append]
          exact hown9
        have HK9 := Lib.hid (And.intro hown9' (And.intro hnam9 hb9))
        have c0 : w9.cell? ⟨b1, k * 5, none⟩ = some (.int .i64 xk) := HCELL.out w9 hb9 0 _ rfl
        clear hown9 hg9 hb9 hnam9 hown9' k9 b9 r9 hi hz0 hz1 hz2 HK8 HC8
        by_cases h5 : xk = 5
        · subst h5
          have c4 : w9.cell? ⟨b1, k * 5 + 4, none⟩ = some (.slice Aa na ca) := HCELL.out w9 HK9.out.2.2 4 _ rfl
          go_wp2_with (first | ((with_reducible refine wpList_stop (o := ⟨some 62, _, _, _, _, _⟩) ?_)))
          unfold Stop
          refine wpList_append_irows Try.underlying49 int_info rfl (by decide) (by decide) (.tmp 56) (.tmp 61) W5.heap.size ((named (q.take k)).map fun a => [a]) (acc.map fun a => [a]) _ _ HK9.out.2.1 (HOWN.out.rows.below HK9.out.2.2) ?_ ?_ ?_ ?_ ?_ ?_ ?_
          · have := HLE.out; simp; omega
          · exact HK9.out.2.2.size
          · rfl
          · rfl
          · rfl
          · rfl
          intro v10 w10 hown10 hg10
          have hb10 : Below W5.heap.size W5 w10 := HK9.out.2.2.grown hg10 HK9.out.2.2.size (fun j e => (HK9.out.2.1.lt j e).1)
          have HEND : Hid (Loop1 L q (k + 1) v9 v10 W5 w10) := Lib.hid ⟨own_kept HK9.out.1 HK9.out.2.1 hg10, by rw [HNS.out]; simpa using hown10, hb10⟩
          clear hown10 hg10 hb10 c0 c4 HK9
          go_wp2_with fail
          go_roundw
          case rel => exact ⟨k + 1, by omega, by go_num, HEND⟩
          case measure => simp [intOf]; omega
        · have e5 : (xk == 5) = false := by simpa using h5
          have HEND : Hid (Loop1 L q (k + 1) v9 u10 W5 w9) := Lib.hid ⟨HK9.out.1, by rw [HNS.out, e5]; simpa using HK9.out.2.1, HK9.out.2.2⟩
          clear HK9
          go_wp2_with fail
          go_roundw
          case rel => exact ⟨k + 1, by omega, by go_num, HEND⟩
          case measure => simp [intOf]; omega
    · obtain rfl : k = nl := by omega
      have hgd : TermsAt wr u9 (q.filter validT) := by
        have h := (OwnT.mk (base := 0) (ownsRow_mono HK.out.own (Nat.zero_le _)) (fun p hp => ((HOWL5.out.acc p (List.mem_of_mem_take (List.mem_filter.1 hp).1)).below HK.out.below).mono (Nat.zero_le _))).terms
        rw [HNL.out.1, goodOf_all, HLQ.out] at h
        exact h
      have hnm : IntsL wr u10 N := by
        have h := ints_of_rows HK.out.nam.rows
        rw [HNL.out.1, HNL.out.2, List.take_length, HQ.out.1] at h
        exact h
      have hN72 : N.length ≤ 72 := by
        have h := named_len HQ.out.2.1 q.length
        rw [List.take_length, HQ.out.1] at h
        have := HQ.out.2.2
        omega
      obtain ⟨An, cn, hvn⟩ := hnm.slice
      obtain ⟨Ag, cg, hvg⟩ := hgd.slice
      subst hvn hvg
      obtain ⟨nN, hnN⟩ : ∃ z, N.length = z := ⟨_, rfl⟩
      obtain ⟨ng, hng⟩ : ∃ z, (q.filter validT).length = z := ⟨_, rfl⟩
      have hng12 : ng ≤ 12 := by rw [← hng]; exact Nat.le_trans (List.length_filter_le _ _) HQ.out.2.2
      rw [hnN] at hN72 hnm ⊢
      rw [hng] at hgd ⊢
      have htl6 := HOWL5.out.terms.below HK.out.below
      rw [HLQ.out] at htl6
      have r6 := HR5.out.below HK.out.below HR5.out.lt
      have hib6 := HIB5.out.below HK.out.below
      have hb6 := HB5.out.trans (HK.out.below.mono HB5.out.size)
      have hbw := HBW3.out.trans (hb6.mono HBW3.out.size)
      obtain ⟨W6, hW6⟩ : ∃ z, wr = z := ⟨_, rfl⟩
      rw [hW6] at hgd hnm htl6 r6 hib6 hbw ⊢
      have HGD := Lib.hid hgd
      have HNM := Lib.hid hnm
      have HTL6 := Lib.hid htl6
      have HR6 := Lib.hid r6
      have HIB6 := Lib.hid hib6
      have HBW6 := Lib.hid hbw
      have HNN := Lib.hid (And.intro hnN hng)
      clear hgd hnm htl6 r6 hib6 hb6 hbw hnN hng hW6 HK
      go_wp2_with fail
      go_loopw [12, 13] (fun ov iv wr => ∃ i : Nat, i ≤ nb ∧ iv = .int .i64 i ∧ Hid (Loop2 N bq i ov W6 wr)) (fun _ i _ => nb - (intOf i).toNat)
      case atStart => exact ⟨0, by omega, rfl, Lib.hid ⟨OwnI.nil _ _ _ _, Below.refl _ _⟩⟩
      case round =>
        obtain ⟨i, hi, rfl, HK2⟩ := hrel
        obtain ⟨ov, hov⟩ : ∃ z, z = u12 := ⟨_, rfl⟩
        subst hov
        obtain ⟨Wi, hWi⟩ : ∃ z, wr = z := ⟨_, rfl⟩
        rw [hWi] at HK2 ⊢
        clear hWi
        by_cases hi2 : i < nb
        · obtain ⟨⟨x, y⟩, hf0⟩ : ∃ f, bq[i]? = some f := ⟨_, List.getElem?_eq_getElem (by rw [← HNB.out]; exact hi2)⟩
          obtain ⟨b2, o2, hA2, hlt2, h2⟩ := irows_get HIB6.out (show (bq.map p2)[i]? = some [x, y] by rw [List.getElem?_map, hf0]; rfl)
          subst hA2
          have HADV : Hid (∀ W', Below W6.heap.size W6 W' → W'.cell? ⟨b2, o2 + i * 2, none⟩ = some (.int .i64 x) ∧ W'.cell? ⟨b2, o2 + i * 2 + 1, none⟩ = some (.int .i64 y)) := Lib.hid fun W' hb => ⟨(hb.cell (p := ⟨b2, o2 + i * 2, none⟩) hlt2).trans (h2 0 x rfl), (hb.cell (p := ⟨b2, o2 + i * 2 + 1, none⟩) hlt2).trans (h2 1 y rfl)⟩
          have HOS := Lib.hid (ownOf_succ (N := N) hf0)
          have hol : (ownOf N bq i).length ≤ 12 := by
            unfold ownOf
            refine Nat.le_trans (List.length_filter_le _ _) ?_
            rw [List.length_take]
            have := HLEN.out.2
            omega
          have HOL := Lib.hid hol
          clear hf0 h2 hlt2 hol
          go_wp2_with fail
          go_loopw [12, 14] (fun ow jv wx => ∃ j : Nat, j ≤ nN ∧ jv = .int .i64 j ∧ ov = ow ∧ Hid (hasAcc N x j = false ∧ Below Wi.heap.size Wi wx)) (fun _ j _ => nN - (intOf j).toNat)
          case atStart => exact ⟨0, by omega, rfl, rfl, Lib.hid ⟨rfl, Below.refl _ _⟩⟩
          case round =>
            obtain ⟨j, hj, rfl, rfl, HJ⟩ := hrel
            have HB6x := Lib.hid (HK2.out.below.trans (HJ.out.2.mono HK2.out.below.size))
            by_cases hj2 : j < nN
            · obtain ⟨a, ha⟩ : ∃ a, N[j]? = some a := ⟨_, List.getElem?_eq_getElem (by rw [HNN.out.1]; exact hj2)⟩
              obtain ⟨bn, onn, hAn, hltn, hn⟩ := ints_get HNM.out ha
              subst hAn
              have cn0 : wr.cell? ⟨bn, onn + j, none⟩ = some (.int .i64 a) := (HB6x.out.cell (p := ⟨bn, onn + j, none⟩) hltn).trans hn
              have ca0 := (HADV.out _ HB6x.out).1
              have ca1 := (HADV.out _ HB6x.out).2
              have HSU := Lib.hid (hasAcc_succ (x := x) ha)
              by_cases hax : a = x
              · subst hax
                have HNY := Lib.hid (hasAcc_yes (y := y) ha)
                clear ha hn
                go_wp2_with fail
                go_quiet (fail)
                go_wp2_with (first | ((with_reducible refine wpList_stop (o := ⟨some 91, _, _, _, _, _⟩) ?_)))
                unfold Stop
                have b9 : Below wr.heap.size wr ((wr.drewN nq).alloc (.cells #[.int .i64 a, .int .i64 y] 46)) := (below_drewN (Below.refl _ _) _).alloc (Nat.le_refl _) _
                have k9 := (HK2.out.own.below HJ.out.2).below b9
                refine wpList_append_irow2 Try.underlying26 balance_info rfl (by decide) (by decide) (.tmp 85) (.tmp 90) W6.heap.size ((ownOf N bq i).map p2) [a, y] rfl (wr.drewN nq).heap.size 1 ov k9 (by rw [List.length_map]; have := HOL.out; omega) (by have h1 := HB6x.out.size; have h2 := b9.size; omega) (irow_new (wr.drewN nq) [a, y] 46) rfl rfl rfl rfl (fun v' w13 hown' hg' => ?_)
                have HEND : Hid (Loop2 N bq (i + 1) v' W6 w13) := Lib.hid ⟨by rw [HOS.out, HNY.out]; simpa [p2] using hown', (HB6x.out.trans (b9.mono HB6x.out.size)).grown hg' (by have h1 := HB6x.out.size; have h2 := b9.size; omega) (fun j e => (HK2.out.own.lt j e).1)⟩
                clear hown' hg' k9 b9 cn0 ca0 ca1 HJ HB6x
                go_wp2_with fail
                go_roundw
                case rel => exact ⟨i + 1, by omega, by go_num, HEND⟩
                case measure => simp [intOf]; omega
              · have eax : (a == x) = false := by simpa using hax
                clear ha hn
                go_wp2_with fail
                go_quiet (fail)
                go_wp2_with fail
                go_roundw
                case rel => exact ⟨j + 1, by omega, by go_num, rfl, Lib.hid ⟨by rw [HSU.out, HJ.out.1, eax]; rfl, below_drewN HJ.out.2 _⟩⟩
                case measure => simp [intOf]; omega
            · obtain rfl : j = nN := by omega
              have hno : nmd N (x, y) = false := by rw [← hasAcc_all N x y, HNN.out.1]; exact HJ.out.1
              have HEND : Hid (Loop2 N bq (i + 1) ov W6 wr) := Lib.hid ⟨by rw [HOS.out, hno]; simpa using HK2.out.own.below HJ.out.2, HB6x.out⟩
              clear hno HJ HB6x
              go_wp2_with fail
              go_roundw
              case rel => exact ⟨i + 1, by omega, by go_num, HEND⟩
              case measure => simp [intOf]; omega
        · obtain rfl : i = nb := by omega
          have hall : ownOf N bq i = bq.filter (nmd N) := by rw [HNB.out]; exact ownOf_all N bq
          have hio : IRows 2 Wi ov ((bq.filter (nmd N)).map p2) := by have h := HK2.out.own.rows; rw [hall] at h; exact h
          obtain ⟨Ao, co, hvo⟩ := hio.slice
          subst hvo
          obtain ⟨no, hno⟩ : ∃ z, (bq.filter (nmd N)).length = z := ⟨_, rfl⟩
          rw [List.length_map, hno] at hio ⊢
          have hno12 : no ≤ 12 := by rw [← hno]; exact Nat.le_trans (List.length_filter_le _ _) HLEN.out.2
          have hb := HK2.out.below
          have hgd := HGD.out.below hb
          have htl := HTL6.out.below hb
          have hr := HR6.out.below hb HR6.out.lt
          have hib := HIB6.out.below hb
          have hbw := HBW6.out.trans (hb.mono HBW6.out.size)
          have HNO := Lib.hid hno
          have HIO7 := Lib.hid hio
          have HGD7 := Lib.hid hgd
          have HTL7 := Lib.hid htl
          have HR7 := Lib.hid hr
          have HIB7 := Lib.hid hib
          have HBW7 := Lib.hid hbw
          have HL7 := Lib.hid (row_cells (show Wi.heap[n12]? = _ from hr))
          clear hall hio hno hb hgd htl hr hib hbw HK2 HGD HTL6 HR6 HIB6 HBW6 HNM
          go_wp2_with (first | ((with_reducible refine wpList_load_at (o := ⟨some 94, _, _, _, _, _⟩) ?_ 24 (.tmp 8) ?_ n12 0 ?_ _ _ HL7.out Try.underlying24 ?_ ?_ ?_); rfl; rfl; rfl; rfl; kernel_rfl))
          refine (settle_any q ⟨5, z0, z1, z2, z3, z4⟩ bq (.slice Al k cl) (.slice Ab i cb) 0 0 0 0 0 0 Wi HTL7.out HTOK.out HLEN.out.1 HIB7.out (by have := HLEN.out.2; omega) HBOK.out (by have := HPQ.out; dsimp only; omega)).mono ?_
          rintro e w8 ⟨vp, vr, vo, rfl, hps, hrs, hbs, hx⟩
          rw [HLAW.out.1] at hps hrs hbs ⊢
          unfold ResV.row rowC
          dsimp only at hps hrs hbs ⊢
          have HP8 := Lib.hid hps.rows
          have HRZ8 := Lib.hid hrs.rows
          have HD8 := Lib.hid hbs.rows
          have HX8 := Lib.hid hx
          clear hps hrs hbs hx HL7
          go_wp2_with (first | ((with_reducible refine wpList_store_new (o := ⟨none, .store _ _ _, _, _, _, _⟩) ?_ 24 (.tmp 15) (.tmp 97) ?_ ?_ _ #[.int .i64 5, .int .i64 z0, .int .i64 z1, .int .i64 z2, .int .i64 z3, .int .i64 z4, .int .i64 v0, .int .i64 v1, .int .i64 v2, .int .i64 v3, .int .i64 v4, .int .i64 v5] ?_ ?_ ?_ ?_ ?_); rfl; rfl; rfl; rfl; kernel_rfl; rfl; kernel_rfl) | ((with_reducible refine wpList_stop (o := ⟨some 103, _, _, _, _, _⟩) ?_)))
          unfold Stop
          obtain ⟨W9, hW9⟩ : ∃ z, w8.alloc (.cells #[.int .i64 5, .int .i64 z0, .int .i64 z1, .int .i64 z2, .int .i64 z3, .int .i64 z4, .int .i64 v0, .int .i64 v1, .int .i64 v2, .int .i64 v3, .int .i64 v4, .int .i64 v5] 24) = z := ⟨_, rfl⟩
          have b9 : Below w8.heap.size w8 W9 := by rw [← hW9]; exact (Below.refl _ _).alloc (Nat.le_refl _) _
          have r9 : RowAt W9 w8.heap.size 24 #[.int .i64 5, .int .i64 z0, .int .i64 z1, .int .i64 z2, .int .i64 z3, .int .i64 z4, .int .i64 v0, .int .i64 v1, .int .i64 v2, .int .i64 v3, .int .i64 v4, .int .i64 v5] := by rw [← hW9]; exact RowAt.new w8 _ _
          rw [hW9]
          clear hW9
          obtain ⟨n15, hn15⟩ : ∃ z, w8.heap.size = z := ⟨_, rfl⟩
          rw [hn15] at r9 ⊢
          have hb79 := HX8.out.trans (b9.mono HX8.out.size)
          have HR9 := Lib.hid r9
          have HR9o := Lib.hid (HR7.out.below hb79 HR7.out.lt)
          have HP9 := Lib.hid (HP8.out.below b9)
          have HRZ9 := Lib.hid (HRZ8.out.below b9)
          have HD9 := Lib.hid (HD8.out.below b9)
          have HGD9 := Lib.hid (HGD7.out.below hb79)
          have HIO9 := Lib.hid (HIO7.out.below hb79)
          have HIB9 := Lib.hid (HIB7.out.below hb79)
          have HBW9 := Lib.hid (HBW7.out.trans (hb79.mono HBW7.out.size))
          have HL9 := Lib.hid (row_cells (show W9.heap[n12]? = _ from HR9o.out))
          clear b9 r9 hn15 hb79 HX8 HP8 HRZ8 HD8 HGD7 HIO7 HIB7 HTL7 HBW7 HR7
          go_wp2_with (first | ((with_reducible refine wpList_load_at (o := ⟨some 103, _, _, _, _, _⟩) ?_ 24 (.tmp 8) ?_ n12 0 ?_ _ _ HL9.out Try.underlying24 ?_ ?_ ?_); rfl; rfl; rfl; rfl; kernel_rfl))
          refine (settle_any (q.filter validT) ⟨5, z0, z1, z2, z3, z4⟩ (bq.filter (nmd N)) (.slice Ag ng cg) (.slice Ao no co) 0 0 0 0 0 0 W9 HGD9.out (fun t ht => HTOK.out t (List.mem_filter.1 ht).1) (by rw [HNN.out.2]; omega) HIO9.out (by rw [HNO.out]; omega) (fun b hb => HBOK.out b (List.mem_filter.1 hb).1) (by have := HPQ.out; dsimp only; omega)).mono ?_
          rintro e w10 ⟨vp2, vr2, vo2, rfl, hps, hrs, hbs, hx⟩
          rw [HLAW.out.2.1] at hps hrs hbs ⊢
          unfold ResV.row rowC
          dsimp only at hps hrs hbs ⊢
          have HP10 := Lib.hid hps.rows
          have HRZ10 := Lib.hid hrs.rows
          have HD10 := Lib.hid hbs.rows
          have HX10 := Lib.hid hx
          clear hps hrs hbs hx HL9
          go_wp2_with (first | ((with_reducible refine wpList_store_new (o := ⟨none, .store _ _ _, _, _, _, _⟩) ?_ 24 (.tmp 19) (.tmp 106) ?_ ?_ _ #[.int .i64 5, .int .i64 z0, .int .i64 z1, .int .i64 z2, .int .i64 z3, .int .i64 z4, .int .i64 v0, .int .i64 v1, .int .i64 v2, .int .i64 v3, .int .i64 v4, .int .i64 v5] ?_ ?_ ?_ ?_ ?_); rfl; rfl; rfl; rfl; kernel_rfl; rfl; kernel_rfl) | ((with_reducible refine wpList_stop (o := ⟨some 110, _, _, _, _, _⟩) ?_)))
          unfold Stop
          obtain ⟨W11, hW11⟩ : ∃ z, w10.alloc (.cells #[.int .i64 5, .int .i64 z0, .int .i64 z1, .int .i64 z2, .int .i64 z3, .int .i64 z4, .int .i64 v0, .int .i64 v1, .int .i64 v2, .int .i64 v3, .int .i64 v4, .int .i64 v5] 24) = z := ⟨_, rfl⟩
          have b11 : Below w10.heap.size w10 W11 := by rw [← hW11]; exact (Below.refl _ _).alloc (Nat.le_refl _) _
          have r11 : RowAt W11 w10.heap.size 24 #[.int .i64 5, .int .i64 z0, .int .i64 z1, .int .i64 z2, .int .i64 z3, .int .i64 z4, .int .i64 v0, .int .i64 v1, .int .i64 v2, .int .i64 v3, .int .i64 v4, .int .i64 v5] := by rw [← hW11]; exact RowAt.new w10 _ _
          rw [hW11]
          clear hW11
          obtain ⟨n19, hn19⟩ : ∃ z, w10.heap.size = z := ⟨_, rfl⟩
          rw [hn19] at r11 ⊢
          have hb911 := HX10.out.trans (b11.mono HX10.out.size)
          have r15 := HR9.out.below hb911 HR9.out.lt
          have HLA := Lib.hid (row_cells (show W11.heap[n15]? = _ from r15))
          have HLB := Lib.hid (row_cells (show W11.heap[n19]? = _ from r11))
          have hD : IRows 2 W11 vo (vbs.map p2) := HD9.out.below hb911
          have hH : IRows 2 W11 vo2 ((vbs.filter (nmd N)).map p2) := HD10.out.below b11
          obtain ⟨Ad, cd, hvd⟩ := hD.slice
          obtain ⟨Ah, ch, hvh⟩ := hH.slice
          subst hvd hvh
          have hlen1 : vbs.length = i := by rw [HLAW.out.2.2.1, HNB.out]
          have hlen2 : (vbs.filter (nmd N)).length = no := by
            rw [← kAt_all, kAt_stay HLAW.out.2.2, HLAW.out.2.2.1, kAt_all, HNO.out]
          rw [List.length_map, hlen1] at hD ⊢
          rw [List.length_map, hlen2] at hH ⊢
          have HD11 := Lib.hid hD
          have HH11 := Lib.hid hH
          have HIO11 := Lib.hid (HIO9.out.below hb911)
          have HIB11 := Lib.hid (HIB9.out.below hb911)
          have HBW11 := Lib.hid (HBW9.out.trans (hb911.mono HBW9.out.size))
          have SP := Lib.hid (fun W (hb : Below W11.heap.size W11 W) => samePasses_eq vp vp2 vps W HPL.out.1 ((HP9.out.below hb911).below hb) ((HP10.out.below b11).below hb))
          have SR := Lib.hid (fun W (hb : Below W11.heap.size W11 W) => sameReserves_eq vr vr2 vrs W HPL.out.2 ((HRZ9.out.below hb911).below hb) ((HRZ10.out.below b11).below hb))
          have hne := row_same 5 z0 z1 z2 z3 z4 v0 v1 v2 v3 v4 v5
          have HNE := Lib.hid (And.intro hlen1 hlen2)
          clear b11 r11 hn19 hb911 r15 hD hH hlen1 hlen2 HX10 HP10 HRZ10 HD10 HP9 HRZ9 HD9 HGD9 HIO9 HIB9 HBW9 HR9 HR9o
          go_wp2_with (first | ((with_reducible refine wpList_load_at (o := ⟨some 110, _, _, _, _, _⟩) ?_ 24 (.tmp 15) ?_ n15 0 ?_ _ _ HLA.out Try.underlying24 ?_ ?_ ?_); rfl; rfl; rfl; rfl; kernel_rfl) | ((with_reducible refine wpList_load_at (o := ⟨some 111, _, _, _, _, _⟩) ?_ 24 (.tmp 19) ?_ n19 0 ?_ _ _ HLB.out Try.underlying24 ?_ ?_ ?_); rfl; rfl; rfl; rfl; kernel_rfl))
          refine (SP.out _ (Below.refl _ _)).mono ?_
          rintro e w12 ⟨rfl, hx12⟩
          have HX12 := Lib.hid hx12
          clear hx12 hne HLA HLB
          go_wp2_with fail
          refine (SR.out _ HX12.out).mono ?_
          rintro e w13 ⟨rfl, hx13⟩
          have HX13 := Lib.hid (HX12.out.trans (hx13.mono HX12.out.size))
          clear hx13
          go_wp2_with fail
          go_loopw [23, 24] (fun kv iv wr => ∃ m kk : Nat, m ≤ i ∧ iv = .int .i64 m ∧ kv = .int .i64 kk ∧ Hid (kk = kAt N bq m ∧ Below w13.heap.size w13 wr)) (fun _ v _ => i - (intOf v).toNat)
          case atStart => exact ⟨0, 0, by omega, rfl, rfl, Lib.hid ⟨by simp [kAt], Below.refl _ _⟩⟩
          case round =>
            obtain ⟨m, kk, hm, rfl, rfl, HJ⟩ := hrel
            by_cases hm2 : m < i
            · obtain ⟨⟨x, y⟩, hf0⟩ : ∃ f, bq[m]? = some f := ⟨_, List.getElem?_eq_getElem (by rw [← HNB.out]; exact hm2)⟩
              obtain ⟨⟨x', y'⟩, hf1⟩ : ∃ f, vbs[m]? = some f := ⟨_, List.getElem?_eq_getElem (by rw [HNE.out.1]; exact hm2)⟩
              have hl := invalid_last HLAW.out.2.2 m (x, y) (x', y') hf0 hf1
              have hxx : x' = x := (HLAW.out.2.2.2 m _ _ hf0 hf1).1
              subst hxx
              rw [← HJ.out.1] at hl
              obtain ⟨b2, o2, hA2, hlt2, h2⟩ := irows_get HIB11.out (show (bq.map p2)[m]? = some [x', y] by rw [List.getElem?_map, hf0]; rfl)
              obtain ⟨b3, o3, hA3, hlt3, h3⟩ := irows_get HD11.out (show (vbs.map p2)[m]? = some [x', y'] by rw [List.getElem?_map, hf1]; rfl)
              subst hA2 hA3
              have c20 := (HJ.out.2.cell (p := ⟨b2, o2 + m * 2, none⟩) (Nat.lt_of_lt_of_le hlt2 HX13.out.size)).trans ((HX13.out.cell (p := ⟨b2, o2 + m * 2, none⟩) hlt2).trans (h2 0 x' rfl))
              have c21 := (HJ.out.2.cell (p := ⟨b2, o2 + m * 2 + 1, none⟩) (Nat.lt_of_lt_of_le hlt2 HX13.out.size)).trans ((HX13.out.cell (p := ⟨b2, o2 + m * 2 + 1, none⟩) hlt2).trans (h2 1 y rfl))
              have c30 := (HJ.out.2.cell (p := ⟨b3, o3 + m * 2, none⟩) (Nat.lt_of_lt_of_le hlt3 HX13.out.size)).trans ((HX13.out.cell (p := ⟨b3, o3 + m * 2, none⟩) hlt3).trans (h3 0 x' rfl))
              have c31 := (HJ.out.2.cell (p := ⟨b3, o3 + m * 2 + 1, none⟩) (Nat.lt_of_lt_of_le hlt3 HX13.out.size)).trans ((HX13.out.cell (p := ⟨b3, o3 + m * 2 + 1, none⟩) hlt3).trans (h3 1 y' rfl))
              clear h2 h3 hlt2 hlt3 hf0 hf1
              by_cases hn : nmd N (x', y) = true
              · obtain ⟨g1, g2, g3⟩ := hl.1 hn
                have hkk : kk < no := by have h := (List.getElem?_eq_some_iff.1 g1).1; rw [HNO.out] at h; exact h
                obtain ⟨b4, o4, hA4, hlt4, h4⟩ := irows_get HIO11.out (show ((bq.filter (nmd N)).map p2)[kk]? = some [x', y] by rw [List.getElem?_map, g1]; rfl)
                obtain ⟨b5, o5, hA5, hlt5, h5⟩ := irows_get HH11.out (show ((vbs.filter (nmd N)).map p2)[kk]? = some [x', y'] by rw [List.getElem?_map, g2]; rfl)
                subst hA4 hA5
                have c40 := (HJ.out.2.cell (p := ⟨b4, o4 + kk * 2, none⟩) (Nat.lt_of_lt_of_le hlt4 HX13.out.size)).trans ((HX13.out.cell (p := ⟨b4, o4 + kk * 2, none⟩) hlt4).trans (h4 0 x' rfl))
                have c41 := (HJ.out.2.cell (p := ⟨b4, o4 + kk * 2 + 1, none⟩) (Nat.lt_of_lt_of_le hlt4 HX13.out.size)).trans ((HX13.out.cell (p := ⟨b4, o4 + kk * 2 + 1, none⟩) hlt4).trans (h4 1 y rfl))
                have c50 := (HJ.out.2.cell (p := ⟨b5, o5 + kk * 2, none⟩) (Nat.lt_of_lt_of_le hlt5 HX13.out.size)).trans ((HX13.out.cell (p := ⟨b5, o5 + kk * 2, none⟩) hlt5).trans (h5 0 x' rfl))
                have c51 := (HJ.out.2.cell (p := ⟨b5, o5 + kk * 2 + 1, none⟩) (Nat.lt_of_lt_of_le hlt5 HX13.out.size)).trans ((HX13.out.cell (p := ⟨b5, o5 + kk * 2 + 1, none⟩) hlt5).trans (h5 1 y' rfl))
                have HG3 := Lib.hid g3
                clear h4 h5 hlt4 hlt5 g1 g2 g3 hl hn
                have q1 := eql_bal x' y
                have q2 := eql_bal x' y'
                go_wp2_with fail
                go_quiet (fail)
                go_wp2_with fail
                go_roundw
                case rel => exact ⟨m + 1, kk + 1, by omega, by go_num, by go_num, Lib.hid ⟨HG3.out.symm, below_drewN HJ.out.2 _⟩⟩
                case measure => simp [intOf]; omega
              · obtain ⟨g1, g2, g3⟩ := hl.2 (by simpa using hn)
                simp only [Prod.mk.injEq, true_and] at g1
                subst g1
                have HG2 := Lib.hid g2
                have q3 := neq_sameBalances x' y'
                by_cases hkk : kk < no
                · obtain ⟨⟨ox, oy⟩, g4⟩ : ∃ f, (bq.filter (nmd N))[kk]? = some f := ⟨_, List.getElem?_eq_getElem (by rw [HNO.out]; exact hkk)⟩
                  have q4 := eql_bal_no x' y' ox oy (g3 _ g4)
                  obtain ⟨b4, o4, hA4, hlt4, h4⟩ := irows_get HIO11.out (show ((bq.filter (nmd N)).map p2)[kk]? = some [ox, oy] by rw [List.getElem?_map, g4]; rfl)
                  subst hA4
                  have c40 := (HJ.out.2.cell (p := ⟨b4, o4 + kk * 2, none⟩) (Nat.lt_of_lt_of_le hlt4 HX13.out.size)).trans ((HX13.out.cell (p := ⟨b4, o4 + kk * 2, none⟩) hlt4).trans (h4 0 ox rfl))
                  have c41 := (HJ.out.2.cell (p := ⟨b4, o4 + kk * 2 + 1, none⟩) (Nat.lt_of_lt_of_le hlt4 HX13.out.size)).trans ((HX13.out.cell (p := ⟨b4, o4 + kk * 2 + 1, none⟩) hlt4).trans (h4 1 oy rfl))
                  clear h4 hlt4 g2 g3 g4 hl hn
                  go_wp2_with fail
                  go_quiet (fail)
                  go_wp2_with fail
                  go_quiet (fail)
                  go_wp2_with fail
                  go_roundw
                  case rel => exact ⟨m + 1, kk, by omega, by go_num, rfl, Lib.hid ⟨HG2.out.symm, below_drewN HJ.out.2 _⟩⟩
                  case measure => simp [intOf]; omega
                · have dkk : decide (kk < no) = false := by simpa using hkk
                  clear g2 g3 hl hn
                  go_wp2_with fail
                  go_quiet (fail)
                  go_wp2_with fail
                  go_quiet (fail)
                  go_wp2_with fail
                  go_roundw
                  case rel => exact ⟨m + 1, kk, by omega, by go_num, rfl, Lib.hid ⟨HG2.out.symm, below_drewN HJ.out.2 _⟩⟩
                  case measure => simp [intOf]; omega
            · obtain rfl : m = i := by omega
              have hkn : kk = no := by rw [HJ.out.1, HNB.out, kAt_all, HNO.out]
              subst hkn
              have HBE := Lib.hid (HBW11.out.trans ((HX13.out.trans (HJ.out.2.mono HX13.out.size)).mono HBW11.out.size))
              go_wp2_with fail
              go_ret
              exact ⟨rfl, HBE.out⟩
end Go.Proofs.Ytejkgnlflhngbaa
