/- royaltylaw16.ExchangeMatchesReference returns true. -/
import Derived.Test.YtdackmefkccipaaMkQ
namespace Go.Proofs.Ytdackmefkccipaa
open Go Go.RowKit Go.Lib Go.Shelf

/-- a base whose lists are arbitrary facts -/
structure BL (w : World) (B : BaseV) (R S T : List FactV) : Prop where
  f4 : FactsAt w (B.l 4) R
  f5 : FactsAt w (B.l 5) S
  f6 : FactsAt w (B.l 6) T
  o4 : FactsOk R
  o5 : FactsOk S
  o6 : FactsOk T
  n4 : R.length ≤ 1000000
  n5 : S.length ≤ 1000000
  n6 : T.length ≤ 1000000
  ones : B.cells.all (·.oneCell') = true
theorem BL.below {w w' : World} {B : BaseV} {R S T : List FactV} (h : BL w B R S T) (hb : Below w.heap.size w w') : BL w' B R S T :=
  ⟨h.f4.below hb, h.f5.below hb, h.f6.below hb, h.o4, h.o5, h.o6, h.n4, h.n5, h.n6, h.ones⟩
theorem bv_lit (a b c : Value) : (bv a b c).cells = #[.slice none 0 0, .slice none 0 0, .slice none 0 0, .slice none 0 0, a, b, c, .slice none 0 0, .slice none 0 0, .slice none 0 0] := rfl
theorem FactsAt.one {w : World} {v : Value} {l : List FactV} (h : FactsAt w v l) : v.oneCell' = true := by
  rcases h with ⟨_, A, c, rfl⟩ | ⟨b, o, c, rfl, _⟩ <;> rfl
theorem FactsAt.sliceV {w : World} {v : Value} {l : List FactV} (h : FactsAt w v l) : ∃ A n c, v = .slice A n c := by
  rcases h with ⟨_, A, c, rfl⟩ | ⟨b, o, c, rfl, _⟩ <;> exact ⟨_, _, _, rfl⟩
theorem run_field6 (cs : Array Value) (v : Value) (hv : cs[6]? = some v) (w : World) : (Instr.field 26 (.agg cs) 6).run Try.prog w = .ok v w := by
  simp [Instr.field, run_underlying Try.underlying26, asAgg, part, isAgg, run_underlying Try.underlying23, hv]
theorem FactsAt.take {w : World} {A : Option Addr} {n c k : Nat} {fs : List FactV} (h : FactsAt w (.slice A n c) fs) (hl : fs.length = n) (hk : k ≤ n) : FactsAt w (.slice A k c) (fs.take k) := by
  rcases h with ⟨rfl, A', c', he⟩ | ⟨b, o, c', he, hlt, hc⟩
  · simp only [List.length_nil] at hl
    obtain rfl : k = 0 := by omega
    exact .inl ⟨rfl, A, c, rfl⟩
  · cases he
    refine .inr ⟨b, o, c, by rw [List.length_take, hl, Nat.min_eq_left hk], hlt, fun i f hi j x hx => hc i f ?_ j x hx⟩
    rw [List.getElem?_take] at hi
    split at hi
    · exact hi
    · cases hi
theorem load_baseAt {ops : Array Oper} {rest : List Oper} {o : Oper} {a : Act} {w : World} {Q : Exit → Act → World → Prop} (x : Operand) (b off : Nat) (B : BaseV) (hc : ∀ j v, B.cells[j]? = some v → w.cell? ⟨b, off + j, none⟩ = some v)
    (hgd : o.guard = none) (ho : o.op = .load 26 x) (hx : a.eval x = .pointer (some ⟨b, off, none⟩))
    (h : wpList Try.prog ops Q rest (a.put o.dst (.agg B.cells)) w) : wpList Try.prog ops Q (o :: rest) a w :=
  wpList_load_at hgd _ x ho b off hx B.cells _ hc Try.underlying26 rfl base_size h

set_option maxRecDepth 100000 in
set_option maxHeartbeats 8000000 in
theorem matches_yes (X : Nat → Nat → Int) (m : Nat) (v0 : Value) (A : Option Addr) (n c : Nat) (fs : List FactV) (am cur ter pp : Int) (w : World) (hm : m ≤ 140737488351232) (hx : XsAt w v0 m X)
    (hnc : n ≤ c) (hfl : fs.length = n) (hfs : FactsAt w (.slice A n c) fs) (hfo : FactsOk fs)
    (a1 : -9223372036854775808 ≤ am) (a2 : am ≤ 9223372036854775807) (b1 : -9223372036854775808 ≤ cur) (b2 : cur ≤ 9223372036854775807) (c1 : -9223372036854775808 ≤ ter) (c2 : ter ≤ 9223372036854775807) (p1 : -9223372036854775808 ≤ pp) (p2 : pp ≤ 9223372036854775807) :
    Calls Try.prog 3 #[v0, .slice A n c, .int .i64 am, .int .i64 cur, .int .i64 ter, .int .i64 pp] w fun e w' => e = .returned (.bool true) ∧ Below w.heap.size w w' := by
  have HX := Lib.hid hx
  have HM := Lib.hid hm
  have HFS := Lib.hid hfs
  have HFO := Lib.hid hfo
  have HFL := Lib.hid hfl
  have PQ := Lib.hid (fun W => pick_any pp 4 W p1 p2 (by omega) (by omega))
  have PC := Lib.hid (fun W => pick_any cur 6 W b1 b2 (by omega) (by omega))
  have PT := Lib.hid (fun W => pick_any ter 3 W c1 c2 (by omega) (by omega))
  have PA := Lib.hid (fun W => pick_any am 1000000000000002 W a1 a2 (by omega) (by omega))
  have AM2 := Lib.hid a2
  obtain ⟨q2, hq2⟩ : ∃ x, pickN pp 4 = x := ⟨_, rfl⟩
  obtain ⟨cc2, hcc2⟩ : ∃ x, pickN cur 6 = x := ⟨_, rfl⟩
  obtain ⟨t2, ht2⟩ : ∃ x, pickN ter 3 = x := ⟨_, rfl⟩
  obtain ⟨am2, ham2⟩ : ∃ x, pickN am 1000000000000002 = x := ⟨_, rfl⟩
  have hamr := pickN_range am 1000000000000002 (by omega)
  rw [hq2] at PQ
  rw [hcc2] at PC
  rw [ht2] at PT
  rw [ham2] at PA hamr
  have HAM := Lib.hid (show am2 ≤ 9223372036854775807 by omega)
  clear hq2 hcc2 ht2 ham2 hamr a1 a2 b1 b2 c1 c2 p1 p2 hx hm hfo
  obtain ⟨k, hk⟩ : ∃ k, min n 20 = k := ⟨_, rfl⟩
  have hmin : (if (20 : Int) < (n : Int) then (20 : Int) else (n : Int)) = (k : Int) := by split <;> omega
  have hkn : k ≤ n := by omega
  have hkc : k ≤ c := by omega
  have hk20 : k ≤ 20 := by omega
  clear hk
  go_enter Try.func3, Try.ntmps3
  go_wp2_with fail
  refine (sane_yes _).mono ?_
  rintro e w1 ⟨rfl, hb1⟩
  have B1 := Lib.hid hb1
  have HX1 := Lib.hid (HX.out.below hb1)
  clear hb1
  go_wp2_with fail
  have HFT : Hid (FactsAt w1 (.slice A k c) (fs.take k)) := Lib.hid ((HFS.out.below B1.out).take HFL.out hkn)
  have HTN : Hid ((fs.take k).length ≤ 20) := Lib.hid (by rw [List.length_take]; omega)
  have HTO : Hid (FactsOk (fs.take k)) := Lib.hid fun f hf => HFO.out f (List.mem_of_mem_take hf)
  obtain ⟨gs, hgs⟩ : ∃ gs, fs.take k = gs := ⟨_, rfl⟩
  rw [hgs] at HFT HTN HTO
  clear hgs
  have hs1one : (Value.slice A k c).oneCell' = true := rfl
  refine (make_some X m v0 w1 HM.out HX1.out).mono ?_
  rintro e w2 ⟨ma, mb, mc, rfl, hmb, hb⟩
  obtain ⟨R5, R6, R7, hl⟩ := hmb.lists
  have B2 := Lib.hid (B1.out.trans (hb.mono B1.out.size))
  have HL := Lib.hid hl
  have HFT2 := Lib.hid (HFT.out.below hb)
  have HX2 := Lib.hid (HX1.out.below hb)
  clear hmb hb hl
  rw [bv_lit]
  go_wp2_with fail
  refine (make_some X m v0 w2 HM.out HX2.out).mono ?_
  rintro e w3 ⟨na, nb, nc, rfl, hmb, hb⟩
  obtain ⟨Q5, Q6, Q7, hl⟩ := hmb.lists
  obtain ⟨An, nn, cn, rfl⟩ := hl.f7.sliceV
  have B3 := Lib.hid (B2.out.trans (hb.mono B2.out.size))
  have HN := Lib.hid hl
  have HL3 := Lib.hid (HL.out.below hb)
  have HFT3 := Lib.hid (HFT2.out.below hb)
  clear hmb hb hl
  rw [bv_lit]
  have hfield := fun w => run_field6 #[.slice none 0 0, .slice none 0 0, .slice none 0 0, .slice none 0 0, na, nb, .slice An nn cn, .slice none 0 0, .slice none 0 0, .slice none 0 0] (.slice An nn cn) rfl w
  go_wp2_with (first | ((with_reducible refine wpList_stop (o := ⟨some 50, _, _, _, _, _⟩) ?_)))
  unfold Stop
  obtain ⟨nw, hnw⟩ : ∃ x, w3.heap.size = x := ⟨_, rfl⟩
  obtain ⟨W, hW⟩ : ∃ W, w3.alloc (.cells #[.slice none 0 0, .slice none 0 0, .slice none 0 0, .slice none 0 0, ma, mb, mc, .slice none 0 0, .slice none 0 0, .slice none 0 0, .slice none 0 0, .slice none 0 0, .slice none 0 0, .slice none 0 0, .slice A k c, .slice A k c, .slice A k c, .slice none 0 0, .slice none 0 0, .slice none 0 0, .slice none 0 0, .slice none 0 0, .slice none 0 0, .slice none 0 0, .slice A k c, .slice A k c, .slice An nn cn, .slice none 0 0, .slice none 0 0, .slice none 0 0] 26) = W := ⟨_, rfl⟩
  have hrow : W.heap[nw]? = some (.cells #[.slice none 0 0, .slice none 0 0, .slice none 0 0, .slice none 0 0, ma, mb, mc, .slice none 0 0, .slice none 0 0, .slice none 0 0, .slice none 0 0, .slice none 0 0, .slice none 0 0, .slice none 0 0, .slice A k c, .slice A k c, .slice A k c, .slice none 0 0, .slice none 0 0, .slice none 0 0, .slice none 0 0, .slice none 0 0, .slice none 0 0, .slice none 0 0, .slice A k c, .slice A k c, .slice An nn cn, .slice none 0 0, .slice none 0 0, .slice none 0 0] 26 (0, 0)) := by rw [← hW, ← hnw]; exact heap_alloc_last w3 _
  have hbw : Below w3.heap.size w3 W := by rw [← hW]; exact (Below.refl _ _).alloc (Nat.le_refl _) _
  have hl1 := HL3.out.below hbw
  have hl2 := HN.out.below hbw
  have hl3 := HFT3.out.below hbw
  have HBB : Hid (∀ i, i < 3 → ∃ B R S T, BL W B R S T ∧ ∀ j x, B.cells[j]? = some x → W.cell? ⟨nw, i * 10 + j, none⟩ = some x) := Lib.hid fun i hi => by
    have hn := HTN.out
    have cell : ∀ (B : BaseV) (o : Nat), (∀ j, j < 10 → (#[.slice none 0 0, .slice none 0 0, .slice none 0 0, .slice none 0 0, ma, mb, mc, .slice none 0 0, .slice none 0 0, .slice none 0 0, .slice none 0 0, .slice none 0 0, .slice none 0 0, .slice none 0 0, .slice A k c, .slice A k c, .slice A k c, .slice none 0 0, .slice none 0 0, .slice none 0 0, .slice none 0 0, .slice none 0 0, .slice none 0 0, .slice none 0 0, .slice A k c, .slice A k c, .slice An nn cn, .slice none 0 0, .slice none 0 0, .slice none 0 0] : Array Value)[o + j]? = B.cells[j]?) → ∀ j x, B.cells[j]? = some x → W.cell? ⟨nw, o + j, none⟩ = some x := by
      intro B o h j x hx
      have hj : j < 10 := (Array.getElem?_eq_some_iff.1 hx).1
      rw [cell_of_row _ _ _ _ _ _ hrow, h j hj, hx]
    rcases (by omega : i = 0 ∨ i = 1 ∨ i = 2) with rfl | rfl | rfl
    · refine ⟨bv ma mb mc, R5, R6, R7, ⟨hl1.f5, hl1.f6, hl1.f7, hl1.ok5, hl1.ok6, hl1.ok7, by have := hl1.len; omega, by have := hl1.len; omega, by have := hl1.len; omega, hl1.ones⟩, cell _ _ ?_⟩
      intro j hj
      rcases (by omega : j = 0 ∨ j = 1 ∨ j = 2 ∨ j = 3 ∨ j = 4 ∨ j = 5 ∨ j = 6 ∨ j = 7 ∨ j = 8 ∨ j = 9) with rfl | rfl | rfl | rfl | rfl | rfl | rfl | rfl | rfl | rfl <;> rfl
    · refine ⟨bv (.slice A k c) (.slice A k c) (.slice A k c), gs, gs, gs, ⟨hl3, hl3, hl3, HTO.out, HTO.out, HTO.out, by omega, by omega, by omega, bv_ones rfl rfl rfl⟩, cell _ _ ?_⟩
      intro j hj
      rcases (by omega : j = 0 ∨ j = 1 ∨ j = 2 ∨ j = 3 ∨ j = 4 ∨ j = 5 ∨ j = 6 ∨ j = 7 ∨ j = 8 ∨ j = 9) with rfl | rfl | rfl | rfl | rfl | rfl | rfl | rfl | rfl | rfl <;> rfl
    · refine ⟨bv (.slice A k c) (.slice A k c) (.slice An nn cn), gs, gs, Q7, ⟨hl3, hl3, hl2.f7, HTO.out, HTO.out, hl2.ok7, by omega, by omega, by have := hl2.len; omega, bv_ones rfl rfl rfl⟩, cell _ _ ?_⟩
      intro j hj
      rcases (by omega : j = 0 ∨ j = 1 ∨ j = 2 ∨ j = 3 ∨ j = 4 ∨ j = 5 ∨ j = 6 ∨ j = 7 ∨ j = 8 ∨ j = 9) with rfl | rfl | rfl | rfl | rfl | rfl | rfl | rfl | rfl | rfl <;> rfl
  have hltn : nw < W.heap.size := (Array.getElem?_eq_some_iff.1 hrow).1
  have B4 : Hid (Below w.heap.size w W) := Lib.hid (B3.out.trans (hbw.mono B3.out.size))
  rw [hW, hnw]
  clear hW hnw hrow hbw hl1 hl2 hl3 HL HL3 HN HFT HFT2 HFT3 HX HX1 HX2 HFS HFO HFL HM B1 B2 B3 hfield hmin
  go_wp2_with fail
  go_loopw [51] (fun iv wr => ∃ i : Nat, i ≤ 3 ∧ iv = .int .i64 i ∧ Hid (Below W.heap.size W wr)) (fun i _ => 3 - (intOf i).toNat)
  case atStart => exact ⟨0, by omega, rfl, Lib.hid (Below.refl _ _)⟩
  case round =>
    obtain ⟨i, hi, rfl, HBi⟩ := hrel
    by_cases hi3 : i < 3
    · have hdi : decide ((i : Int) < 3) = true := by simp; omega
      obtain ⟨B, R, S, T, hbl, hcl⟩ := HBB.out i hi3
      have hbl2 := hbl.below HBi.out
      have HCL : Hid (∀ j x, B.cells[j]? = some x → wr.cell? ⟨nw, i * 10 + j, none⟩ = some x) := Lib.hid fun j x hx => (HBi.out.cell (p := ⟨nw, i * 10 + j, none⟩) hltn).trans (hcl j x hx)
      have HBL := Lib.hid hbl2
      clear hbl hcl hbl2
      go_wp2_with (first | ((with_reducible refine load_baseAt (o := ⟨some 54, _, _, _, _, _⟩) (.tmp 53) nw (i * 10) B HCL.out ?_ ?_ ?_ ?_); rfl; rfl; rfl) | ((with_reducible refine store_base (o := ⟨none, .store _ _ _, _, _, _, _⟩) (.tmp 16) (.tmp 54) B _ ?_ ?_ ?_ ?_ ?_ HBL.out.ones ?_); rfl; rfl; rfl; rfl; rfl))
      obtain ⟨nb0, hnb⟩ : ∃ x, wr.heap.size = x := ⟨_, rfl⟩
      obtain ⟨W2, hW2⟩ : ∃ x, wr.alloc (.cells B.cells 26) = x := ⟨_, rfl⟩
      have k2 : W2.heap[nb0]? = some (.cells B.cells 26 (0, 0)) := by rw [← hW2, ← hnb]; exact heap_alloc_last wr _
      have hb2 : BL W2 B R S T := by rw [← hW2]; exact HBL.out.below ((Below.refl _ _).alloc (Nat.le_refl _) _)
      have B5 : Hid (Below W.heap.size W W2) := Lib.hid (by rw [← hW2]; exact HBi.out.alloc HBi.out.size _)
      rw [hW2, hnb]
      have hkey : ∀ Wc, Below W2.heap.size W2 Wc → Wc.heap[nb0]? = some (.cells B.cells 26 (0, 0)) ∧ BL Wc B R S T := fun Wc h => ⟨(h.block _ (Array.getElem?_eq_some_iff.1 k2).1).trans k2, hb2.below h⟩
      have HKEY := Lib.hid hkey
      have CA := Lib.hid (fun (n' c' q' : Int) Wc (h : Below W2.heap.size W2 Wc) (hn : n' ≤ 9223372036854775807) => convert_any B n' c' q' T Wc (Nat.le_trans hb2.n6 (by omega)) (hkey Wc h).2.f6 hb2.o6 hn)
      have CB := Lib.hid (fun (n' c' q' : Int) Wc (h : Below W2.heap.size W2 Wc) (hn : n' ≤ 9223372036854775807) => refConvert_any B n' c' q' T Wc (Nat.le_trans hb2.n6 (by omega)) (hkey Wc h).2.f6 hb2.o6 hn)
      have RA := Lib.hid (fun (t' q' : Int) Wc (h : Below W2.heap.size W2 Wc) => revenue_any B t' q' R T Wc (Nat.le_trans hb2.n4 (by omega)) (Nat.le_trans hb2.n6 (by omega)) (hkey Wc h).2.f4 (hkey Wc h).2.f6 hb2.o6 hb2.o4)
      have RB := Lib.hid (fun (t' q' : Int) Wc (h : Below W2.heap.size W2 Wc) => refRevenue_any B t' q' R T Wc (Nat.le_trans hb2.n4 (by omega)) (Nat.le_trans hb2.n6 (by omega)) (hkey Wc h).2.f4 (hkey Wc h).2.f6 hb2.o6 hb2.o4)
      have SA := Lib.hid (fun (t' q' : Int) Wc (h : Below W2.heap.size W2 Wc) => subs_any B t' q' S T Wc hb2.n5 (Nat.le_trans hb2.n6 (by omega)) (hkey Wc h).2.f5 (hkey Wc h).2.f6 hb2.o6 hb2.o5)
      have SB := Lib.hid (fun (t' q' : Int) Wc (h : Below W2.heap.size W2 Wc) => refSubs_any B t' q' S T Wc hb2.n5 (Nat.le_trans hb2.n6 (by omega)) (hkey Wc h).2.f5 (hkey Wc h).2.f6 hb2.o6 hb2.o5)
      have hsl : (subSpec S T 0 0).length ≤ 1000000 ∧ ∀ t' q', (subSpec S T t' q').length ≤ 1000000 := ⟨Nat.le_trans (List.length_filterMap_le _ _) hb2.n5, fun t' q' => Nat.le_trans (List.length_filterMap_le _ _) hb2.n5⟩
      have HSL := Lib.hid hsl.2
      clear hW2 hnb k2 hb2 hkey HBL HCL HBi hsl
      refine (PQ.out _).mono ?_
      rintro e w' ⟨rfl, rfl⟩
      have hqs : ∀ (W' : World), ∀ x, x < 2 → ∃ q, (W'.alloc (.cells #[.int .i64 pp, .int .i64 q2] 3)).cell? ⟨W'.heap.size, x, none⟩ = some (.int .i64 q) := by
        intro W' x hx
        rw [cell_of_row _ _ x _ _ _ (heap_alloc_last W' _)]
        rcases (by omega : x = 0 ∨ x = 1) with rfl | rfl
        · exact ⟨pp, rfl⟩
        · exact ⟨q2, rfl⟩
      have HQS := Lib.hid hqs
      clear hqs
      go_wp2_with fail
      obtain ⟨nq, hnq⟩ : ∃ x, W2.heap.size = x := ⟨_, rfl⟩
      obtain ⟨W3, hWn⟩ : ∃ x, W2.alloc (.cells #[.int .i64 pp, .int .i64 q2] 3) = x := ⟨_, rfl⟩
      have HQ : Hid (∀ x, x < 2 → ∃ q, W3.cell? ⟨nq, x, none⟩ = some (.int .i64 q)) := Lib.hid (by rw [← hWn, ← hnq]; exact HQS.out _)
      have hltnq : nq < W3.heap.size := by rw [← hWn, ← hnq]; simp
      have BBnq : Hid (Below W2.heap.size W2 W3) := Lib.hid (by rw [← hWn]; exact (Below.refl W2.heap.size W2).alloc (Below.refl W2.heap.size W2).size _)
      rw [hWn, hnq]
      clear hWn hnq HQS
      go_loopw [60] (fun iv wr => ∃ x : Nat, x ≤ 2 ∧ iv = .int .i64 x ∧ Hid (Below W3.heap.size W3 wr)) (fun i _ => 2 - (intOf i).toNat)
      case atStart => exact ⟨0, by omega, rfl, Lib.hid (Below.refl _ _)⟩
      case round =>
        obtain ⟨x, hx, rfl, HBx⟩ := hrel
        have B2x : Hid (Below W2.heap.size W2 wr) := Lib.hid (BBnq.out.trans (HBx.out.mono BBnq.out.size))
        by_cases hx2 : x < 2
        · have hdx : decide ((x : Int) < 2) = true := by simp; omega
          obtain ⟨cx, hcx⟩ := HQ.out x hx2
          have ccx : wr.cell? ⟨nq, x, none⟩ = some (.int .i64 cx) := (HBx.out.cell (p := ⟨nq, x, none⟩) hltnq).trans hcx
          clear hcx
          go_wp2_with fail
          refine (PC.out _).mono ?_
          rintro e w' ⟨rfl, rfl⟩
          have hqs : ∀ (W' : World), ∀ x, x < 2 → ∃ q, (W'.alloc (.cells #[.int .i64 cur, .int .i64 cc2] 3)).cell? ⟨W'.heap.size, x, none⟩ = some (.int .i64 q) := by
            intro W' x hx
            rw [cell_of_row _ _ x _ _ _ (heap_alloc_last W' _)]
            rcases (by omega : x = 0 ∨ x = 1) with rfl | rfl
            · exact ⟨cur, rfl⟩
            · exact ⟨cc2, rfl⟩
          have HQS := Lib.hid hqs
          clear hqs
          go_wp2_with fail
          obtain ⟨nc, hnq⟩ : ∃ x, wr.heap.size = x := ⟨_, rfl⟩
          obtain ⟨W5, hWn⟩ : ∃ x, wr.alloc (.cells #[.int .i64 cur, .int .i64 cc2] 3) = x := ⟨_, rfl⟩
          have HC : Hid (∀ x, x < 2 → ∃ q, W5.cell? ⟨nc, x, none⟩ = some (.int .i64 q)) := Lib.hid (by rw [← hWn, ← hnq]; exact HQS.out _)
          have hltnc : nc < W5.heap.size := by rw [← hWn, ← hnq]; simp
          have BBnc : Hid (Below W2.heap.size W2 W5) := Lib.hid (by rw [← hWn]; exact (B2x.out).alloc (B2x.out).size _)
          have HXn : Hid (Below W3.heap.size W3 W5) := Lib.hid (by rw [← hWn]; exact HBx.out.alloc HBx.out.size _)
          rw [hWn, hnq]
          clear hWn hnq HQS
          go_loopw [69] (fun iv wr => ∃ y : Nat, y ≤ 2 ∧ iv = .int .i64 y ∧ Hid (Below W5.heap.size W5 wr)) (fun i _ => 2 - (intOf i).toNat)
          case atStart => exact ⟨0, by omega, rfl, Lib.hid (Below.refl _ _)⟩
          case round =>
            obtain ⟨y, hy, rfl, HBy⟩ := hrel
            have B2y : Hid (Below W2.heap.size W2 wr) := Lib.hid (BBnc.out.trans (HBy.out.mono BBnc.out.size))
            have HXy : Hid (Below W3.heap.size W3 wr) := Lib.hid (HXn.out.trans (HBy.out.mono HXn.out.size))
            by_cases hy2 : y < 2
            · have hdy : decide ((y : Int) < 2) = true := by simp; omega
              obtain ⟨cy, hcy⟩ := HC.out y hy2
              have ccy : wr.cell? ⟨nc, y, none⟩ = some (.int .i64 cy) := (HBy.out.cell (p := ⟨nc, y, none⟩) hltnc).trans hcy
              clear hcy
              have K1 := Lib.hid (HKEY.out wr B2y.out).1
              obtain ⟨⟨e1, e2⟩, hu⟩ : ∃ z, convSpec T am cy cx = z := ⟨_, rfl⟩
              obtain ⟨⟨g1, g2⟩, hv⟩ : ∃ z, convSpec T am2 cy cx = z := ⟨_, rfl⟩
              have C1 := Lib.hid (fun Wc h => CA.out am cy cx Wc h AM2.out)
              have C2 := Lib.hid (fun Wc h => CB.out am cy cx Wc h AM2.out)
              have C3 := Lib.hid (fun Wc h => CA.out am2 cy cx Wc h HAM.out)
              have C4 := Lib.hid (fun Wc h => CB.out am2 cy cx Wc h HAM.out)
              rw [hu] at C1 C2
              rw [hv] at C3 C4
              clear hu hv
              go_wp2_with (first | ((with_reducible refine load_base (o := ⟨some 74, _, _, _, _, _⟩) (.tmp 16) nb0 B K1.out ?_ ?_ ?_ ?_); rfl; rfl; rfl))
              refine (C1.out wr B2y.out).mono ?_
              rintro e w6 ⟨rfl, hb⟩
              have D1 := Lib.hid (B2y.out.trans (hb.mono B2y.out.size))
              have E1 := Lib.hid (HBy.out.trans (hb.mono HBy.out.size))
              have K2 := Lib.hid (HKEY.out w6 D1.out).1
              clear hb
              go_wp2_with (first | ((with_reducible refine load_base (o := ⟨some 82, _, _, _, _, _⟩) (.tmp 16) nb0 B K2.out ?_ ?_ ?_ ?_); rfl; rfl; rfl))
              refine (C2.out w6 D1.out).mono ?_
              rintro e w7 ⟨rfl, hb⟩
              have D2 := Lib.hid (D1.out.trans (hb.mono D1.out.size))
              have E2 := Lib.hid (E1.out.trans (hb.mono E1.out.size))
              clear hb
              go_wp2_with fail
              have KB := (HKEY.out w7 D2.out).1
              have HRW : Hid (∀ W', Below w7.heap.size w7 W' → ∀ j v, B.cells[j]? = some v → W'.cell? ⟨nb0, 0 + j, none⟩ = some v) := Lib.hid fun W' h => row_cells ((h.block _ (Array.getElem?_eq_some_iff.1 KB).1).trans KB)
              clear KB
              refine wp_region_held_drew (S := fun W' => Below w7.heap.size w7 W') (by kernel_rfl) (Below.refl _ _).drew (fun hHeld => ?_)
              refine wpAnyH_take (i := 0) (oi := ⟨_, _, _, _, _, _⟩) rfl (by kernel_rfl) (by kernel_rfl) (by kernel_rfl) (fun _ _ _ h => h) (yieldsIf_load_at 26 (.tmp 16) nb0 0 B.cells _ HRW.out rfl (by rfl) rfl rfl rfl rfl) (by assumption) ?_
              simp only [Act.put, List.setIfInBounds_toArray, List.set_cons_zero, List.set_cons_succ]
              refine wpAnyH_take (i := 1) (oi := ⟨_, _, _, _, _, _⟩) (v := ?_) rfl (by kernel_rfl) (by kernel_rfl) (by kernel_rfl) (fun _ _ _ h => h) (Or.inl ⟨by rfl, ?_⟩) (by assumption) ?_
              rotate_left
              · intro w hSw
                go_simp
                all_goals with_reducible rfl
              simp only [Act.put, List.setIfInBounds_toArray, List.set_cons_zero, List.set_cons_succ]
              refine wpAnyH_take (i := 3) (oi := ⟨_, _, _, _, _, _⟩) (v := ?_) rfl (by kernel_rfl) (by kernel_rfl) (by kernel_rfl) (fun _ _ _ h => h) (Or.inl ⟨by rfl, ?_⟩) (by assumption) ?_
              rotate_left
              · intro w hSw
                go_simp
                all_goals with_reducible rfl
              simp only [Act.put, List.setIfInBounds_toArray, List.set_cons_zero, List.set_cons_succ]
              refine wpAnyH_take (i := 4) (oi := ⟨_, _, _, _, _, _⟩) (v := ?_) rfl (by kernel_rfl) (by kernel_rfl) (by kernel_rfl) (fun _ _ _ h => h) (Or.inl ⟨by rfl, ?_⟩) (by assumption) ?_
              rotate_left
              · intro w hSw
                go_simp
                all_goals with_reducible rfl
              simp only [Act.put, List.setIfInBounds_toArray, List.set_cons_zero, List.set_cons_succ]
              refine wpAnyH_ready (rs := [2]) (by kernel_rfl) (by simp) ?_
              refine AllReadyH.cons (o := ⟨_, _, _, _, _, _⟩) rfl (fun K hK => ?_) AllReadyH.nil
              go_simp
              (go_at_call 9; refine (PA.out _).mono ?_; rintro e w' ⟨rfl, rfl⟩)
              go_wp2_with fail
              refine hK.out _ _ (by assumption) (fun hHeld => ?_)
              clear hK K
              try simp only [Act.put, List.setIfInBounds_toArray, List.set_cons_zero, List.set_cons_succ]
              refine wpAnyH_ready (rs := [5]) (by kernel_rfl) (by simp) ?_
              refine AllReadyH.cons (o := ⟨_, _, _, _, _, _⟩) rfl (fun K hK => ?_) AllReadyH.nil
              go_simp
              go_at_call 10
              refine (C3.out _ D2.out.drew).mono ?_
              rintro e w8 ⟨rfl, hb⟩
              have hS : Below w7.heap.size w7 w8 := (Below.refl w7.heap.size w7).drew.trans hb
              clear hb
              go_wp2_with fail
              refine hK.out _ _ hS (fun hHeld => ?_)
              clear hK K
              try simp only [Act.put, List.setIfInBounds_toArray, List.set_cons_zero, List.set_cons_succ]
              refine wpAnyH_take (i := 6) (oi := ⟨_, _, _, _, _, _⟩) (v := ?_) rfl (by kernel_rfl) (by kernel_rfl) (by kernel_rfl) (fun _ _ _ h => h) (Or.inl ⟨by rfl, ?_⟩) (by assumption) ?_
              rotate_left
              · intro w hSw
                go_simp
                all_goals with_reducible rfl
              simp only [Act.put, List.setIfInBounds_toArray, List.set_cons_zero, List.set_cons_succ]
              refine wpAnyH_take (i := 7) (oi := ⟨_, _, _, _, _, _⟩) (v := ?_) rfl (by kernel_rfl) (by kernel_rfl) (by kernel_rfl) (fun _ _ _ h => h) (Or.inl ⟨by rfl, ?_⟩) (by assumption) ?_
              rotate_left
              · intro w hSw
                go_simp
                all_goals with_reducible rfl
              simp only [Act.put, List.setIfInBounds_toArray, List.set_cons_zero, List.set_cons_succ]
              refine wpAnyH_take (i := 8) (oi := ⟨_, _, _, _, _, _⟩) (v := ?_) rfl (by kernel_rfl) (by kernel_rfl) (by kernel_rfl) (fun _ _ _ h => h) (Or.inl ⟨by rfl, ?_⟩) (by assumption) ?_
              rotate_left
              · intro w hSw
                go_simp
                all_goals with_reducible rfl
              simp only [Act.put, List.setIfInBounds_toArray, List.set_cons_zero, List.set_cons_succ]
              refine wpAnyH_take (i := 9) (oi := ⟨_, _, _, _, _, _⟩) (v := ?_) rfl (by kernel_rfl) (by kernel_rfl) (by kernel_rfl) (fun _ _ _ h => h) (Or.inl ⟨by rfl, ?_⟩) (by assumption) ?_
              rotate_left
              · intro w hSw
                go_simp
                all_goals with_reducible rfl
              simp only [Act.put, List.setIfInBounds_toArray, List.set_cons_zero, List.set_cons_succ]
              refine wpAnyH_take (i := 10) (oi := ⟨_, _, _, _, _, _⟩) (v := ?_) rfl (by kernel_rfl) (by kernel_rfl) (by kernel_rfl) (fun _ _ _ h => h) (Or.inl ⟨by rfl, ?_⟩) (by assumption) ?_
              rotate_left
              · intro w hSw
                go_simp
                all_goals with_reducible rfl
              simp only [Act.put, List.setIfInBounds_toArray, List.set_cons_zero, List.set_cons_succ]
              refine wpAnyH_done (by kernel_rfl) ?_ _
              have D3 := Lib.hid (D2.out.trans (hS.mono D2.out.size))
              have E3 := Lib.hid (E2.out.trans (hS.mono E2.out.size))
              clear hS hHeld HRW
              go_wp2_with fail
              have KB := (HKEY.out w8 D3.out).1
              have HRW : Hid (∀ W', Below w8.heap.size w8 W' → ∀ j v, B.cells[j]? = some v → W'.cell? ⟨nb0, 0 + j, none⟩ = some v) := Lib.hid fun W' h => row_cells ((h.block _ (Array.getElem?_eq_some_iff.1 KB).1).trans KB)
              clear KB
              refine wp_region_held_drew (S := fun W' => Below w8.heap.size w8 W') (by kernel_rfl) (Below.refl _ _).drew (fun hHeld => ?_)
              refine wpAnyH_take (i := 0) (oi := ⟨_, _, _, _, _, _⟩) rfl (by kernel_rfl) (by kernel_rfl) (by kernel_rfl) (fun _ _ _ h => h) (yieldsIf_load_at 26 (.tmp 16) nb0 0 B.cells _ HRW.out rfl (by rfl) rfl rfl rfl rfl) (by assumption) ?_
              simp only [Act.put, List.setIfInBounds_toArray, List.set_cons_zero, List.set_cons_succ]
              refine wpAnyH_take (i := 1) (oi := ⟨_, _, _, _, _, _⟩) (v := ?_) rfl (by kernel_rfl) (by kernel_rfl) (by kernel_rfl) (fun _ _ _ h => h) (Or.inl ⟨by rfl, ?_⟩) (by assumption) ?_
              rotate_left
              · intro w hSw
                go_simp
                all_goals with_reducible rfl
              simp only [Act.put, List.setIfInBounds_toArray, List.set_cons_zero, List.set_cons_succ]
              refine wpAnyH_take (i := 3) (oi := ⟨_, _, _, _, _, _⟩) (v := ?_) rfl (by kernel_rfl) (by kernel_rfl) (by kernel_rfl) (fun _ _ _ h => h) (Or.inl ⟨by rfl, ?_⟩) (by assumption) ?_
              rotate_left
              · intro w hSw
                go_simp
                all_goals with_reducible rfl
              simp only [Act.put, List.setIfInBounds_toArray, List.set_cons_zero, List.set_cons_succ]
              refine wpAnyH_take (i := 4) (oi := ⟨_, _, _, _, _, _⟩) (v := ?_) rfl (by kernel_rfl) (by kernel_rfl) (by kernel_rfl) (fun _ _ _ h => h) (Or.inl ⟨by rfl, ?_⟩) (by assumption) ?_
              rotate_left
              · intro w hSw
                go_simp
                all_goals with_reducible rfl
              simp only [Act.put, List.setIfInBounds_toArray, List.set_cons_zero, List.set_cons_succ]
              refine wpAnyH_ready (rs := [2]) (by kernel_rfl) (by simp) ?_
              refine AllReadyH.cons (o := ⟨_, _, _, _, _, _⟩) rfl (fun K hK => ?_) AllReadyH.nil
              go_simp
              (go_at_call 9; refine (PA.out _).mono ?_; rintro e w' ⟨rfl, rfl⟩)
              go_wp2_with fail
              refine hK.out _ _ (by assumption) (fun hHeld => ?_)
              clear hK K
              try simp only [Act.put, List.setIfInBounds_toArray, List.set_cons_zero, List.set_cons_succ]
              refine wpAnyH_ready (rs := [5]) (by kernel_rfl) (by simp) ?_
              refine AllReadyH.cons (o := ⟨_, _, _, _, _, _⟩) rfl (fun K hK => ?_) AllReadyH.nil
              go_simp
              go_at_call 11
              refine (C4.out _ D3.out.drew).mono ?_
              rintro e w9 ⟨rfl, hb⟩
              have hS : Below w8.heap.size w8 w9 := (Below.refl w8.heap.size w8).drew.trans hb
              clear hb
              go_wp2_with fail
              refine hK.out _ _ hS (fun hHeld => ?_)
              clear hK K
              try simp only [Act.put, List.setIfInBounds_toArray, List.set_cons_zero, List.set_cons_succ]
              refine wpAnyH_take (i := 6) (oi := ⟨_, _, _, _, _, _⟩) (v := ?_) rfl (by kernel_rfl) (by kernel_rfl) (by kernel_rfl) (fun _ _ _ h => h) (Or.inl ⟨by rfl, ?_⟩) (by assumption) ?_
              rotate_left
              · intro w hSw
                go_simp
                all_goals with_reducible rfl
              simp only [Act.put, List.setIfInBounds_toArray, List.set_cons_zero, List.set_cons_succ]
              refine wpAnyH_take (i := 7) (oi := ⟨_, _, _, _, _, _⟩) (v := ?_) rfl (by kernel_rfl) (by kernel_rfl) (by kernel_rfl) (fun _ _ _ h => h) (Or.inl ⟨by rfl, ?_⟩) (by assumption) ?_
              rotate_left
              · intro w hSw
                go_simp
                all_goals with_reducible rfl
              simp only [Act.put, List.setIfInBounds_toArray, List.set_cons_zero, List.set_cons_succ]
              refine wpAnyH_take (i := 8) (oi := ⟨_, _, _, _, _, _⟩) (v := ?_) rfl (by kernel_rfl) (by kernel_rfl) (by kernel_rfl) (fun _ _ _ h => h) (Or.inl ⟨by rfl, ?_⟩) (by assumption) ?_
              rotate_left
              · intro w hSw
                go_simp
                all_goals with_reducible rfl
              simp only [Act.put, List.setIfInBounds_toArray, List.set_cons_zero, List.set_cons_succ]
              refine wpAnyH_take (i := 9) (oi := ⟨_, _, _, _, _, _⟩) (v := ?_) rfl (by kernel_rfl) (by kernel_rfl) (by kernel_rfl) (fun _ _ _ h => h) (Or.inl ⟨by rfl, ?_⟩) (by assumption) ?_
              rotate_left
              · intro w hSw
                go_simp
                all_goals with_reducible rfl
              simp only [Act.put, List.setIfInBounds_toArray, List.set_cons_zero, List.set_cons_succ]
              refine wpAnyH_take (i := 10) (oi := ⟨_, _, _, _, _, _⟩) (v := ?_) rfl (by kernel_rfl) (by kernel_rfl) (by kernel_rfl) (fun _ _ _ h => h) (Or.inl ⟨by rfl, ?_⟩) (by assumption) ?_
              rotate_left
              · intro w hSw
                go_simp
                all_goals with_reducible rfl
              simp only [Act.put, List.setIfInBounds_toArray, List.set_cons_zero, List.set_cons_succ]
              refine wpAnyH_done (by kernel_rfl) ?_ _
              have D4 := Lib.hid (D3.out.trans (hS.mono D3.out.size))
              have E4 := Lib.hid (E3.out.trans (hS.mono E3.out.size))
              clear hS hHeld HRW
              go_wp2_with fail
              go_roundw
              case rel => exact ⟨y + 1, by omega, by go_num, E4⟩
              case measure => simp [intOf]; omega
            · have hdy : decide ((y : Int) < 2) = false := by simp; omega
              go_wp2_with fail
              refine (PT.out _).mono ?_
              rintro e w' ⟨rfl, rfl⟩
              have hqs : ∀ (W' : World), ∀ x, x < 2 → ∃ q, (W'.alloc (.cells #[.int .i64 ter, .int .i64 t2] 3)).cell? ⟨W'.heap.size, x, none⟩ = some (.int .i64 q) := by
                intro W' x hx
                rw [cell_of_row _ _ x _ _ _ (heap_alloc_last W' _)]
                rcases (by omega : x = 0 ∨ x = 1) with rfl | rfl
                · exact ⟨ter, rfl⟩
                · exact ⟨t2, rfl⟩
              have HQS := Lib.hid hqs
              clear hqs
              go_wp2_with fail
              obtain ⟨nt, hnq⟩ : ∃ x, wr.heap.size = x := ⟨_, rfl⟩
              obtain ⟨W6, hWn⟩ : ∃ x, wr.alloc (.cells #[.int .i64 ter, .int .i64 t2] 3) = x := ⟨_, rfl⟩
              have HT : Hid (∀ x, x < 2 → ∃ q, W6.cell? ⟨nt, x, none⟩ = some (.int .i64 q)) := Lib.hid (by rw [← hWn, ← hnq]; exact HQS.out _)
              have hltnt : nt < W6.heap.size := by rw [← hWn, ← hnq]; simp
              have BBnt : Hid (Below W2.heap.size W2 W6) := Lib.hid (by rw [← hWn]; exact (B2y.out).alloc (B2y.out).size _)
              have HXm : Hid (Below W3.heap.size W3 W6) := Lib.hid (by rw [← hWn]; exact HXy.out.alloc HXy.out.size _)
              rw [hWn, hnq]
              clear hWn hnq HQS
              go_loopw [131] (fun iv wr => ∃ z : Nat, z ≤ 2 ∧ iv = .int .i64 z ∧ Hid (Below W6.heap.size W6 wr)) (fun i _ => 2 - (intOf i).toNat)
              case atStart => exact ⟨0, by omega, rfl, Lib.hid (Below.refl _ _)⟩
              case round =>
                obtain ⟨z, hz, rfl, HBz⟩ := hrel
                have B2z : Hid (Below W2.heap.size W2 wr) := Lib.hid (BBnt.out.trans (HBz.out.mono BBnt.out.size))
                have HXz : Hid (Below W3.heap.size W3 wr) := Lib.hid (HXm.out.trans (HBz.out.mono HXm.out.size))
                by_cases hz2 : z < 2
                · have hdz : decide ((z : Int) < 2) = true := by simp; omega
                  obtain ⟨cz, hcz⟩ := HT.out z hz2
                  have ccz : wr.cell? ⟨nt, z, none⟩ = some (.int .i64 cz) := (HBz.out.cell (p := ⟨nt, z, none⟩) hltnt).trans hcz
                  clear hcz
                  obtain ⟨rv, hr⟩ : ∃ z, revSpec R T cz cx = z := ⟨_, rfl⟩
                  obtain ⟨L, hl⟩ : ∃ z, subSpec S T cz cx = z := ⟨_, rfl⟩
                  have C1 := Lib.hid (fun Wc h => RA.out cz cx Wc h)
                  have C2 := Lib.hid (fun Wc h => RB.out cz cx Wc h)
                  have C3 := Lib.hid (fun Wc h => SA.out cz cx Wc h)
                  have C4 := Lib.hid (fun Wc h => SB.out cz cx Wc h)
                  have HLn := Lib.hid (HSL.out cz cx)
                  rw [hr] at C1 C2
                  rw [hl] at C3 C4 HLn
                  clear hr hl
                  go_wp2_with fail
                  have KB := (HKEY.out wr B2z.out).1
                  have HRW : Hid (∀ W', Below wr.heap.size wr W' → ∀ j v, B.cells[j]? = some v → W'.cell? ⟨nb0, 0 + j, none⟩ = some v) := Lib.hid fun W' h => row_cells ((h.block _ (Array.getElem?_eq_some_iff.1 KB).1).trans KB)
                  clear KB
                  refine wp_region_held_drew (S := fun W' => Below wr.heap.size wr W') (by kernel_rfl) (Below.refl _ _).drew (fun hHeld => ?_)
                  refine wpAnyH_take (i := 0) (oi := ⟨_, _, _, _, _, _⟩) rfl (by kernel_rfl) (by kernel_rfl) (by kernel_rfl) (fun _ _ _ h => h) (yieldsIf_load_at 26 (.tmp 16) nb0 0 B.cells _ HRW.out rfl (by rfl) rfl rfl rfl rfl) (by assumption) ?_
                  simp only [Act.put, List.setIfInBounds_toArray, List.set_cons_zero, List.set_cons_succ]
                  refine wpAnyH_take (i := 1) (oi := ⟨_, _, _, _, _, _⟩) (v := ?_) rfl (by kernel_rfl) (by kernel_rfl) (by kernel_rfl) (fun _ _ _ h => h) (Or.inl ⟨by rfl, ?_⟩) (by assumption) ?_
                  rotate_left
                  · intro w hSw
                    go_simp
                    all_goals with_reducible rfl
                  simp only [Act.put, List.setIfInBounds_toArray, List.set_cons_zero, List.set_cons_succ]
                  refine wpAnyH_take (i := 2) (oi := ⟨_, _, _, _, _, _⟩) (v := ?_) rfl (by kernel_rfl) (by kernel_rfl) (by kernel_rfl) (fun _ _ _ h => h) (Or.inl ⟨by rfl, ?_⟩) (by assumption) ?_
                  rotate_left
                  · intro w hSw
                    go_simp
                    all_goals with_reducible rfl
                  simp only [Act.put, List.setIfInBounds_toArray, List.set_cons_zero, List.set_cons_succ]
                  refine wpAnyH_take (i := 4) (oi := ⟨_, _, _, _, _, _⟩) rfl (by kernel_rfl) (by kernel_rfl) (by kernel_rfl) (fun _ _ _ h => h) (yieldsIf_load_at 26 (.tmp 16) nb0 0 B.cells _ HRW.out rfl (by rfl) rfl rfl rfl rfl) (by assumption) ?_
                  simp only [Act.put, List.setIfInBounds_toArray, List.set_cons_zero, List.set_cons_succ]
                  refine wpAnyH_take (i := 5) (oi := ⟨_, _, _, _, _, _⟩) (v := ?_) rfl (by kernel_rfl) (by kernel_rfl) (by kernel_rfl) (fun _ _ _ h => h) (Or.inl ⟨by rfl, ?_⟩) (by assumption) ?_
                  rotate_left
                  · intro w hSw
                    go_simp
                    all_goals with_reducible rfl
                  simp only [Act.put, List.setIfInBounds_toArray, List.set_cons_zero, List.set_cons_succ]
                  refine wpAnyH_take (i := 6) (oi := ⟨_, _, _, _, _, _⟩) (v := ?_) rfl (by kernel_rfl) (by kernel_rfl) (by kernel_rfl) (fun _ _ _ h => h) (Or.inl ⟨by rfl, ?_⟩) (by assumption) ?_
                  rotate_left
                  · intro w hSw
                    go_simp
                    all_goals with_reducible rfl
                  simp only [Act.put, List.setIfInBounds_toArray, List.set_cons_zero, List.set_cons_succ]
                  refine wpAnyH_ready (rs := [3]) (by kernel_rfl) (by simp) ?_
                  refine AllReadyH.cons (o := ⟨_, _, _, _, _, _⟩) rfl (fun K hK => ?_) AllReadyH.nil
                  go_simp
                  go_at_call 12
                  refine (C1.out _ B2z.out.drew).mono ?_
                  rintro e w6 ⟨rfl, hb⟩
                  have Sw6 : Below wr.heap.size wr w6 := (Below.refl wr.heap.size wr).drew.trans (hb.mono (Below.refl wr.heap.size wr).drew.size)
                  have Dw6 : Below W2.heap.size W2 w6 := B2z.out.drew.trans (hb.mono B2z.out.drew.size)
                  clear hb
                  go_wp2_with fail
                  refine hK.out _ _ Sw6 (fun hHeld => ?_)
                  clear hK K
                  try simp only [Act.put, List.setIfInBounds_toArray, List.set_cons_zero, List.set_cons_succ]
                  refine wpAnyH_ready (rs := [7]) (by kernel_rfl) (by simp) ?_
                  refine AllReadyH.cons (o := ⟨_, _, _, _, _, _⟩) rfl (fun K hK => ?_) AllReadyH.nil
                  go_simp
                  go_at_call 13
                  refine (C2.out _ Dw6).mono ?_
                  rintro e w7 ⟨rfl, hb⟩
                  have Sw7 : Below wr.heap.size wr w7 := Sw6.trans (hb.mono Sw6.size)
                  have Dw7 : Below W2.heap.size W2 w7 := Dw6.trans (hb.mono Dw6.size)
                  clear hb
                  go_wp2_with fail
                  refine hK.out _ _ Sw7 (fun hHeld => ?_)
                  clear hK K
                  try simp only [Act.put, List.setIfInBounds_toArray, List.set_cons_zero, List.set_cons_succ]
                  refine wpAnyH_take (i := 8) (oi := ⟨_, _, _, _, _, _⟩) (v := ?_) rfl (by kernel_rfl) (by kernel_rfl) (by kernel_rfl) (fun _ _ _ h => h) (Or.inl ⟨by rfl, ?_⟩) (by assumption) ?_
                  rotate_left
                  · intro w hSw
                    go_simp
                    all_goals with_reducible rfl
                  simp only [Act.put, List.setIfInBounds_toArray, List.set_cons_zero, List.set_cons_succ]
                  refine wpAnyH_take (i := 9) (oi := ⟨_, _, _, _, _, _⟩) (v := ?_) rfl (by kernel_rfl) (by kernel_rfl) (by kernel_rfl) (fun _ _ _ h => h) (Or.inl ⟨by rfl, ?_⟩) (by assumption) ?_
                  rotate_left
                  · intro w hSw
                    go_simp
                    all_goals with_reducible rfl
                  simp only [Act.put, List.setIfInBounds_toArray, List.set_cons_zero, List.set_cons_succ]
                  refine wpAnyH_take (i := 10) (oi := ⟨_, _, _, _, _, _⟩) rfl (by kernel_rfl) (by kernel_rfl) (by kernel_rfl) (fun _ _ _ h => h) (yieldsIf_load_at 26 (.tmp 16) nb0 0 B.cells _ HRW.out rfl (by rfl) rfl rfl rfl rfl) (by assumption) ?_
                  simp only [Act.put, List.setIfInBounds_toArray, List.set_cons_zero, List.set_cons_succ]
                  refine wpAnyH_take (i := 11) (oi := ⟨_, _, _, _, _, _⟩) (v := ?_) rfl (by kernel_rfl) (by kernel_rfl) (by kernel_rfl) (fun _ _ _ h => h) (Or.inl ⟨by rfl, ?_⟩) (by assumption) ?_
                  rotate_left
                  · intro w hSw
                    go_simp
                    all_goals with_reducible rfl
                  simp only [Act.put, List.setIfInBounds_toArray, List.set_cons_zero, List.set_cons_succ]
                  refine wpAnyH_take (i := 12) (oi := ⟨_, _, _, _, _, _⟩) (v := ?_) rfl (by kernel_rfl) (by kernel_rfl) (by kernel_rfl) (fun _ _ _ h => h) (Or.inl ⟨by rfl, ?_⟩) (by assumption) ?_
                  rotate_left
                  · intro w hSw
                    go_simp
                    all_goals with_reducible rfl
                  simp only [Act.put, List.setIfInBounds_toArray, List.set_cons_zero, List.set_cons_succ]
                  refine wpAnyH_take (i := 14) (oi := ⟨_, _, _, _, _, _⟩) rfl (by kernel_rfl) (by kernel_rfl) (by kernel_rfl) (fun _ _ _ h => h) (yieldsIf_load_at 26 (.tmp 16) nb0 0 B.cells _ HRW.out rfl (by rfl) rfl rfl rfl rfl) (by assumption) ?_
                  simp only [Act.put, List.setIfInBounds_toArray, List.set_cons_zero, List.set_cons_succ]
                  refine wpAnyH_take (i := 15) (oi := ⟨_, _, _, _, _, _⟩) (v := ?_) rfl (by kernel_rfl) (by kernel_rfl) (by kernel_rfl) (fun _ _ _ h => h) (Or.inl ⟨by rfl, ?_⟩) (by assumption) ?_
                  rotate_left
                  · intro w hSw
                    go_simp
                    all_goals with_reducible rfl
                  simp only [Act.put, List.setIfInBounds_toArray, List.set_cons_zero, List.set_cons_succ]
                  refine wpAnyH_take (i := 16) (oi := ⟨_, _, _, _, _, _⟩) (v := ?_) rfl (by kernel_rfl) (by kernel_rfl) (by kernel_rfl) (fun _ _ _ h => h) (Or.inl ⟨by rfl, ?_⟩) (by assumption) ?_
                  rotate_left
                  · intro w hSw
                    go_simp
                    all_goals with_reducible rfl
                  simp only [Act.put, List.setIfInBounds_toArray, List.set_cons_zero, List.set_cons_succ]
                  refine wpAnyH_ready (rs := [13]) (by kernel_rfl) (by simp) ?_
                  refine AllReadyH.cons (o := ⟨_, _, _, _, _, _⟩) rfl (fun K hK => ?_) AllReadyH.nil
                  go_simp
                  go_at_call 15
                  refine (C3.out _ Dw7).mono ?_
                  rintro e w8 ⟨la, rfl, howna, hb⟩
                  have Sw8 : Below wr.heap.size wr w8 := Sw7.trans (hb.mono Sw7.size)
                  have Dw8 : Below W2.heap.size W2 w8 := Dw7.trans (hb.mono Dw7.size)
                  have ha8 := SharesAt.of_own howna
                  clear howna
                  clear hb
                  go_wp2_with fail
                  refine hK.out _ _ Sw8 (fun hHeld => ?_)
                  clear hK K
                  try simp only [Act.put, List.setIfInBounds_toArray, List.set_cons_zero, List.set_cons_succ]
                  refine wpAnyH_ready (rs := [17]) (by kernel_rfl) (by simp) ?_
                  refine AllReadyH.cons (o := ⟨_, _, _, _, _, _⟩) rfl (fun K hK => ?_) AllReadyH.nil
                  go_simp
                  go_at_call 16
                  refine (C4.out _ Dw8).mono ?_
                  rintro e w9 ⟨lb, rfl, hownb, hb⟩
                  have Sw9 : Below wr.heap.size wr w9 := Sw8.trans (hb.mono Sw8.size)
                  have Dw9 : Below W2.heap.size W2 w9 := Dw8.trans (hb.mono Dw8.size)
                  have ha9 := ha8.below hb
                  have hb9 := SharesAt.of_own hownb
                  clear hownb ha8
                  clear hb
                  go_wp2_with fail
                  refine hK.out _ _ Sw9 (fun hHeld => ?_)
                  clear hK K
                  try simp only [Act.put, List.setIfInBounds_toArray, List.set_cons_zero, List.set_cons_succ]
                  refine wpAnyH_ready (rs := [18]) (by kernel_rfl) (by simp) ?_
                  refine AllReadyH.cons (o := ⟨_, _, _, _, _, _⟩) rfl (fun K hK => ?_) AllReadyH.nil
                  go_simp
                  go_at_call 14
                  refine (same_eq la lb L w9 HLn.out ha9 hb9).mono ?_
                  rintro e w10 ⟨rfl, hb⟩
                  have Sw10 : Below wr.heap.size wr w10 := Sw9.trans (hb.mono Sw9.size)
                  have Dw10 : Below W2.heap.size W2 w10 := Dw9.trans (hb.mono Dw9.size)
                  clear hb
                  go_wp2_with fail
                  refine hK.out _ _ Sw10 (fun hHeld => ?_)
                  clear hK K
                  try simp only [Act.put, List.setIfInBounds_toArray, List.set_cons_zero, List.set_cons_succ]
                  refine wpAnyH_take (i := 19) (oi := ⟨_, _, _, _, _, _⟩) (v := ?_) rfl (by kernel_rfl) (by kernel_rfl) (by kernel_rfl) (fun _ _ _ h => h) (Or.inl ⟨by rfl, ?_⟩) (by assumption) ?_
                  rotate_left
                  · intro w hSw
                    go_simp
                    all_goals with_reducible rfl
                  simp only [Act.put, List.setIfInBounds_toArray, List.set_cons_zero, List.set_cons_succ]
                  refine wpAnyH_take (i := 20) (oi := ⟨_, _, _, _, _, _⟩) (v := ?_) rfl (by kernel_rfl) (by kernel_rfl) (by kernel_rfl) (fun _ _ _ h => h) (Or.inl ⟨by rfl, ?_⟩) (by assumption) ?_
                  rotate_left
                  · intro w hSw
                    go_simp
                    all_goals with_reducible rfl
                  simp only [Act.put, List.setIfInBounds_toArray, List.set_cons_zero, List.set_cons_succ]
                  refine wpAnyH_done (by kernel_rfl) ?_ _
                  have EZ := Lib.hid (HBz.out.trans (Sw10.mono HBz.out.size))
                  clear Sw6 Sw7 Sw8 Sw9 Sw10 Dw6 Dw7 Dw8 Dw9 Dw10 hHeld ha9 hb9
                  go_wp2_with fail
                  go_roundw
                  case rel => exact ⟨z + 1, by omega, by go_num, EZ⟩
                  case measure => simp [intOf]; omega
                · have hdz : decide ((z : Int) < 2) = false := by simp; omega
                  go_wp2_with fail
                  go_roundw
                  case rel => exact ⟨x + 1, by omega, by go_num, HXz⟩
                  case measure => simp [intOf]; omega
        · have hdx : decide ((x : Int) < 2) = false := by simp; omega
          go_wp2_with fail
          go_roundw
          case rel => exact ⟨i + 1, by omega, by go_num, Lib.hid (B5.out.trans (B2x.out.mono B5.out.size))⟩
          case measure => simp [intOf]; omega
    · have hdi : decide ((i : Int) < 3) = false := by simp; omega
      go_wp2_with fail
      go_ret
      exact ⟨rfl, B4.out.trans (HBi.out.mono B4.out.size)⟩
end Go.Proofs.Ytdackmefkccipaa
