import Derived.Test.YtgjajhopjcdflaaGreatFkP
namespace Go.Proofs.YtgjajhopjcdflaaGreat
open Go Go.RowKit Go.Lib Go.Shelf Go.Maps

/-- a base whose lists read as facts -/
structure BaseR (w : World) (bs : Array Value) (Ls : Nat → List FactV) : Prop where
  size : bs.size = 10
  at_ : ∀ q, q < 10 → ∃ v, bs[q]? = some v ∧ FactsAt w v (Ls q)
theorem Lists.read {w : World} {base : Nat} {bs : Array Value} {fs : List FactV} (h : Lists w base bs fs) : BaseR w bs (fun q => fs.filter (kindF q)) :=
  ⟨h.size, fun q hq => by obtain ⟨v, h1, h2⟩ := h.own q hq; exact ⟨v, h1, h2.facts⟩⟩
theorem list10 {α : Type} (l : Array α) (h : l.size = 10) : ∃ a0 a1 a2 a3 a4 a5 a6 a7 a8 a9, l = #[a0, a1, a2, a3, a4, a5, a6, a7, a8, a9] := by
  obtain ⟨l⟩ := l
  match l, h with
  | [a0, a1, a2, a3, a4, a5, a6, a7, a8, a9], _ => exact ⟨a0, a1, a2, a3, a4, a5, a6, a7, a8, a9, rfl⟩
theorem arr_size : (Tryz.prog.info? 60).map (·.size) = some 10 := by kernel_rfl
set_option maxRecDepth 100000 in
set_option maxHeartbeats 4000000 in
theorem lists_10 (A0 A1 A2 A3 A4 A5 A6 A7 A8 A9 : Option Addr) (n0 c0 n1 c1 n2 c2 n3 c3 n4 c4 n5 c5 n6 c6 n7 c7 n8 c8 n9 c9 : Nat) (w : World) :
    Calls Tryz.prog 38 #[.agg #[.slice A0 n0 c0, .slice A1 n1 c1, .slice A2 n2 c2, .slice A3 n3 c3, .slice A4 n4 c4, .slice A5 n5 c5, .slice A6 n6 c6, .slice A7 n7 c7, .slice A8 n8 c8, .slice A9 n9 c9]] w fun e w' => e = .returned (.agg #[.slice A0 n0 c0, .slice A1 n1 c1, .slice A2 n2 c2, .slice A3 n3 c3, .slice A4 n4 c4, .slice A5 n5 c5, .slice A6 n6 c6, .slice A7 n7 c7, .slice A8 n8 c8, .slice A9 n9 c9]) ∧ Below w.heap.size w w' := by
  go_enter Tryz.func38, Tryz.ntmps38
  go_wp2_with fail
  have hrow : RowAt ((w.alloc (.cells #[.slice A0 n0 c0, .slice A1 n1 c1, .slice A2 n2 c2, .slice A3 n3 c3, .slice A4 n4 c4, .slice A5 n5 c5, .slice A6 n6 c6, .slice A7 n7 c7, .slice A8 n8 c8, .slice A9 n9 c9] 27)).alloc (.cells #[.slice A0 n0 c0, .slice A1 n1 c1, .slice A2 n2 c2, .slice A3 n3 c3, .slice A4 n4 c4, .slice A5 n5 c5, .slice A6 n6 c6, .slice A7 n7 c7, .slice A8 n8 c8, .slice A9 n9 c9] 60)) (w.heap.size + 1) 60 #[.slice A0 n0 c0, .slice A1 n1 c1, .slice A2 n2 c2, .slice A3 n3 c3, .slice A4 n4 c4, .slice A5 n5 c5, .slice A6 n6 c6, .slice A7 n7 c7, .slice A8 n8 c8, .slice A9 n9 c9] := by
    have h := RowAt.new (w.alloc (.cells #[.slice A0 n0 c0, .slice A1 n1 c1, .slice A2 n2 c2, .slice A3 n3 c3, .slice A4 n4 c4, .slice A5 n5 c5, .slice A6 n6 c6, .slice A7 n7 c7, .slice A8 n8 c8, .slice A9 n9 c9] 27)) 60 #[.slice A0 n0 c0, .slice A1 n1 c1, .slice A2 n2 c2, .slice A3 n3 c3, .slice A4 n4 c4, .slice A5 n5 c5, .slice A6 n6 c6, .slice A7 n7 c7, .slice A8 n8 c8, .slice A9 n9 c9]
    simpa using h
  have hl := run_loadVar_at (P := Tryz.prog) _ (w.heap.size + 1) 0 60 #[.slice A0 n0 c0, .slice A1 n1 c1, .slice A2 n2 c2, .slice A3 n3 c3, .slice A4 n4 c4, .slice A5 n5 c5, .slice A6 n6 c6, .slice A7 n7 c7, .slice A8 n8 c8, .slice A9 n9 c9] _ (fun j2 x hx => by rw [Nat.zero_add, hrow.cell]; exact hx) Tryz.underlying60 rfl arr_size
  exact bodyPost_ret (v := .agg #[.slice A0 n0 c0, .slice A1 n1 c1, .slice A2 n2 c2, .slice A3 n3 c3, .slice A4 n4 c4, .slice A5 n5 c5, .slice A6 n6 c6, .slice A7 n7 c7, .slice A8 n8 c8, .slice A9 n9 c9]) (results_cell1 (p := 2) rfl _ _ _ _ rfl hl) rfl ⟨rfl, ((Below.refl w.heap.size w).alloc (Nat.le_refl _) _).alloc (by simp) _⟩
theorem BaseR.slices {w : World} {bs : Array Value} {Ls : Nat → List FactV} (h : BaseR w bs Ls) : ∃ A0 n0 c0 A1 n1 c1 A2 n2 c2 A3 n3 c3 A4 n4 c4 A5 n5 c5 A6 n6 c6 A7 n7 c7 A8 n8 c8 A9 n9 c9, bs = #[.slice A0 n0 c0, .slice A1 n1 c1, .slice A2 n2 c2, .slice A3 n3 c3, .slice A4 n4 c4, .slice A5 n5 c5, .slice A6 n6 c6, .slice A7 n7 c7, .slice A8 n8 c8, .slice A9 n9 c9] := by
  obtain ⟨a0, a1, a2, a3, a4, a5, a6, a7, a8, a9, rfl⟩ := list10 bs h.size
  have hs : ∀ q v, (#[a0, a1, a2, a3, a4, a5, a6, a7, a8, a9] : Array Value)[q]? = some v → q < 10 → ∃ A n c, v = .slice A n c := by
    intro q v hv hq
    obtain ⟨u, h1, h2⟩ := h.at_ q hq
    rw [hv] at h1
    cases h1
    obtain ⟨A, c, rfl⟩ := h2.sl
    exact ⟨A, _, c, rfl⟩
  obtain ⟨A0, n0, c0, rfl⟩ := hs 0 a0 rfl (by omega)
  obtain ⟨A1, n1, c1, rfl⟩ := hs 1 a1 rfl (by omega)
  obtain ⟨A2, n2, c2, rfl⟩ := hs 2 a2 rfl (by omega)
  obtain ⟨A3, n3, c3, rfl⟩ := hs 3 a3 rfl (by omega)
  obtain ⟨A4, n4, c4, rfl⟩ := hs 4 a4 rfl (by omega)
  obtain ⟨A5, n5, c5, rfl⟩ := hs 5 a5 rfl (by omega)
  obtain ⟨A6, n6, c6, rfl⟩ := hs 6 a6 rfl (by omega)
  obtain ⟨A7, n7, c7, rfl⟩ := hs 7 a7 rfl (by omega)
  obtain ⟨A8, n8, c8, rfl⟩ := hs 8 a8 rfl (by omega)
  obtain ⟨A9, n9, c9, rfl⟩ := hs 9 a9 rfl (by omega)
  exact ⟨A0, n0, c0, A1, n1, c1, A2, n2, c2, A3, n3, c3, A4, n4, c4, A5, n5, c5, A6, n6, c6, A7, n7, c7, A8, n8, c8, A9, n9, c9, rfl⟩
theorem lists_any (bs : Array Value) (Ls : Nat → List FactV) (w : World) (h : BaseR w bs Ls) :
    Calls Tryz.prog 38 #[.agg bs] w fun e w' => e = .returned (.agg bs) ∧ Below w.heap.size w w' := by
  obtain ⟨A0, n0, c0, A1, n1, c1, A2, n2, c2, A3, n3, c3, A4, n4, c4, A5, n5, c5, A6, n6, c6, A7, n7, c7, A8, n8, c8, A9, n9, c9, rfl⟩ := h.slices
  exact lists_10 A0 A1 A2 A3 A4 A5 A6 A7 A8 A9 n0 c0 n1 c1 n2 c2 n3 c3 n4 c4 n5 c5 n6 c6 n7 c7 n8 c8 n9 c9 w
end Go.Proofs.YtgjajhopjcdflaaGreat
namespace Go.Proofs.YtgjajhopjcdflaaGreat
open Go Go.RowKit Go.Lib Go.Shelf Go.Maps

def sameL : List FactV → List FactV → Bool
  | [], [] => true
  | a :: l, b :: m => sameF a b && sameL l m
  | _, _ => false
theorem sameL_len : ∀ (l m : List FactV), sameL l m = true → l.length = m.length
  | [], [], _ => rfl
  | a :: l, b :: m, h => by
    simp only [sameL, Bool.and_eq_true] at h
    simp [sameL_len l m h.2]
  | [], b :: m, h => by simp [sameL] at h
  | a :: l, [], h => by simp [sameL] at h
theorem sameL_ne {l m : List FactV} (h : l.length ≠ m.length) : sameL l m = false := by
  cases he : sameL l m
  · rfl
  · exact absurd (sameL_len l m he) h
theorem drop_at {l : List FactV} {j : Nat} {f : FactV} (h : l[j]? = some f) : l.drop j = f :: l.drop (j + 1) := by
  have hj := (List.getElem?_eq_some_iff.1 h).1
  rw [List.drop_eq_getElem_cons hj, (List.getElem?_eq_some_iff.1 h).2]
/-- a fact of a list in memory -/
theorem FactsAt.get {w : World} {A : Option Addr} {n c : Nat} {l : List FactV} (h : FactsAt w (.slice A n c) l) {j : Nat} {f : FactV} (hf : l[j]? = some f) :
    ∃ b o, A = some ⟨b, o, none⟩ ∧ b < w.heap.size ∧ ∀ j2 x, f.cells[j2]? = some x → w.cell? ⟨b, o + j * 18 + j2, none⟩ = some x := by
  rcases h with ⟨h0, _⟩ | ⟨b, o, c', he, hlt, hc⟩
  · rw [h0] at hf; simp at hf
  · cases he
    exact ⟨b, o, rfl, hlt, hc j f hf⟩
theorem FactsAt.more {w w' : World} {v : Value} {fs : List FactV} (h : FactsAt w v fs) (hb : Below w.heap.size w w') : FactsAt w' v fs := by
  rcases h with h | ⟨b, o, c, rfl, hlt, h⟩
  · exact .inl h
  · exact .inr ⟨b, o, c, rfl, Nat.lt_of_lt_of_le hlt hb.size, fun i f hf j x hx => (hb.cell (p := ⟨b, o + i * 18 + j, none⟩) hlt).trans (h i f hf j x hx)⟩
abbrev z18c : Array Value := #[.int .i64 0, .int .i64 0, .int .i64 0, .int .i64 0, .int .i64 0, .int .i64 0, .int .i64 0, .int .i64 0, .int .i64 0, .int .i64 0, .int .i64 0, .int .i64 0, .int .i64 0, .int .i64 0, .int .i64 0, .int .i64 0, .int .i64 0, .string ⟨#[]⟩]
set_option maxRecDepth 100000 in
set_option maxHeartbeats 4000000 in
theorem equalFunc_any (la lb : List FactV) (va vb : Value) (w : World) (hn : la.length ≤ 1000000) (hm : lb.length ≤ 1000000) (ha : FactsAt w va la) (hb : FactsAt w vb lb) :
    Calls Tryz.prog 39 #[va, vb, .func (.func 40) #[] #[]] w fun e w' => e = .returned (.bool (sameL la lb)) ∧ Below w.heap.size w w' := by
  have HA := Lib.hid ha
  have HB := Lib.hid hb
  obtain ⟨A, ca, rfl⟩ := ha.sl
  obtain ⟨B, cb, rfl⟩ := hb.sl
  obtain ⟨n, hna⟩ : ∃ z, la.length = z := ⟨_, rfl⟩
  obtain ⟨m, hmb⟩ : ∃ z, lb.length = z := ⟨_, rfl⟩
  rw [hna] at HA hn ⊢
  rw [hmb] at HB hm ⊢
  have HN := Lib.hid (And.intro hna hmb)
  clear ha hb hna hmb
  by_cases hnm : n = m
  · subst hnm
    have hd : ((n : Int) != (n : Int)) = false := by simp
    go_enter Tryz.func39, Tryz.ntmps39
    go_wp2_with fail
    go_loopw [17] (fun v17 wr => ∃ j : Nat, v17 = .int .i64 j ∧ j ≤ n ∧ Hid (sameL la lb = sameL (la.drop j) (lb.drop j) ∧ Below w.heap.size w wr)) (fun v17 _ => n - (RowKit.intOf v17).toNat)
    case atStart => exact ⟨0, rfl, by omega, Lib.hid ⟨by simp, Below.refl _ _⟩⟩
    case round =>
      obtain ⟨j, rfl, hj, HS⟩ := hrel
      by_cases hj2 : j < n
      · have hjd : decide (j < n) = true := by simpa using hj2
        obtain ⟨f, hf⟩ : ∃ x, la[j]? = some x := ⟨_, List.getElem?_eq_getElem (by have := HN.out.1; omega)⟩
        obtain ⟨g, hg⟩ : ∃ x, lb[j]? = some x := ⟨_, List.getElem?_eq_getElem (by have := HN.out.2; omega)⟩
        obtain ⟨b, o, rfl, hlt, hcell⟩ := (HA.out.more HS.out.2).get hf
        obtain ⟨b2, o2, rfl, hlt2, hcell2⟩ := (HB.out.more HS.out.2).get hg
        have HFG := Lib.hid (And.intro hf hg)
        have HSM := Lib.hid (fun W => fsame_any f g W)
        have HCF : Hid ((Tryz.prog.info? 34).map (·.size) = some f.cells.size ∧ f.cells.all (·.oneCell') = true ∧ z18c.size = f.cells.size) := Lib.hid ⟨fact_size, f.cells_one, rfl⟩
        have HCG : Hid ((Tryz.prog.info? 34).map (·.size) = some g.cells.size ∧ g.cells.all (·.oneCell') = true ∧ z18c.size = g.cells.size) := Lib.hid ⟨fact_size, g.cells_one, rfl⟩
        obtain ⟨cf, hcf⟩ : ∃ z, f.cells = z := ⟨_, rfl⟩
        obtain ⟨cg, hcg⟩ : ∃ z, g.cells = z := ⟨_, rfl⟩
        rw [hcf] at HSM HCF hcell
        rw [hcg] at HSM HCG hcell2
        have HC1 := Lib.hid hcell
        obtain ⟨N, hN⟩ : ∃ z, wr.heap.size = z := ⟨_, rfl⟩
        have HNN := Lib.hid hN
        have HC2 : Hid (∀ j2 x, cg[j2]? = some x → (wr.alloc (.cells cf 34)).cell? ⟨b2, o2 + j * 18 + j2, none⟩ = some x) := Lib.hid (fun j2 x hx => (((Below.refl wr.heap.size wr).alloc (Nat.le_refl _) _).cell (p := ⟨b2, o2 + j * 18 + j2, none⟩) hlt2).trans (hcell2 j2 x hx))
        have hr1 : RowAt ((wr.alloc (.cells cf 34)).alloc (.cells cg 34)) N 34 cf := by rw [← hN]; exact (RowAt.new _ _ _).alloc _
        have hr2 : RowAt ((wr.alloc (.cells cf 34)).alloc (.cells cg 34)) (N + 1) 34 cg := by
          have h := RowAt.new (wr.alloc (.cells cf 34)) 34 cg
          rw [← hN]
          simpa using h
        have HL1 : Hid (∀ j2 x, cf[j2]? = some x → ((wr.alloc (.cells cf 34)).alloc (.cells cg 34)).cell? ⟨N, 0 + j2, none⟩ = some x) := Lib.hid (fun j2 x hx => by rw [Nat.zero_add, hr1.cell]; exact hx)
        have HL2 : Hid (∀ j2 x, cg[j2]? = some x → ((wr.alloc (.cells cf 34)).alloc (.cells cg 34)).cell? ⟨N + 1, 0 + j2, none⟩ = some x) := Lib.hid (fun j2 x hx => by rw [Nat.zero_add, hr2.cell]; exact hx)
        have HN2 : Hid ((wr.alloc (.cells cf 34)).heap.size = N + 1) := Lib.hid (by simp [hN])
        have HBX : Hid (Below wr.heap.size wr ((wr.alloc (.cells cf 34)).alloc (.cells cg 34))) := Lib.hid (((Below.refl wr.heap.size wr).alloc (Nat.le_refl _) _).alloc (by simp) _)
        clear hf hg hcf hcg hcell hcell2 hlt hlt2 hr1 hr2
        go_wp2_with (first | ((with_reducible refine load_at (o := ⟨some 21, _, _, _, _, _⟩) (.tmp 20) b (o + j * 18) cf HC1.out HCF.out.1 ?_ ?_ ?_ ?_); rfl; rfl; rfl) | ((with_reducible refine store_cs (o := ⟨none, _, _, _, _, _⟩) (.tmp 8) (.tmp 21) N HNN.out _ cf HCF.out.1 HCF.out.2.1 HCF.out.2.2 ?_ ?_ ?_ ?_ ?_); rfl; rfl; rfl; rfl) | ((with_reducible refine load_at (o := ⟨some 25, _, _, _, _, _⟩) (.tmp 24) b2 (o2 + j * 18) cg HC2.out HCG.out.1 ?_ ?_ ?_ ?_); rfl; rfl; rfl) | ((with_reducible refine store_cs (o := ⟨none, _, _, _, _, _⟩) (.tmp 9) (.tmp 25) (N + 1) HN2.out _ cg HCG.out.1 HCG.out.2.1 HCG.out.2.2 ?_ ?_ ?_ ?_ ?_); rfl; rfl; rfl; rfl) | ((with_reducible refine load_cs (o := ⟨some 27, _, _, _, _, _⟩) (.tmp 8) N cf HL1.out HCF.out.1 ?_ ?_ ?_ ?_); rfl; rfl; rfl) | ((with_reducible refine load_cs (o := ⟨some 28, _, _, _, _, _⟩) (.tmp 9) (N + 1) cg HL2.out HCG.out.1 ?_ ?_ ?_ ?_); rfl; rfl; rfl))
        refine (HSM.out _).mono ?_
        rintro e W5 ⟨rfl, hb5⟩
        have HB5 : Hid (Below w.heap.size w W5) := Lib.hid (HS.out.2.trans ((HBX.out.trans (hb5.mono HBX.out.size)).mono HS.out.2.size))
        clear hb5 hN
        cases hs : sameF f g
        · go_wp2_with fail
          go_ret
          refine ⟨?_, HB5.out⟩
          rw [HS.out.1, drop_at HFG.out.1, drop_at HFG.out.2]
          simp [sameL, hs]
        · have HSS := Lib.hid hs
          clear hs
          go_wp2_with fail
          go_roundw
          case rel =>
            refine ⟨j + 1, by go_num, by omega, Lib.hid ⟨?_, HB5.out⟩⟩
            rw [HS.out.1, drop_at HFG.out.1, drop_at HFG.out.2]
            simp [sameL, HSS.out]
          case measure => simp [RowKit.intOf]; omega
      · obtain rfl : j = n := by omega
        have hjd : decide (j < j) = false := by simp
        go_wp2_with fail
        go_ret
        refine ⟨?_, HS.out.2⟩
        rw [HS.out.1, List.drop_eq_nil_of_le (by have := HN.out.1; omega), List.drop_eq_nil_of_le (by have := HN.out.2; omega)]
        rfl
  · have hd : ((n : Int) != (m : Int)) = true := by simp; omega
    have hd2 : decide (n = m) = false := by simpa using hnm
    have HNM := Lib.hid hnm
    clear hnm
    go_enter Tryz.func39, Tryz.ntmps39
    go_wp2_with fail
    go_ret
    exact ⟨by rw [sameL_ne (by rw [HN.out.1, HN.out.2]; exact HNM.out)]; rfl, Below.refl _ _⟩
end Go.Proofs.YtgjajhopjcdflaaGreat
namespace Go.Proofs.YtgjajhopjcdflaaGreat
open Go Go.RowKit Go.Lib Go.Shelf Go.Maps

def sameBs (LA LB : Nat → List FactV) : Bool := (List.range 10).all fun q => sameL (LA q) (LB q)
theorem index_base (bs : Array Value) (j : Nat) (v : Value) (hj : j < 10) (hv : bs[j]? = some v) (W : World) : (Instr.index 60 (.agg bs) (.int .i64 (j : Int))).run Tryz.prog W = .ok v W := by
  have hz : (sizeOf 23).run Tryz.prog W = .ok 1 W := Tryz.sizeOf23 W
  have hp : (part 23 bs j).run Tryz.prog W = .ok v W := by
    have ha : (isAgg 23).run Tryz.prog W = .ok false W := Tryz.isAgg23 W
    simp [part, ha, hv, Result.andThen]
  simp [Instr.index, asIntOf, run_underlying Tryz.underlying60, hz, Result.andThen, hp, show ¬ 10 ≤ j from by omega]
theorem BaseR.one {w : World} {bs : Array Value} {Ls : Nat → List FactV} (h : BaseR w bs Ls) : bs.all (·.oneCell') = true := by
  rw [Array.all_eq_true_iff_forall_mem]
  intro v hv
  obtain ⟨q, hq⟩ := Array.getElem?_of_mem hv
  have hlt := (Array.getElem?_eq_some_iff.1 hq).1
  rw [h.size] at hlt
  obtain ⟨u, h1, h2⟩ := h.at_ q hlt
  rw [hq] at h1
  cases h1
  obtain ⟨A, c, rfl⟩ := h2.sl
  rfl
theorem BaseR.more {w w' : World} {bs : Array Value} {Ls : Nat → List FactV} (h : BaseR w bs Ls) (hb : Below w.heap.size w w') : BaseR w' bs Ls :=
  ⟨h.size, fun q hq => by obtain ⟨v, h1, h2⟩ := h.at_ q hq; exact ⟨v, h1, h2.more hb⟩⟩
theorem store_arr {ops : Array Oper} {rest : List Oper} {o : Oper} {a : Act} {w : World} {Q : Exit → Act → World → Prop} (x y : Operand) (N : Nat) (hN : w.heap.size = N) (c cs : Array Value) (hi : (Tryz.prog.info? 60).map (·.size) = some cs.size) (hone : cs.all (·.oneCell') = true)
    (hs : c.size = cs.size) (hgd : o.guard = none) (ho : o.op = .store 60 x y) (hx : a.eval x = .pointer (some ⟨N, 0, none⟩)) (hy : a.eval y = .agg cs)
    (h : wpList Tryz.prog ops Q rest (a.put o.dst undef) (w.alloc (.cells cs 60))) : wpList Tryz.prog ops Q (o :: rest) a (w.alloc (.cells c 60)) := by
  subst hN
  exact wpList_store_new hgd _ x y ho hx c cs hy hi hs hone h
set_option maxRecDepth 100000 in
set_option maxHeartbeats 4000000 in
theorem bsame_any (ba bb : Array Value) (LA LB : Nat → List FactV) (w : World) (ha : BaseR w ba LA) (hb : BaseR w bb LB) (hna : ∀ q, (LA q).length ≤ 1000000) (hnb : ∀ q, (LB q).length ≤ 1000000) :
    Calls Tryz.prog 10 #[.agg ba, .agg bb] w fun e w' => e = .returned (.bool (sameBs LA LB)) ∧ Below w.heap.size w w' := by
  have HAB := Lib.hid (And.intro ha hb)
  have HNN := Lib.hid (And.intro hna hnb)
  obtain ⟨W1, hW1⟩ : ∃ z, (w.alloc (.cells ba 27)).alloc (.cells bb 27) = z := ⟨_, rfl⟩
  have r1 : RowAt W1 w.heap.size 27 ba := by rw [← hW1]; exact (RowAt.new w _ _).alloc _
  have r2 : RowAt W1 (w.heap.size + 1) 27 bb := by
    rw [← hW1]
    have h := RowAt.new (w.alloc (.cells ba 27)) 27 bb
    simpa using h
  have hbw : Below w.heap.size w W1 := by rw [← hW1]; exact ((Below.refl _ _).alloc (Nat.le_refl _) _).alloc (by simp) _
  have HR := Lib.hid (And.intro r1 (And.intro r2 hbw))
  have HSA : Hid ((Tryz.prog.info? 27).map (·.size) = some ba.size) := Lib.hid (by rw [ha.size]; exact base_size)
  have HSB : Hid ((Tryz.prog.info? 27).map (·.size) = some bb.size) := Lib.hid (by rw [hb.size]; exact base_size)
  have HLB : Hid (∀ j x, bb[j]? = some x → W1.cell? ⟨w.heap.size + 1, 0 + j, none⟩ = some x) := Lib.hid (fun j x hx => by rw [Nat.zero_add, r2.cell]; exact hx)
  have HSR : Hid ((Tryz.prog.info? 60).map (·.size) = some bb.size ∧ bb.all (·.oneCell') = true ∧ (#[Value.slice none 0 0, .slice none 0 0, .slice none 0 0, .slice none 0 0, .slice none 0 0, .slice none 0 0, .slice none 0 0, .slice none 0 0, .slice none 0 0, .slice none 0 0] : Array Value).size = bb.size) := Lib.hid ⟨by rw [hb.size]; exact arr_size, hb.one, by rw [hb.size]; rfl⟩
  have HLL := Lib.hid (lists_any bb LB W1 (hb.more hbw))
  clear ha hb hna hnb r1 r2 hbw
  go_enter Tryz.func10, Tryz.ntmps10
  go_wp2_with (first | ((with_reducible refine load_base (o := ⟨some 8, _, _, _, _, _⟩) (.tmp 3) (w.heap.size + 1) bb HLB.out HSB.out ?_ ?_ ?_ ?_); rfl; rfl; rfl))
  refine HLL.out.mono ?_
  rintro e W2 ⟨rfl, hb2⟩
  clear hW1
  obtain ⟨N, hN⟩ : ∃ z, W2.heap.size = z := ⟨_, rfl⟩
  have HN := Lib.hid hN
  have HX2 : Hid (Below W1.heap.size W1 (W2.alloc (.cells bb 60))) := Lib.hid (hb2.alloc hb2.size _)
  have HRN : Hid (RowAt (W2.alloc (.cells bb 60)) N 60 bb) := Lib.hid (by rw [← hN]; exact RowAt.new _ _ _)
  have HLA : Hid (∀ j x, ba[j]? = some x → (W2.alloc (.cells bb 60)).cell? ⟨w.heap.size, 0 + j, none⟩ = some x) := Lib.hid (fun j x hx => by rw [Nat.zero_add, (HR.out.1.below HX2.out HR.out.1.lt).cell]; exact hx)
  have HL2 := Lib.hid (lists_any ba LA (W2.alloc (.cells bb 60)) (HAB.out.1.more (HR.out.2.2.trans (HX2.out.mono HR.out.2.2.size))))
  clear hb2
  go_wp2_with (first | ((with_reducible refine store_arr (o := ⟨none, _, _, _, _, _⟩) (.tmp 5) (.tmp 9) N HN.out _ bb HSR.out.1 HSR.out.2.1 HSR.out.2.2 ?_ ?_ ?_ ?_ ?_); rfl; rfl; rfl; rfl) | ((with_reducible refine load_base (o := ⟨some 10, _, _, _, _, _⟩) (.tmp 2) w.heap.size ba HLA.out HSA.out ?_ ?_ ?_ ?_); rfl; rfl; rfl))
  refine HL2.out.mono ?_
  rintro e W3 ⟨rfl, hb3⟩
  have H3 : Hid (Below w.heap.size w W3 ∧ RowAt W3 N 60 bb) := Lib.hid ⟨HR.out.2.2.trans ((HX2.out.trans (hb3.mono HX2.out.size)).mono HR.out.2.2.size), HRN.out.below hb3 HRN.out.lt⟩
  clear hb3 hN
  go_wp2_with fail
  go_loopw [12] (fun v12 wr => ∃ j : Nat, v12 = .int .i64 j ∧ j ≤ 10 ∧ Hid ((List.range j).all (fun q => sameL (LA q) (LB q)) = true ∧ Below w.heap.size w wr ∧ RowAt wr N 60 bb)) (fun v12 _ => 10 - (RowKit.intOf v12).toNat)
  case atStart => exact ⟨0, rfl, by omega, Lib.hid ⟨by simp, H3.out.1, H3.out.2⟩⟩
  case round =>
    obtain ⟨j, rfl, hj, HS⟩ := hrel
    by_cases hj2 : j < 10
    · have hjd : decide ((j : Int) < 10) = true := by simp; omega
      obtain ⟨va, hva, hfa⟩ := HAB.out.1.at_ j hj2
      obtain ⟨vb, hvb, hfb⟩ := HAB.out.2.at_ j hj2
      have hix := index_base ba j va hj2 hva
      have hc : wr.cell? ⟨N, j, none⟩ = some vb := by rw [HS.out.2.2.cell]; exact hvb
      have HE := Lib.hid (equalFunc_any (LA j) (LB j) va vb wr (HNN.out.1 j) (HNN.out.2 j) (hfa.more HS.out.2.1) (hfb.more HS.out.2.1))
      have HJ := Lib.hid hj2
      clear hva hfa hvb hfb
      go_wp2_with fail
      refine HE.out.mono ?_
      rintro e W5 ⟨rfl, hb5⟩
      have HB5 := Lib.hid hb5
      clear hb5 hix hc
      cases hs : sameL (LA j) (LB j)
      · go_wp2_with fail
        go_ret
        refine ⟨?_, HS.out.2.1.trans (HB5.out.mono HS.out.2.1.size)⟩
        have : sameBs LA LB = false := by
          unfold sameBs
          rw [List.all_eq_false]
          exact ⟨j, List.mem_range.2 HJ.out, by rw [hs]; simp⟩
        rw [this]
        rfl
      · have HSS := Lib.hid hs
        clear hs
        go_wp2_with fail
        go_roundw
        case rel =>
          refine ⟨j + 1, by go_num, by omega, Lib.hid ⟨?_, HS.out.2.1.trans (HB5.out.mono HS.out.2.1.size), HS.out.2.2.below HB5.out HS.out.2.2.lt⟩⟩
          rw [List.range_succ, List.all_append, HS.out.1]
          simp [HSS.out]
        case measure => simp [RowKit.intOf]; omega
    · obtain rfl : j = 10 := by omega
      go_wp2_with fail
      go_ret
      refine ⟨?_, HS.out.2.1⟩
      have : sameBs LA LB = true := HS.out.1
      rw [this]
      rfl
end Go.Proofs.YtgjajhopjcdflaaGreat
