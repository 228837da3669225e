/- Package base: inEffect, and the look-ups over it. -/
import Derived.Test.YtgjajhopjcdflaaGreatFkX
namespace Go.Proofs.YtgjajhopjcdflaaGreat
open Go Go.RowKit Go.Lib Go.Shelf Go.Maps

def stepE (is : FactV → Bool) (p : Int) (out : Option FactV) (f : FactV) : Option FactV :=
  if decide (f.n 11 ≤ p) && (is f && (match out with | none => true | some g => decide (g.n 11 < f.n 11))) then some f else out
def inEff (is : FactV → Bool) (p : Int) (l : List FactV) : Option FactV := l.foldl (stepE is p) none
theorem inEff_take (is : FactV → Bool) (p : Int) {l : List FactV} {j : Nat} {f : FactV} (h : l[j]? = some f) : inEff is p (l.take (j + 1)) = stepE is p (inEff is p (l.take j)) f := by
  rw [take_next h]
  simp [inEff]
theorem store_fact_row {ops : Array Oper} {rest : List Oper} {o : Oper} {a : Act} {w : World} {Q : Exit → Act → World → Prop} (x y : Operand) (g : Nat) (cs old : Array Value) (hg : RowAt w g 34 old) (hi : (Tryz.prog.info? 34).map (·.size) = some cs.size)
    (hold : old.size = cs.size) (h1 : cs.all (·.oneCell') = true) (hgd : o.guard = none) (ho : o.op = .store 34 x y) (hx : a.eval x = .pointer (some ⟨g, 0, none⟩)) (hy : a.eval y = .agg cs)
    (h : wpList Tryz.prog ops Q rest (a.put o.dst undef) (w.setRow g cs)) : wpList Tryz.prog ops Q (o :: rest) a w :=
  wpList_plain hgd fun _ hK => wp_store_row _ x y ho g cs hx hy _ old hg hi hold h1 (hK _ _ h)
theorem results_cell_tmp2 {P : Program} {fn : Func} {p q : Tmp} {ty : TypeId} (h : fn.results = #[.cell p ty, .tmp q]) (tmps : Array Value) (w : World) (ad : Addr) (v : Value) (hp : tmps.getD p undef = .pointer (some ad)) (hl : (loadVar ty ad).run P w = .ok v w) :
    (results fn tmps).run P w = .ok (.tuple #[v, tmps.getD q undef]) w := by
  have hp' : tmps[p]?.getD undef = .pointer (some ad) := by simpa using hp
  simp [results, h, hp', asAddr, hl]
theorem fact_load (W : World) (b : Nat) (f : FactV) (h : RowAt W b 34 f.cells) : (loadVar 34 ⟨b, 0, none⟩).run Tryz.prog W = .ok (.agg f.cells) W :=
  run_loadVar_at (P := Tryz.prog) W b 0 34 f.cells _ (fun j x hx => by rw [Nat.zero_add, h.cell]; exact hx) Tryz.underlying34 rfl fact_size
set_option maxRecDepth 100000 in
set_option maxHeartbeats 8000000 in
theorem inEffect_0 (g : FuncId) (is : FactV → Bool) (p : Int) (v : Value) (fs : List FactV) (w : World) (hn : fs.length ≤ 1000000) (I : World → Prop) (hI : ∀ W, Below w.heap.size w W → I W)
    (eg : ∀ args w, (callFunc g args).run Tryz.prog w = .ok (.enter g args) w) (hv : FactsAt w v fs)
    (hg : ∀ f W, I W → Calls Tryz.prog g #[.agg f.cells] W fun e w' => e = .returned (.bool (is f)) ∧ Below W.heap.size W w') :
    Calls Tryz.prog 41 #[v, .int .i64 p, .func (.func g) #[] #[]] w fun e w' => e = .returned (.tuple #[.agg ((inEff is p fs).getD zf).cells, .bool (inEff is p fs).isSome]) ∧ Below w.heap.size w w' := by
  have HV := Lib.hid hv
  have HG := Lib.hid (And.intro hI hg)
  obtain ⟨A, c, rfl⟩ := hv.sl
  obtain ⟨m, hm⟩ : ∃ z, fs.length = z := ⟨_, rfl⟩
  rw [hm] at HV hn ⊢
  have HM := Lib.hid hm
  have h0 : RowAt (((w.alloc (.cells #[.int .i64 0, .int .i64 0, .int .i64 0, .int .i64 0, .int .i64 0, .int .i64 0, .int .i64 0, .int .i64 0, .int .i64 0, .int .i64 0, .int .i64 0, .int .i64 0, .int .i64 0, .int .i64 0, .int .i64 0, .int .i64 0, .int .i64 0, .string ⟨#[]⟩] 34)).alloc (.cells #[.int .i64 0, .int .i64 0, .int .i64 0, .int .i64 0, .int .i64 0, .int .i64 0, .int .i64 0, .int .i64 0, .int .i64 0, .int .i64 0, .int .i64 0, .int .i64 0, .int .i64 0, .int .i64 0, .int .i64 0, .int .i64 0, .int .i64 0, .string ⟨#[]⟩] 34))) w.heap.size 34 #[.int .i64 0, .int .i64 0, .int .i64 0, .int .i64 0, .int .i64 0, .int .i64 0, .int .i64 0, .int .i64 0, .int .i64 0, .int .i64 0, .int .i64 0, .int .i64 0, .int .i64 0, .int .i64 0, .int .i64 0, .int .i64 0, .int .i64 0, .string ⟨#[]⟩] := (RowAt.new w _ _).alloc _
  have h1 : RowAt (((w.alloc (.cells #[.int .i64 0, .int .i64 0, .int .i64 0, .int .i64 0, .int .i64 0, .int .i64 0, .int .i64 0, .int .i64 0, .int .i64 0, .int .i64 0, .int .i64 0, .int .i64 0, .int .i64 0, .int .i64 0, .int .i64 0, .int .i64 0, .int .i64 0, .string ⟨#[]⟩] 34)).alloc (.cells #[.int .i64 0, .int .i64 0, .int .i64 0, .int .i64 0, .int .i64 0, .int .i64 0, .int .i64 0, .int .i64 0, .int .i64 0, .int .i64 0, .int .i64 0, .int .i64 0, .int .i64 0, .int .i64 0, .int .i64 0, .int .i64 0, .int .i64 0, .string ⟨#[]⟩] 34))) (w.heap.size + 1) 34 #[.int .i64 0, .int .i64 0, .int .i64 0, .int .i64 0, .int .i64 0, .int .i64 0, .int .i64 0, .int .i64 0, .int .i64 0, .int .i64 0, .int .i64 0, .int .i64 0, .int .i64 0, .int .i64 0, .int .i64 0, .int .i64 0, .int .i64 0, .string ⟨#[]⟩] := by
    have h := RowAt.new (w.alloc (.cells #[.int .i64 0, .int .i64 0, .int .i64 0, .int .i64 0, .int .i64 0, .int .i64 0, .int .i64 0, .int .i64 0, .int .i64 0, .int .i64 0, .int .i64 0, .int .i64 0, .int .i64 0, .int .i64 0, .int .i64 0, .int .i64 0, .int .i64 0, .string ⟨#[]⟩] 34)) 34 #[.int .i64 0, .int .i64 0, .int .i64 0, .int .i64 0, .int .i64 0, .int .i64 0, .int .i64 0, .int .i64 0, .int .i64 0, .int .i64 0, .int .i64 0, .int .i64 0, .int .i64 0, .int .i64 0, .int .i64 0, .int .i64 0, .int .i64 0, .string ⟨#[]⟩]
    simpa using h
  have H0 := Lib.hid (And.intro h0 (And.intro h1 (show Below w.heap.size w (((w.alloc (.cells #[.int .i64 0, .int .i64 0, .int .i64 0, .int .i64 0, .int .i64 0, .int .i64 0, .int .i64 0, .int .i64 0, .int .i64 0, .int .i64 0, .int .i64 0, .int .i64 0, .int .i64 0, .int .i64 0, .int .i64 0, .int .i64 0, .int .i64 0, .string ⟨#[]⟩] 34)).alloc (.cells #[.int .i64 0, .int .i64 0, .int .i64 0, .int .i64 0, .int .i64 0, .int .i64 0, .int .i64 0, .int .i64 0, .int .i64 0, .int .i64 0, .int .i64 0, .int .i64 0, .int .i64 0, .int .i64 0, .int .i64 0, .int .i64 0, .int .i64 0, .string ⟨#[]⟩] 34))) from ((Below.refl _ _).alloc (Nat.le_refl _) _).alloc (by simp) _)))
  clear hv hI hg hm h0 h1
  go_enter Tryz.func41, Tryz.ntmps41
  go_wp2_with fail
  go_loopw [14, 9] (fun v14 v9 wr => ∃ j : Nat, v14 = .int .i64 j ∧ j ≤ m ∧ v9 = .bool (inEff is p (fs.take j)).isSome ∧ Hid (RowAt wr w.heap.size 34 #[.int .i64 0, .int .i64 0, .int .i64 0, .int .i64 0, .int .i64 0, .int .i64 0, .int .i64 0, .int .i64 0, .int .i64 0, .int .i64 0, .int .i64 0, .int .i64 0, .int .i64 0, .int .i64 0, .int .i64 0, .int .i64 0, .int .i64 0, .string ⟨#[]⟩] ∧ RowAt wr (w.heap.size + 1) 34 ((inEff is p (fs.take j)).getD zf).cells ∧ Below w.heap.size w wr)) (fun v14 _ _ => m - (RowKit.intOf v14).toNat)
  case atStart => exact ⟨0, rfl, by omega, by simp [inEff], Lib.hid ⟨H0.out.1, by rw [List.take_zero]; exact H0.out.2.1, H0.out.2.2⟩⟩
  case round =>
    obtain ⟨j, rfl, hj, rfl, HS⟩ := hrel
    obtain ⟨o, hout⟩ : ∃ z, inEff is p (fs.take j) = z := ⟨_, rfl⟩
    rw [hout] at HS ⊢
    by_cases hj2 : j < m
    · have hjd : decide (j < m) = true := by simpa using hj2
      obtain ⟨f, hf⟩ : ∃ x, fs[j]? = some x := ⟨_, List.getElem?_eq_getElem (by have := HM.out; omega)⟩
      obtain ⟨b, ob, rfl, hlt, hcell⟩ := (HV.out.more HS.out.2.2).get hf
      have HF := Lib.hid (And.intro hf hout)
      have HST := Lib.hid (show inEff is p (fs.take (j + 1)) = stepE is p o f by rw [inEff_take is p hf, hout])
      have HCF : Hid ((Tryz.prog.info? 34).map (·.size) = some f.cells.size ∧ f.cells.all (·.oneCell') = true ∧ (#[.int .i64 0, .int .i64 0, .int .i64 0, .int .i64 0, .int .i64 0, .int .i64 0, .int .i64 0, .int .i64 0, .int .i64 0, .int .i64 0, .int .i64 0, .int .i64 0, .int .i64 0, .int .i64 0, .int .i64 0, .int .i64 0, .int .i64 0, .string ⟨#[]⟩] : Array Value).size = f.cells.size) := Lib.hid ⟨fact_size, f.cells_one, rfl⟩
      have HOS : Hid ((o.getD zf).cells.size = f.cells.size) := Lib.hid rfl
      have HF11 : Hid (f.cells[11]? = some (.int .i64 (f.n 11))) := Lib.hid rfl
      have HO11 : Hid ((o.getD zf).cells[11]? = some (.int .i64 ((o.getD zf).n 11))) := Lib.hid rfl
      have HIS := Lib.hid (fun W h => HG.out.2 f W h)
      obtain ⟨cf, hcf⟩ : ∃ z, f.cells = z := ⟨_, rfl⟩
      have HCC := Lib.hid hcf
      rw [hcf] at HCF hcell HOS HF11 HIS
      obtain ⟨x11, hx11⟩ : ∃ z, f.n 11 = z := ⟨_, rfl⟩
      obtain ⟨y11, hy11⟩ : ∃ z, (o.getD zf).n 11 = z := ⟨_, rfl⟩
      rw [hx11] at HF11
      rw [hy11] at HO11
      have HXY := Lib.hid (And.intro hx11 hy11)
      have HC1 := Lib.hid hcell
      obtain ⟨N, hN⟩ : ∃ z, wr.heap.size = z := ⟨_, rfl⟩
      have HNN := Lib.hid hN
      obtain ⟨W1, hW1⟩ : ∃ z, wr.alloc (.cells cf 34) = z := ⟨_, rfl⟩
      have H1 : Hid (RowAt W1 N 34 cf ∧ RowAt W1 w.heap.size 34 #[.int .i64 0, .int .i64 0, .int .i64 0, .int .i64 0, .int .i64 0, .int .i64 0, .int .i64 0, .int .i64 0, .int .i64 0, .int .i64 0, .int .i64 0, .int .i64 0, .int .i64 0, .int .i64 0, .int .i64 0, .int .i64 0, .int .i64 0, .string ⟨#[]⟩] ∧ RowAt W1 (w.heap.size + 1) 34 (o.getD zf).cells ∧ Below w.heap.size w W1) := Lib.hid (by
        rw [← hW1]
        exact ⟨by rw [← hN]; exact RowAt.new _ _ _, HS.out.1.alloc _, HS.out.2.1.alloc _, HS.out.2.2.alloc HS.out.2.2.size _⟩)
      have c11 : W1.cell? ⟨N, 11, none⟩ = some (.int .i64 x11) := by rw [H1.out.1.cell]; exact HF11.out
      have HL1 : Hid (∀ j2 x, cf[j2]? = some x → W1.cell? ⟨N, 0 + j2, none⟩ = some x) := Lib.hid (fun j2 x hx => by rw [Nat.zero_add, H1.out.1.cell]; exact hx)
      have HW1 := Lib.hid (HIS.out W1 (HG.out.1 W1 H1.out.2.2.2))
      clear hf hcf hcell hlt hx11 hy11 hout
      have hnn : N ≠ w.heap.size + 1 := by have h2 := HS.out.2.1.lt; omega
      have HNE := Lib.hid hnn
      clear hnn
      by_cases hp : x11 ≤ p
      · have hpd : decide (x11 ≤ p) = true := decide_eq_true hp
        go_wp2_with (first | ((with_reducible refine load_at (o := ⟨some 17, _, _, _, _, _⟩) (.tmp 16) b (ob + j * 18) cf HC1.out HCF.out.1 ?_ ?_ ?_ ?_); rfl; rfl; rfl) | ((with_reducible refine store_cs (o := ⟨none, _, _, _, _, _⟩) (.tmp 11) (.tmp 17) N HNN.out _ cf HCF.out.1 HCF.out.2.1 HCF.out.2.2 ?_ ?_ ?_ ?_ ?_); rfl; rfl; rfl; rfl) | ((with_reducible refine load_csg (o := ⟨some 24, _, _, _, _, _⟩) (.tmp 11) N cf HL1.out HCF.out.1 ?_ ?_ ?_ ?_); rfl; rfl; rfl))
        refine HW1.out.mono ?_
        rintro e W2 ⟨rfl, hb2⟩
        have H2 : Hid (RowAt W2 N 34 cf ∧ RowAt W2 w.heap.size 34 #[.int .i64 0, .int .i64 0, .int .i64 0, .int .i64 0, .int .i64 0, .int .i64 0, .int .i64 0, .int .i64 0, .int .i64 0, .int .i64 0, .int .i64 0, .int .i64 0, .int .i64 0, .int .i64 0, .int .i64 0, .int .i64 0, .int .i64 0, .string ⟨#[]⟩] ∧ RowAt W2 (w.heap.size + 1) 34 (o.getD zf).cells ∧ Below w.heap.size w W2) := Lib.hid ⟨H1.out.1.below hb2 H1.out.1.lt, H1.out.2.1.below hb2 H1.out.2.1.lt, H1.out.2.2.1.below hb2 H1.out.2.2.1.lt, H1.out.2.2.2.trans (hb2.mono H1.out.2.2.2.size)⟩
        have c12 : W2.cell? ⟨N, 11, none⟩ = some (.int .i64 x11) := by rw [H2.out.1.cell]; exact HF11.out
        have d12 : W2.cell? ⟨w.heap.size + 1, 11, none⟩ = some (.int .i64 y11) := by rw [H2.out.2.2.1.cell]; exact HO11.out
        have HL2 : Hid (∀ j2 x, cf[j2]? = some x → W2.cell? ⟨N, 0 + j2, none⟩ = some x) := Lib.hid (fun j2 x hx => by rw [Nat.zero_add, H2.out.1.cell]; exact hx)
        have HPP := Lib.hid hp
        clear hb2 hW1 hN hp c11
        cases hif : is f
        · have HSK : Hid (inEff is p (fs.take (j + 1)) = o) := Lib.hid (by rw [HST.out]; unfold stepE; rw [hif]; simp)
          clear hif
          go_wp2_with fail
          go_roundw
          case rel =>
            refine ⟨j + 1, by go_num, by omega, by rw [HSK.out], Lib.hid ?_⟩
            rw [HSK.out]
            exact ⟨H2.out.2.1, H2.out.2.2.1, H2.out.2.2.2⟩
          case measure => simp [RowKit.intOf]; omega
        · cases o with
          | none =>
            have HSK : Hid (inEff is p (fs.take (j + 1)) = some f) := Lib.hid (by rw [HST.out]; unfold stepE; rw [hif, HXY.out.1, decide_eq_true HPP.out]; rfl)
            clear hif
            simp only [Option.isSome_none]
            go_wp2_with (first | ((with_reducible refine load_at (o := ⟨some 38, _, _, _, _, _⟩) (.tmp 11) N 0 cf HL2.out HCF.out.1 ?_ ?_ ?_ ?_); rfl; rfl; rfl) | ((with_reducible refine store_fact_row (o := ⟨none, _, _, _, _, _⟩) (.tmp 8) (.tmp 38) (w.heap.size + 1) cf _ H2.out.2.2.1 HCF.out.1 HOS.out HCF.out.2.1 ?_ ?_ ?_ ?_ ?_); rfl; rfl; rfl; rfl))
            go_roundw
            case rel =>
              refine ⟨j + 1, by go_num, by omega, by rw [HSK.out]; rfl, Lib.hid ?_⟩
              rw [HSK.out]
              refine ⟨(setRow_far (by omega)).trans H2.out.2.1, ?_, below_setR H2.out.2.2.2 (by omega)⟩
              show RowAt _ _ _ f.cells
              rw [HCC.out]
              exact setRow_at H2.out.2.2.1
            case measure => simp [RowKit.intOf]; omega
          | some g0 =>
            simp only [Option.isSome_some]
            by_cases hgt : y11 < x11
            · have hgd : decide (y11 < x11) = true := decide_eq_true hgt
              have HSK : Hid (inEff is p (fs.take (j + 1)) = some f) := Lib.hid (by
                have h1 : g0.n 11 = y11 := HXY.out.2
                rw [HST.out]; unfold stepE; simp only [hif, HXY.out.1, h1, decide_eq_true HPP.out, hgd, Bool.and_self, if_true])
              clear hif
              go_wp2_with (first | ((with_reducible refine load_at (o := ⟨some 38, _, _, _, _, _⟩) (.tmp 11) N 0 cf HL2.out HCF.out.1 ?_ ?_ ?_ ?_); rfl; rfl; rfl) | ((with_reducible refine store_fact_row (o := ⟨none, _, _, _, _, _⟩) (.tmp 8) (.tmp 38) (w.heap.size + 1) cf _ H2.out.2.2.1 HCF.out.1 HOS.out HCF.out.2.1 ?_ ?_ ?_ ?_ ?_); rfl; rfl; rfl; rfl))
              go_roundw
              case rel =>
                refine ⟨j + 1, by go_num, by omega, by rw [HSK.out]; rfl, Lib.hid ?_⟩
                rw [HSK.out]
                refine ⟨(setRow_far (by omega)).trans H2.out.2.1, ?_, below_setR H2.out.2.2.2 (by omega)⟩
                show RowAt _ _ _ f.cells
                rw [HCC.out]
                exact setRow_at H2.out.2.2.1
              case measure => simp [RowKit.intOf]; omega
            · have hgd : decide (y11 < x11) = false := decide_eq_false hgt
              have HSK : Hid (inEff is p (fs.take (j + 1)) = some g0) := Lib.hid (by
                have h1 : g0.n 11 = y11 := HXY.out.2
                rw [HST.out]; unfold stepE; simp [hif, HXY.out.1, h1, hgd])
              clear hif
              go_wp2_with fail
              go_roundw
              case rel =>
                refine ⟨j + 1, by go_num, by omega, by rw [HSK.out]; rfl, Lib.hid ?_⟩
                rw [HSK.out]
                exact ⟨H2.out.2.1, H2.out.2.2.1, H2.out.2.2.2⟩
              case measure => simp [RowKit.intOf]; omega
      · have hpd : decide (x11 ≤ p) = false := decide_eq_false hp
        have HSK : Hid (inEff is p (fs.take (j + 1)) = o) := Lib.hid (by rw [HST.out]; unfold stepE; rw [HXY.out.1, hpd]; simp)
        go_wp2_with (first | ((with_reducible refine load_at (o := ⟨some 17, _, _, _, _, _⟩) (.tmp 16) b (ob + j * 18) cf HC1.out HCF.out.1 ?_ ?_ ?_ ?_); rfl; rfl; rfl) | ((with_reducible refine store_cs (o := ⟨none, _, _, _, _, _⟩) (.tmp 11) (.tmp 17) N HNN.out _ cf HCF.out.1 HCF.out.2.1 HCF.out.2.2 ?_ ?_ ?_ ?_ ?_); rfl; rfl; rfl; rfl))
        go_roundw
        case rel =>
          refine ⟨j + 1, by go_num, by omega, by rw [HSK.out], Lib.hid ?_⟩
          rw [HSK.out]
          exact ⟨H1.out.2.1, H1.out.2.2.1, H1.out.2.2.2⟩
        case measure => simp [RowKit.intOf]; omega
    · obtain rfl : j = m := by omega
      have hjd : decide (j < j) = false := by simp
      have htk : fs.take j = fs := List.take_of_length_le (by have := HM.out; omega)
      rw [htk] at hout
      have HO := Lib.hid hout
      have HOF : Hid ((Tryz.prog.info? 34).map (·.size) = some (o.getD zf).cells.size ∧ (o.getD zf).cells.all (·.oneCell') = true ∧ (#[.int .i64 0, .int .i64 0, .int .i64 0, .int .i64 0, .int .i64 0, .int .i64 0, .int .i64 0, .int .i64 0, .int .i64 0, .int .i64 0, .int .i64 0, .int .i64 0, .int .i64 0, .int .i64 0, .int .i64 0, .int .i64 0, .int .i64 0, .string ⟨#[]⟩] : Array Value).size = (o.getD zf).cells.size) := Lib.hid ⟨fact_size, (o.getD zf).cells_one, rfl⟩
      obtain ⟨oc, hoc⟩ : ∃ z, (o.getD zf).cells = z := ⟨_, rfl⟩
      rw [hoc] at HOF HS
      have HOC := Lib.hid hoc
      obtain ⟨ob, hob⟩ : ∃ z, o.isSome = z := ⟨_, rfl⟩
      rw [hob]
      have HOB := Lib.hid hob
      have HLO : Hid (∀ j2 x, oc[j2]? = some x → wr.cell? ⟨w.heap.size + 1, 0 + j2, none⟩ = some x) := Lib.hid (fun j2 x hx => by rw [Nat.zero_add, HS.out.2.1.cell]; exact hx)
      clear htk hout hoc hob
      go_wp2_with (first | ((with_reducible refine load_at (o := ⟨some 40, _, _, _, _, _⟩) (.tmp 8) (w.heap.size + 1) 0 oc HLO.out HOF.out.1 ?_ ?_ ?_ ?_); rfl; rfl; rfl) | ((with_reducible refine store_fact_row (o := ⟨none, _, _, _, _, _⟩) (.tmp 6) (.tmp 40) w.heap.size oc _ HS.out.1 HOF.out.1 HOF.out.2.2 HOF.out.2.1 ?_ ?_ ?_ ?_ ?_); rfl; rfl; rfl; rfl))
      have hrow : RowAt (wr.setRow w.heap.size oc) w.heap.size 34 (o.getD zf).cells := by rw [HOC.out]; exact setRow_at HS.out.1
      have hl := fact_load _ _ _ hrow
      rw [HOC.out] at hl
      refine bodyPost_ret (results_cell_tmp2 (p := 6) (q := 7) rfl _ _ _ _ rfl hl) rfl ⟨?_, below_setR HS.out.2.2 (Nat.le_refl _)⟩
      rw [HO.out, HOC.out, HOB.out]
      rfl
set_option maxRecDepth 100000 in
set_option maxHeartbeats 8000000 in
theorem inEffect_1 (g : FuncId) (c1 : Value) (is : FactV → Bool) (p : Int) (v : Value) (fs : List FactV) (w : World) (hn : fs.length ≤ 1000000) (I : World → Prop) (hI : ∀ W, Below w.heap.size w W → I W)
    (eg : ∀ args w, (callFunc g args).run Tryz.prog w = .ok (.enter g args) w) (hv : FactsAt w v fs)
    (hg : ∀ f W, I W → Calls Tryz.prog g #[.agg f.cells, c1] W fun e w' => e = .returned (.bool (is f)) ∧ Below W.heap.size W w') :
    Calls Tryz.prog 41 #[v, .int .i64 p, .func (.func g) #[] #[c1]] w fun e w' => e = .returned (.tuple #[.agg ((inEff is p fs).getD zf).cells, .bool (inEff is p fs).isSome]) ∧ Below w.heap.size w w' := by
  have HV := Lib.hid hv
  have HG := Lib.hid (And.intro hI hg)
  obtain ⟨A, c, rfl⟩ := hv.sl
  obtain ⟨m, hm⟩ : ∃ z, fs.length = z := ⟨_, rfl⟩
  rw [hm] at HV hn ⊢
  have HM := Lib.hid hm
  have h0 : RowAt (((w.alloc (.cells #[.int .i64 0, .int .i64 0, .int .i64 0, .int .i64 0, .int .i64 0, .int .i64 0, .int .i64 0, .int .i64 0, .int .i64 0, .int .i64 0, .int .i64 0, .int .i64 0, .int .i64 0, .int .i64 0, .int .i64 0, .int .i64 0, .int .i64 0, .string ⟨#[]⟩] 34)).alloc (.cells #[.int .i64 0, .int .i64 0, .int .i64 0, .int .i64 0, .int .i64 0, .int .i64 0, .int .i64 0, .int .i64 0, .int .i64 0, .int .i64 0, .int .i64 0, .int .i64 0, .int .i64 0, .int .i64 0, .int .i64 0, .int .i64 0, .int .i64 0, .string ⟨#[]⟩] 34))) w.heap.size 34 #[.int .i64 0, .int .i64 0, .int .i64 0, .int .i64 0, .int .i64 0, .int .i64 0, .int .i64 0, .int .i64 0, .int .i64 0, .int .i64 0, .int .i64 0, .int .i64 0, .int .i64 0, .int .i64 0, .int .i64 0, .int .i64 0, .int .i64 0, .string ⟨#[]⟩] := (RowAt.new w _ _).alloc _
  have h1 : RowAt (((w.alloc (.cells #[.int .i64 0, .int .i64 0, .int .i64 0, .int .i64 0, .int .i64 0, .int .i64 0, .int .i64 0, .int .i64 0, .int .i64 0, .int .i64 0, .int .i64 0, .int .i64 0, .int .i64 0, .int .i64 0, .int .i64 0, .int .i64 0, .int .i64 0, .string ⟨#[]⟩] 34)).alloc (.cells #[.int .i64 0, .int .i64 0, .int .i64 0, .int .i64 0, .int .i64 0, .int .i64 0, .int .i64 0, .int .i64 0, .int .i64 0, .int .i64 0, .int .i64 0, .int .i64 0, .int .i64 0, .int .i64 0, .int .i64 0, .int .i64 0, .int .i64 0, .string ⟨#[]⟩] 34))) (w.heap.size + 1) 34 #[.int .i64 0, .int .i64 0, .int .i64 0, .int .i64 0, .int .i64 0, .int .i64 0, .int .i64 0, .int .i64 0, .int .i64 0, .int .i64 0, .int .i64 0, .int .i64 0, .int .i64 0, .int .i64 0, .int .i64 0, .int .i64 0, .int .i64 0, .string ⟨#[]⟩] := by
    have h := RowAt.new (w.alloc (.cells #[.int .i64 0, .int .i64 0, .int .i64 0, .int .i64 0, .int .i64 0, .int .i64 0, .int .i64 0, .int .i64 0, .int .i64 0, .int .i64 0, .int .i64 0, .int .i64 0, .int .i64 0, .int .i64 0, .int .i64 0, .int .i64 0, .int .i64 0, .string ⟨#[]⟩] 34)) 34 #[.int .i64 0, .int .i64 0, .int .i64 0, .int .i64 0, .int .i64 0, .int .i64 0, .int .i64 0, .int .i64 0, .int .i64 0, .int .i64 0, .int .i64 0, .int .i64 0, .int .i64 0, .int .i64 0, .int .i64 0, .int .i64 0, .int .i64 0, .string ⟨#[]⟩]
    simpa using h
  have H0 := Lib.hid (And.intro h0 (And.intro h1 (show Below w.heap.size w (((w.alloc (.cells #[.int .i64 0, .int .i64 0, .int .i64 0, .int .i64 0, .int .i64 0, .int .i64 0, .int .i64 0, .int .i64 0, .int .i64 0, .int .i64 0, .int .i64 0, .int .i64 0, .int .i64 0, .int .i64 0, .int .i64 0, .int .i64 0, .int .i64 0, .string ⟨#[]⟩] 34)).alloc (.cells #[.int .i64 0, .int .i64 0, .int .i64 0, .int .i64 0, .int .i64 0, .int .i64 0, .int .i64 0, .int .i64 0, .int .i64 0, .int .i64 0, .int .i64 0, .int .i64 0, .int .i64 0, .int .i64 0, .int .i64 0, .int .i64 0, .int .i64 0, .string ⟨#[]⟩] 34))) from ((Below.refl _ _).alloc (Nat.le_refl _) _).alloc (by simp) _)))
  clear hv hI hg hm h0 h1
  go_enter Tryz.func41, Tryz.ntmps41
  go_wp2_with fail
  go_loopw [14, 9] (fun v14 v9 wr => ∃ j : Nat, v14 = .int .i64 j ∧ j ≤ m ∧ v9 = .bool (inEff is p (fs.take j)).isSome ∧ Hid (RowAt wr w.heap.size 34 #[.int .i64 0, .int .i64 0, .int .i64 0, .int .i64 0, .int .i64 0, .int .i64 0, .int .i64 0, .int .i64 0, .int .i64 0, .int .i64 0, .int .i64 0, .int .i64 0, .int .i64 0, .int .i64 0, .int .i64 0, .int .i64 0, .int .i64 0, .string ⟨#[]⟩] ∧ RowAt wr (w.heap.size + 1) 34 ((inEff is p (fs.take j)).getD zf).cells ∧ Below w.heap.size w wr)) (fun v14 _ _ => m - (RowKit.intOf v14).toNat)
  case atStart => exact ⟨0, rfl, by omega, by simp [inEff], Lib.hid ⟨H0.out.1, by rw [List.take_zero]; exact H0.out.2.1, H0.out.2.2⟩⟩
  case round =>
    obtain ⟨j, rfl, hj, rfl, HS⟩ := hrel
    obtain ⟨o, hout⟩ : ∃ z, inEff is p (fs.take j) = z := ⟨_, rfl⟩
    rw [hout] at HS ⊢
    by_cases hj2 : j < m
    · have hjd : decide (j < m) = true := by simpa using hj2
      obtain ⟨f, hf⟩ : ∃ x, fs[j]? = some x := ⟨_, List.getElem?_eq_getElem (by have := HM.out; omega)⟩
      obtain ⟨b, ob, rfl, hlt, hcell⟩ := (HV.out.more HS.out.2.2).get hf
      have HF := Lib.hid (And.intro hf hout)
      have HST := Lib.hid (show inEff is p (fs.take (j + 1)) = stepE is p o f by rw [inEff_take is p hf, hout])
      have HCF : Hid ((Tryz.prog.info? 34).map (·.size) = some f.cells.size ∧ f.cells.all (·.oneCell') = true ∧ (#[.int .i64 0, .int .i64 0, .int .i64 0, .int .i64 0, .int .i64 0, .int .i64 0, .int .i64 0, .int .i64 0, .int .i64 0, .int .i64 0, .int .i64 0, .int .i64 0, .int .i64 0, .int .i64 0, .int .i64 0, .int .i64 0, .int .i64 0, .string ⟨#[]⟩] : Array Value).size = f.cells.size) := Lib.hid ⟨fact_size, f.cells_one, rfl⟩
      have HOS : Hid ((o.getD zf).cells.size = f.cells.size) := Lib.hid rfl
      have HF11 : Hid (f.cells[11]? = some (.int .i64 (f.n 11))) := Lib.hid rfl
      have HO11 : Hid ((o.getD zf).cells[11]? = some (.int .i64 ((o.getD zf).n 11))) := Lib.hid rfl
      have HIS := Lib.hid (fun W h => HG.out.2 f W h)
      obtain ⟨cf, hcf⟩ : ∃ z, f.cells = z := ⟨_, rfl⟩
      have HCC := Lib.hid hcf
      rw [hcf] at HCF hcell HOS HF11 HIS
      obtain ⟨x11, hx11⟩ : ∃ z, f.n 11 = z := ⟨_, rfl⟩
      obtain ⟨y11, hy11⟩ : ∃ z, (o.getD zf).n 11 = z := ⟨_, rfl⟩
      rw [hx11] at HF11
      rw [hy11] at HO11
      have HXY := Lib.hid (And.intro hx11 hy11)
      have HC1 := Lib.hid hcell
      obtain ⟨N, hN⟩ : ∃ z, wr.heap.size = z := ⟨_, rfl⟩
      have HNN := Lib.hid hN
      obtain ⟨W1, hW1⟩ : ∃ z, wr.alloc (.cells cf 34) = z := ⟨_, rfl⟩
      have H1 : Hid (RowAt W1 N 34 cf ∧ RowAt W1 w.heap.size 34 #[.int .i64 0, .int .i64 0, .int .i64 0, .int .i64 0, .int .i64 0, .int .i64 0, .int .i64 0, .int .i64 0, .int .i64 0, .int .i64 0, .int .i64 0, .int .i64 0, .int .i64 0, .int .i64 0, .int .i64 0, .int .i64 0, .int .i64 0, .string ⟨#[]⟩] ∧ RowAt W1 (w.heap.size + 1) 34 (o.getD zf).cells ∧ Below w.heap.size w W1) := Lib.hid (by
        rw [← hW1]
        exact ⟨by rw [← hN]; exact RowAt.new _ _ _, HS.out.1.alloc _, HS.out.2.1.alloc _, HS.out.2.2.alloc HS.out.2.2.size _⟩)
      have c11 : W1.cell? ⟨N, 11, none⟩ = some (.int .i64 x11) := by rw [H1.out.1.cell]; exact HF11.out
      have HL1 : Hid (∀ j2 x, cf[j2]? = some x → W1.cell? ⟨N, 0 + j2, none⟩ = some x) := Lib.hid (fun j2 x hx => by rw [Nat.zero_add, H1.out.1.cell]; exact hx)
      have HW1 := Lib.hid (HIS.out W1 (HG.out.1 W1 H1.out.2.2.2))
      clear hf hcf hcell hlt hx11 hy11 hout
      have hnn : N ≠ w.heap.size + 1 := by have h2 := HS.out.2.1.lt; omega
      have HNE := Lib.hid hnn
      clear hnn
      by_cases hp : x11 ≤ p
      · have hpd : decide (x11 ≤ p) = true := decide_eq_true hp
        go_wp2_with (first | ((with_reducible refine load_at (o := ⟨some 17, _, _, _, _, _⟩) (.tmp 16) b (ob + j * 18) cf HC1.out HCF.out.1 ?_ ?_ ?_ ?_); rfl; rfl; rfl) | ((with_reducible refine store_cs (o := ⟨none, _, _, _, _, _⟩) (.tmp 11) (.tmp 17) N HNN.out _ cf HCF.out.1 HCF.out.2.1 HCF.out.2.2 ?_ ?_ ?_ ?_ ?_); rfl; rfl; rfl; rfl) | ((with_reducible refine load_csg (o := ⟨some 24, _, _, _, _, _⟩) (.tmp 11) N cf HL1.out HCF.out.1 ?_ ?_ ?_ ?_); rfl; rfl; rfl))
        refine HW1.out.mono ?_
        rintro e W2 ⟨rfl, hb2⟩
        have H2 : Hid (RowAt W2 N 34 cf ∧ RowAt W2 w.heap.size 34 #[.int .i64 0, .int .i64 0, .int .i64 0, .int .i64 0, .int .i64 0, .int .i64 0, .int .i64 0, .int .i64 0, .int .i64 0, .int .i64 0, .int .i64 0, .int .i64 0, .int .i64 0, .int .i64 0, .int .i64 0, .int .i64 0, .int .i64 0, .string ⟨#[]⟩] ∧ RowAt W2 (w.heap.size + 1) 34 (o.getD zf).cells ∧ Below w.heap.size w W2) := Lib.hid ⟨H1.out.1.below hb2 H1.out.1.lt, H1.out.2.1.below hb2 H1.out.2.1.lt, H1.out.2.2.1.below hb2 H1.out.2.2.1.lt, H1.out.2.2.2.trans (hb2.mono H1.out.2.2.2.size)⟩
        have c12 : W2.cell? ⟨N, 11, none⟩ = some (.int .i64 x11) := by rw [H2.out.1.cell]; exact HF11.out
        have d12 : W2.cell? ⟨w.heap.size + 1, 11, none⟩ = some (.int .i64 y11) := by rw [H2.out.2.2.1.cell]; exact HO11.out
        have HL2 : Hid (∀ j2 x, cf[j2]? = some x → W2.cell? ⟨N, 0 + j2, none⟩ = some x) := Lib.hid (fun j2 x hx => by rw [Nat.zero_add, H2.out.1.cell]; exact hx)
        have HPP := Lib.hid hp
        clear hb2 hW1 hN hp c11
        cases hif : is f
        · have HSK : Hid (inEff is p (fs.take (j + 1)) = o) := Lib.hid (by rw [HST.out]; unfold stepE; rw [hif]; simp)
          clear hif
          go_wp2_with fail
          go_roundw
          case rel =>
            refine ⟨j + 1, by go_num, by omega, by rw [HSK.out], Lib.hid ?_⟩
            rw [HSK.out]
            exact ⟨H2.out.2.1, H2.out.2.2.1, H2.out.2.2.2⟩
          case measure => simp [RowKit.intOf]; omega
        · cases o with
          | none =>
            have HSK : Hid (inEff is p (fs.take (j + 1)) = some f) := Lib.hid (by rw [HST.out]; unfold stepE; rw [hif, HXY.out.1, decide_eq_true HPP.out]; rfl)
            clear hif
            simp only [Option.isSome_none]
            go_wp2_with (first | ((with_reducible refine load_at (o := ⟨some 38, _, _, _, _, _⟩) (.tmp 11) N 0 cf HL2.out HCF.out.1 ?_ ?_ ?_ ?_); rfl; rfl; rfl) | ((with_reducible refine store_fact_row (o := ⟨none, _, _, _, _, _⟩) (.tmp 8) (.tmp 38) (w.heap.size + 1) cf _ H2.out.2.2.1 HCF.out.1 HOS.out HCF.out.2.1 ?_ ?_ ?_ ?_ ?_); rfl; rfl; rfl; rfl))
            go_roundw
            case rel =>
              refine ⟨j + 1, by go_num, by omega, by rw [HSK.out]; rfl, Lib.hid ?_⟩
              rw [HSK.out]
              refine ⟨(setRow_far (by omega)).trans H2.out.2.1, ?_, below_setR H2.out.2.2.2 (by omega)⟩
              show RowAt _ _ _ f.cells
              rw [HCC.out]
              exact setRow_at H2.out.2.2.1
            case measure => simp [RowKit.intOf]; omega
          | some g0 =>
            simp only [Option.isSome_some]
            by_cases hgt : y11 < x11
            · have hgd : decide (y11 < x11) = true := decide_eq_true hgt
              have HSK : Hid (inEff is p (fs.take (j + 1)) = some f) := Lib.hid (by
                have h1 : g0.n 11 = y11 := HXY.out.2
                rw [HST.out]; unfold stepE; simp only [hif, HXY.out.1, h1, decide_eq_true HPP.out, hgd, Bool.and_self, if_true])
              clear hif
              go_wp2_with (first | ((with_reducible refine load_at (o := ⟨some 38, _, _, _, _, _⟩) (.tmp 11) N 0 cf HL2.out HCF.out.1 ?_ ?_ ?_ ?_); rfl; rfl; rfl) | ((with_reducible refine store_fact_row (o := ⟨none, _, _, _, _, _⟩) (.tmp 8) (.tmp 38) (w.heap.size + 1) cf _ H2.out.2.2.1 HCF.out.1 HOS.out HCF.out.2.1 ?_ ?_ ?_ ?_ ?_); rfl; rfl; rfl; rfl))
              go_roundw
              case rel =>
                refine ⟨j + 1, by go_num, by omega, by rw [HSK.out]; rfl, Lib.hid ?_⟩
                rw [HSK.out]
                refine ⟨(setRow_far (by omega)).trans H2.out.2.1, ?_, below_setR H2.out.2.2.2 (by omega)⟩
                show RowAt _ _ _ f.cells
                rw [HCC.out]
                exact setRow_at H2.out.2.2.1
              case measure => simp [RowKit.intOf]; omega
            · have hgd : decide (y11 < x11) = false := decide_eq_false hgt
              have HSK : Hid (inEff is p (fs.take (j + 1)) = some g0) := Lib.hid (by
                have h1 : g0.n 11 = y11 := HXY.out.2
                rw [HST.out]; unfold stepE; simp [hif, HXY.out.1, h1, hgd])
              clear hif
              go_wp2_with fail
              go_roundw
              case rel =>
                refine ⟨j + 1, by go_num, by omega, by rw [HSK.out]; rfl, Lib.hid ?_⟩
                rw [HSK.out]
                exact ⟨H2.out.2.1, H2.out.2.2.1, H2.out.2.2.2⟩
              case measure => simp [RowKit.intOf]; omega
      · have hpd : decide (x11 ≤ p) = false := decide_eq_false hp
        have HSK : Hid (inEff is p (fs.take (j + 1)) = o) := Lib.hid (by rw [HST.out]; unfold stepE; rw [HXY.out.1, hpd]; simp)
        go_wp2_with (first | ((with_reducible refine load_at (o := ⟨some 17, _, _, _, _, _⟩) (.tmp 16) b (ob + j * 18) cf HC1.out HCF.out.1 ?_ ?_ ?_ ?_); rfl; rfl; rfl) | ((with_reducible refine store_cs (o := ⟨none, _, _, _, _, _⟩) (.tmp 11) (.tmp 17) N HNN.out _ cf HCF.out.1 HCF.out.2.1 HCF.out.2.2 ?_ ?_ ?_ ?_ ?_); rfl; rfl; rfl; rfl))
        go_roundw
        case rel =>
          refine ⟨j + 1, by go_num, by omega, by rw [HSK.out], Lib.hid ?_⟩
          rw [HSK.out]
          exact ⟨H1.out.2.1, H1.out.2.2.1, H1.out.2.2.2⟩
        case measure => simp [RowKit.intOf]; omega
    · obtain rfl : j = m := by omega
      have hjd : decide (j < j) = false := by simp
      have htk : fs.take j = fs := List.take_of_length_le (by have := HM.out; omega)
      rw [htk] at hout
      have HO := Lib.hid hout
      have HOF : Hid ((Tryz.prog.info? 34).map (·.size) = some (o.getD zf).cells.size ∧ (o.getD zf).cells.all (·.oneCell') = true ∧ (#[.int .i64 0, .int .i64 0, .int .i64 0, .int .i64 0, .int .i64 0, .int .i64 0, .int .i64 0, .int .i64 0, .int .i64 0, .int .i64 0, .int .i64 0, .int .i64 0, .int .i64 0, .int .i64 0, .int .i64 0, .int .i64 0, .int .i64 0, .string ⟨#[]⟩] : Array Value).size = (o.getD zf).cells.size) := Lib.hid ⟨fact_size, (o.getD zf).cells_one, rfl⟩
      obtain ⟨oc, hoc⟩ : ∃ z, (o.getD zf).cells = z := ⟨_, rfl⟩
      rw [hoc] at HOF HS
      have HOC := Lib.hid hoc
      obtain ⟨ob, hob⟩ : ∃ z, o.isSome = z := ⟨_, rfl⟩
      rw [hob]
      have HOB := Lib.hid hob
      have HLO : Hid (∀ j2 x, oc[j2]? = some x → wr.cell? ⟨w.heap.size + 1, 0 + j2, none⟩ = some x) := Lib.hid (fun j2 x hx => by rw [Nat.zero_add, HS.out.2.1.cell]; exact hx)
      clear htk hout hoc hob
      go_wp2_with (first | ((with_reducible refine load_at (o := ⟨some 40, _, _, _, _, _⟩) (.tmp 8) (w.heap.size + 1) 0 oc HLO.out HOF.out.1 ?_ ?_ ?_ ?_); rfl; rfl; rfl) | ((with_reducible refine store_fact_row (o := ⟨none, _, _, _, _, _⟩) (.tmp 6) (.tmp 40) w.heap.size oc _ HS.out.1 HOF.out.1 HOF.out.2.2 HOF.out.2.1 ?_ ?_ ?_ ?_ ?_); rfl; rfl; rfl; rfl))
      have hrow : RowAt (wr.setRow w.heap.size oc) w.heap.size 34 (o.getD zf).cells := by rw [HOC.out]; exact setRow_at HS.out.1
      have hl := fact_load _ _ _ hrow
      rw [HOC.out] at hl
      refine bodyPost_ret (results_cell_tmp2 (p := 6) (q := 7) rfl _ _ _ _ rfl hl) rfl ⟨?_, below_setR HS.out.2.2 (Nat.le_refl _)⟩
      rw [HO.out, HOC.out, HOB.out]
      rfl
end Go.Proofs.YtgjajhopjcdflaaGreat
