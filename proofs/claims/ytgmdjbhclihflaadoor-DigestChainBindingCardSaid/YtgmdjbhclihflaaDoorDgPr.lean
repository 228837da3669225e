/- DigestProofAccepted. -/
import Derived.Test.YtgmdjbhclihflaaDoorDgPc
import Derived.Test.YtgmdjbhclihflaaDoorDgSp
import Derived.Deep.CutRange
namespace Go.Proofs.YtgmdjbhclihflaaDoor
open Go Go.RowKit Go.Lib Go.Shelf
attribute [local go_sem] Oper.semAt_some

theorem step_append_strs {ops : Array Oper} {o : Oper} {a : Act} {w : World} {K : Act → World → Prop} {Q : Exit → Act → World → Prop} {E : Prop} (s x : Operand) (base : Nat) (L R : List (List UInt8)) (v xv : Value)
    (hown : OwnL 9 encS w base v L) (hR : SlS w xv R) (hlen : L.length + R.length ≤ 1000000) (hbase : base ≤ w.heap.size) (hgd : o.guard = none)
    (ho : o.op = .call { callee := .builtin .append, args := #[s, x], argTypes := #[22, 22] })
    (hs : a.eval s = v) (hx : a.eval x = xv)
    (h : ∀ v' w', OwnL 9 encS w' base v' (L ++ R) → w.grownBy w' v.ownBlock → K (a.put o.dst v') w') : if Region.wanted o (yielded ops a.tmps) = true then Oper.wp Tryd.prog o a w K Q else E := by
  have hw : Region.wanted o (yielded ops a.tmps) = true := by simp [Region.wanted, hgd]
  rw [if_pos hw]
  exact wp_append_strs s x base L R v xv hown hR hlen hbase ho hs hx h
theorem step_go {P : Program} {ops : Array Oper} {o : Oper} {a : Act} {w : World} {K : Act → World → Prop} {Q : Exit → Act → World → Prop} {E : Prop} (hgd : o.guard = none) (f : FuncId) {fn : Func} (hf : P.funcs[f]? = some fn) (hb : fn.body.isNone = false) (hn : (fn.name == "runtime.NumGoroutine") = false) (args : Array Operand) (ts : Array TypeId)
    (ho : o.op = .call { callee := .value (.func f), args := args, argTypes := ts }) (vals : Array Value) (hv : args.map a.eval = vals) (v : Value) (S : World → Prop)
    (hc : Calls P f vals w fun e w' => e = .returned v ∧ S w') (h : ∀ w', S w' → K (a.put o.dst v) w') : if Region.wanted o (yielded ops a.tmps) = true then Oper.wp P o a w K Q else E := by
  have hw : Region.wanted o (yielded ops a.tmps) = true := by simp [Region.wanted, hgd]
  rw [if_pos hw]
  have hr : (execOp a.eval o).run P w = .ok (.enter f vals) w := by
    unfold execOp
    have hc : (callFunc f vals).run P w = .ok (.enter f vals) w := by
      unfold callFunc
      have hb' : ¬ fn.body = none := by intro e; rw [e] at hb; simp at hb
      have hn' : ¬ fn.name = "runtime.NumGoroutine" := by simpa using hn
      simp [go_sem, hf, hb', hn']
    simp [ho, go_sem, Act.eval, hv, hc]
  unfold Oper.wp
  rw [hr]
  refine hc.mono ?_
  rintro e w' ⟨rfl, hs⟩
  exact h w' hs
set_option maxRecDepth 100000 in
set_option maxHeartbeats 4000000 in
theorem pacc_yes (v : Value) (xs : List (List UInt8)) (i : Int) (w : World) (hv : SlS w v xs) (hn : xs.length ≤ 9223372036854775807) (hK : KAt w) :
    Calls Tryd.prog 4 #[v, .int .i64 i] w fun e w' => e = .returned (.bool true) ∧ Below w.heap.size w w' := by
  have HK := Lib.hid hK
  have SN := Lib.hid (sane_any w hK)
  have FW := Lib.hid (fun W (hb : Below w.heap.size w W) => few_any v xs 40 W (hv.below hb) hn (by omega))
  clear hK hv
  obtain ⟨l, hl⟩ : ∃ l, (xs.take 40).map (·.take 60) = l := ⟨_, rfl⟩
  rw [hl] at FW
  have hll : l.length ≤ 40 := by rw [← hl, List.length_map, List.length_take]; omega
  have HLX : Hid (∀ x ∈ l, x.length ≤ 60) := Lib.hid (by
    rw [← hl]; intro x hx; obtain ⟨y, _, rfl⟩ := List.mem_map.1 hx; rw [List.length_take]; omega)
  clear hl
  go_enter Tryd.func4, Tryd.ntmps4
  go_wp2_with fail
  refine SN.out.mono ?_
  rintro e W1 ⟨rfl, hb1⟩
  have H1 := Lib.hid hb1
  have F1 := Lib.hid (FW.out W1 hb1)
  clear hb1 FW
  go_wp2_with fail
  refine F1.out.mono ?_
  rintro e W2 ⟨v2, rfl, ho2, hb2⟩
  obtain ⟨A2, c2, hv2, hc2⟩ := ho2.slice
  obtain ⟨n, hnl⟩ : ∃ n, l.length = n := ⟨_, rfl⟩
  rw [hnl] at hv2 hc2 hll
  subst hv2
  have H2 := Lib.hid (And.intro ho2.sls (And.intro (H1.out.trans (hb2.mono H1.out.size)) (And.intro hnl hc2)))
  clear ho2 hb2 hnl hc2
  obtain ⟨B, hB⟩ : ∃ B, W2.heap.size = B := ⟨_, rfl⟩
  have HB := Lib.hid hB
  have HW : Hid (∀ W, Below B W2 W → SlS W (.slice A2 n c2) l ∧ KAt W ∧ Below w.heap.size w W ∧ B ≤ W.heap.size) := Lib.hid (fun W hb => by
    rw [← HB.out] at hb
    exact ⟨H2.out.1.below hb, HK.out.below (H2.out.2.1.trans (hb.mono H2.out.2.1.size)), H2.out.2.1.trans (hb.mono H2.out.2.1.size), by rw [← HB.out]; exact hb.size⟩)
  have hB2 : Below B W2 W2 := by rw [← hB]; exact Below.refl _ _
  clear hB
  obtain ⟨rt, hrt⟩ : ∃ z, rootB l = z := ⟨_, rfl⟩
  obtain ⟨R, hR⟩ : ∃ R, binL n n = R := ⟨_, rfl⟩
  have HRT := Lib.hid hrt
  have HRL : Hid (rt.length = 32) := Lib.hid (by rw [← hrt]; exact rootB_len l)
  have RT : Hid (Calls Tryd.prog 18 #[.slice A2 n c2] W2 fun e w' => e = .returned (.string ⟨rt.toArray⟩) ∧ Below B W2 w') := Lib.hid (by
    have hh := HW.out W2 hB2
    rw [← hrt]
    refine (root_any _ l W2 hh.1 (by rw [H2.out.2.2.1]; omega) (fun x hx => by have := HLX.out x hx; omega) hh.2.1).mono ?_
    rintro e w' ⟨rfl, hb⟩
    exact ⟨rfl, by rw [← HB.out]; exact hb⟩)
  have PI : Hid (∀ W, Below B W2 W → ∀ j : Nat, j < n → Calls Tryd.prog 13 #[.slice A2 n c2, .int .i64 j] W fun e w' => ∃ A' n' c', e = .returned (.tuple #[.slice A' n' c', .int .i64 0]) ∧ (n' ≤ c' ∧ SlS w' (.slice A' n' c') (proofB l j) ∧ (proofB l j).length = n' ∧ n' ≤ R) ∧ Below B W2 w') := Lib.hid (fun W hb j hj => by
    have hh := HW.out W hb
    refine (proof_in A2 n c2 j l W hh.1 H2.out.2.2.1 H2.out.2.2.2 (by omega) hj (fun x hx => by have := HLX.out x hx; omega) hh.2.1).mono ?_
    rintro e w' ⟨A', n', c', rfl, h1, h2, h3, h4⟩
    refine ⟨A', n', c', rfl, ⟨h1, h2, h3, ?_⟩, hb.trans (h4.mono hh.2.2.2)⟩
    have := proofB_short l j (by rw [H2.out.2.2.1]; omega)
    rw [H2.out.2.2.1, hR] at this
    omega)
  have BN := Lib.hid (fun W => binary_any n W (by omega))
  rw [hR] at BN
  have hRn : R ≤ 40 := by rw [← hR]; have := binL_le n n; omega
  have VI : Hid (∀ W, Below B W2 W → ∀ (j : Nat) (x : List UInt8) (A' : Option Addr) (n' c' : Nat) (pr : List (List UInt8)), l[j]? = some x → n' ≤ c' → n' ≤ 1000 → SlS W (.slice A' n' c') pr → pr.length = n' → allD pr = true → Calls Tryd.prog 21 #[.string ⟨rt.toArray⟩, .int .i64 n, .int .i64 j, .string ⟨x.toArray⟩, .slice A' n' c'] W fun e w' => e = .returned (.bool (verV n n j x pr.reverse == some rt)) ∧ Below B W2 w') := Lib.hid (fun W hb j x A' n' c' pr hx h1 h2 h3 h4 h5 => by
    have hh := HW.out W hb
    have hj : j < n := by rw [← H2.out.2.2.1]; exact (List.getElem?_eq_some_iff.1 hx).1
    refine (verify_in rt x n j A' n' c' pr W hj (by omega) h3 h4 h1 (by omega) h5 (by have := HLX.out x (List.mem_of_getElem? hx); omega) hh.2.1).mono ?_
    rintro e w' ⟨rfl, h4⟩
    exact ⟨rfl, hb.trans (h4.mono hh.2.2.2)⟩)
  clear hR hrt
  go_wp2_with fail
  refine RT.out.mono ?_
  rintro e W3 ⟨rfl, hb3⟩
  have HB3 := Lib.hid hb3
  clear hb3
  go_wp2_with fail
  go_loopw [7, 8, 9] (fun v7 v8 v9 wr => ∃ k : Nat, v7 = .int .i64 k ∧ k ≤ n ∧ Hid (Below B W2 wr)) (fun v7 _ _ _ => n - (RowKit.intOf v7).toNat)
  case atStart => exact ⟨0, rfl, by omega, HB3⟩
  case round =>
    obtain ⟨k, rfl, hk, HS⟩ := hrel
    by_cases hk2 : k < n
    · have hk2d : decide (k < n) = true := by simp; omega
      obtain ⟨x, hx⟩ : ∃ x, l[k]? = some x := ⟨_, List.getElem?_eq_getElem (by rw [H2.out.2.2.1]; exact hk2)⟩
      obtain ⟨b, o, hA, hlt, hcx⟩ := H2.out.1.get hx
      subst hA
      have hkc : k < c2 := by have := H2.out.2.2.2; omega
      have HX := Lib.hid hx
      have HC : Hid (∀ W, Below B W2 W → W.cell? ⟨b, o + k, none⟩ = some (.string ⟨x.toArray⟩)) := Lib.hid (fun W hb => by
        rw [← HB.out] at hb
        exact (hb.cell (p := ⟨b, o + k, none⟩) hlt).trans hcx)
      clear hx hlt hcx
      go_wp2_with fail
      refine (PI.out wr HS.out k hk2).mono ?_
      rintro e Y1 ⟨A', n', c', rfl, hp, hy1⟩
      have HY1 := Lib.hid hy1
      have HP := Lib.hid hp
      have cx := HC.out Y1 hy1
      have hsh : decide (R < n') = false := by have := hp.2.2.2; simp; omega
      have VK : Hid (Calls Tryd.prog 21 #[.string ⟨rt.toArray⟩, .int .i64 n, .int .i64 k, .string ⟨x.toArray⟩, .slice A' n' c'] Y1 fun e w' => e = .returned (.bool true) ∧ Below B W2 w') := Lib.hid (by
        have h := VI.out Y1 hy1 k x A' n' c' (proofB l k) HX.out hp.1 (by have := hp.2.2.2; omega) hp.2.1 hp.2.2.1 (proofB_digs l k)
        have h2 := proofB_ver (l := l) (i := k) (by rw [H2.out.2.2.1]; omega) HX.out
        rw [H2.out.2.2.1] at h2
        rw [h2, HRT.out] at h
        simpa using h)
      clear hp hy1
      go_wp2_with fail
      refine (BN.out Y1).mono ?_
      rintro e w' ⟨rfl, rfl⟩
      go_wp2_with fail
      refine VK.out.mono ?_
      rintro e Y2 ⟨rfl, hy2⟩
      have HY2 := Lib.hid hy2
      clear hy2
      go_wp2_with fail
      go_roundw
      case rel => exact ⟨k + 1, by go_num, by omega, HY2⟩
      case measure => simp [RowKit.intOf]; omega
    · have hk2d : decide (k < n) = false := by simp; omega
      by_cases hin : 0 ≤ i ∧ i < n
      · obtain ⟨j, rfl⟩ : ∃ j : Nat, i = (j : Int) := ⟨i.toNat, by omega⟩
        have hjn : j < n := by omega
        have hj1d : decide (j < n) = true := by simp; omega
        obtain ⟨x, hx⟩ : ∃ x, l[j]? = some x := ⟨_, List.getElem?_eq_getElem (by rw [H2.out.2.2.1]; exact hjn)⟩
        obtain ⟨b, o, hA, hlt, hcx⟩ := H2.out.1.get hx
        subst hA
        have hjc : j < c2 := by have := H2.out.2.2.2; omega
        have HX := Lib.hid hx
        have HC : Hid (∀ W, Below B W2 W → W.cell? ⟨b, o + j, none⟩ = some (.string ⟨x.toArray⟩)) := Lib.hid (fun W hb => by
          rw [← HB.out] at hb
          exact (hb.cell (p := ⟨b, o + j, none⟩) hlt).trans hcx)
        clear hx hlt hcx
        go_wp2_with fail
        refine (PI.out wr HS.out j hjn).mono ?_
        rintro e Y1 ⟨A', n', c', rfl, hp, hy1⟩
        have HY1 := Lib.hid hy1
        have HP := Lib.hid hp
        have cx := HC.out Y1 hy1
        clear hp hy1
        have hall : allD (proofB l j) = true := proofB_digs l j
        have HPL : Hid (∀ W, Below Y1.heap.size Y1 W → SlS W (.slice A' n' c') (proofB l j)) := Lib.hid (fun W hb => HP.out.2.1.below hb)
        have HYW : Hid (∀ W, Below Y1.heap.size Y1 W → Below B W2 W) := Lib.hid (fun W hb => HY1.out.trans (hb.mono (HW.out Y1 HY1.out).2.2.2))
        have hp40 : n' ≤ 40 := by have := HP.out.2.2.2; omega
        have OTH : Hid (∀ pr : List (List UInt8), pr.length ≠ n' → (verV n n j x pr.reverse == some rt) = false) := Lib.hid (fun pr h => by
          have := verV_other (l := l) (i := j) (s := x) (root := rt) (pr := pr) (by rw [H2.out.2.2.1]; omega) (by rw [HP.out.2.2.1]; exact h)
          rwa [H2.out.2.2.1] at this)
        obtain ⟨pr, hpr⟩ : ∃ z, proofB l j = z := ⟨_, rfl⟩
        rw [hpr] at hall HPL HP
        clear hpr
        have hprl : pr.length = n' := HP.out.2.2.1
        have VL : Hid (∀ W v base, Below Y1.heap.size Y1 W → OwnL 9 encS W base v (pr ++ [rt]) → Calls Tryd.prog 21 #[.string ⟨rt.toArray⟩, .int .i64 n, .int .i64 j, .string ⟨x.toArray⟩, v] W fun e w' => e = .returned (.bool false) ∧ Below Y1.heap.size Y1 w') := Lib.hid (fun W v base hb ho => by
          have hlen : (pr ++ [rt]).length = n' + 1 := by rw [List.length_append, hprl]; rfl
          obtain ⟨A8, c8, hv8, hc8⟩ := ho.slice
          rw [hlen] at hv8 hc8
          subst hv8
          have hh := HW.out W (HYW.out W hb)
          refine (verify_in rt x n j A8 (n' + 1) c8 (pr ++ [rt]) W hjn (by omega) ho.sls hlen hc8 (by omega) (allD_iff.2 (fun y hy => by
            rcases List.mem_append.1 hy with hy | hy
            · exact allD_iff.1 hall y hy
            · rw [List.mem_singleton.1 hy]; exact HRL.out)) (by have := HLX.out x (List.mem_of_getElem? HX.out); omega) hh.2.1).mono ?_
          rintro e w' ⟨rfl, h4⟩
          exact ⟨by rw [OTH.out _ (by omega)], hb.trans (h4.mono hb.size)⟩)
        have VS : Hid (∀ W ad cc, Below Y1.heap.size Y1 W → SlS W (.slice ad (n' - 1) cc) (pr.drop 1) → n' - 1 ≤ cc → 0 < n' → Calls Tryd.prog 21 #[.string ⟨rt.toArray⟩, .int .i64 n, .int .i64 j, .string ⟨x.toArray⟩, .slice ad (n' - 1) cc] W fun e w' => e = .returned (.bool false) ∧ Below Y1.heap.size Y1 w') := Lib.hid (fun W ad cc hb hs hcc hpos => by
          have hlen : (pr.drop 1).length = n' - 1 := by rw [List.length_drop, hprl]
          have hh := HW.out W (HYW.out W hb)
          refine (verify_in rt x n j _ (n' - 1) cc (pr.drop 1) W hjn (by omega) hs hlen hcc (by omega) (allD_iff.2 (fun y hy => allD_iff.1 hall y (List.mem_of_mem_drop hy))) (by have := HLX.out x (List.mem_of_getElem? HX.out); omega) hh.2.1).mono ?_
          rintro e w' ⟨rfl, h4⟩
          exact ⟨by rw [OTH.out _ (by omega)], hb.trans (h4.mono hb.size)⟩)
        have HCY : Hid (∀ W, Below Y1.heap.size Y1 W → W.cell? ⟨b, o + j, none⟩ = some (.string ⟨x.toArray⟩)) := Lib.hid (fun W hb => HC.out W (HYW.out W hb))
        have HBY : Hid (b < Y1.heap.size) := Lib.hid (World.block_lt_of_cell? Y1 _ (HCY.out Y1 (Below.refl _ _)))
        clear hall hprl PI VI RT BN HC OTH
        go_upto_region 16 with fail
        go_cut [13] from 97 to 111 (fun v13 wx => v13 = .bool false ∧ Hid (Below Y1.heap.size Y1 wx))
        case first =>
          have hbY : b < Y1.heap.size := HBY.out
          have ca1 := HCY.out _ ((Below.refl Y1.heap.size Y1).alloc (Nat.le_refl _) (.cells #[] 9))
          have ca2 := HCY.out _ ((Below.refl Y1.heap.size Y1).alloc (Nat.le_refl _) (.cells #[.string ⟨rt.toArray⟩] 9))
          have ca3 := HCY.out _ (((Below.refl Y1.heap.size Y1).alloc (Nat.le_refl _) (.cells #[] 9)).alloc (by simp) (.cells #[.string ⟨rt.toArray⟩] 9))
          have ca4 := HCY.out _ (((Below.refl Y1.heap.size Y1).alloc (Nat.le_refl _) (.cells #[.string ⟨rt.toArray⟩] 9)).alloc (by simp) (.cells #[] 9))
          refine wp_region_noPanic ?_
          go_region_law (first
          | ((refine step_append_strs (.tmp 105) (.tmp 106) (Y1.heap.size) [] pr (.slice (some ⟨Y1.heap.size, 0, none⟩) 0 0) (.slice A' n' c') ((own_zeroL _ _ _).below (Below.refl _ _).drew) (HPL.out _ (((Below.refl Y1.heap.size Y1).alloc (Nat.le_refl _) (.cells #[] 9)).drew)) (by have := HP.out.2.2.1; simp; omega) (by simp <;> omega) rfl rfl rfl rfl ?_); intro v7 W7 ho7 hg7; have b7 := (((Below.refl Y1.heap.size Y1).alloc (Nat.le_refl _) (.cells #[] 9)).drew).grown hg7 (by simp <;> omega) (fun j e => by simp [Value.ownBlock] at e; omega); rw [List.nil_append] at ho7; have hz7 : Y1.heap.size + 1 ≤ W7.heap.size := (by have := hg7.size; simp at this; omega); have ca7 := HCY.out W7 b7; have ca7b := HCY.out _ (b7.alloc b7.size (.cells #[.string ⟨rt.toArray⟩] 9)); have ho7 := Lib.hid ho7; have b7 := Lib.hid b7; clear hg7)
          | ((refine step_append_strs (.tmp 105) (.tmp 106) (Y1.heap.size) [] pr (.slice (some ⟨Y1.heap.size, 0, none⟩) 0 0) (.slice A' n' c') (((own_zeroL _ _ _).below ((Below.refl _ _).alloc (Nat.le_refl _) _).drew)) (HPL.out _ ((((Below.refl Y1.heap.size Y1).alloc (Nat.le_refl _) (.cells #[] 9)).alloc (by simp) (.cells #[.string ⟨rt.toArray⟩] 9)).drew)) (by have := HP.out.2.2.1; simp; omega) (by simp <;> omega) rfl rfl rfl rfl ?_); intro v7 W7 ho7 hg7; have b7 := ((((Below.refl Y1.heap.size Y1).alloc (Nat.le_refl _) (.cells #[] 9)).alloc (by simp) (.cells #[.string ⟨rt.toArray⟩] 9)).drew).grown hg7 (by simp <;> omega) (fun j e => by simp [Value.ownBlock] at e; omega); rw [List.nil_append] at ho7; have r7 : RowAt W7 (Y1.heap.size + 1) 9 #[.string ⟨rt.toArray⟩] := (hg7.block _ ((row_new1 Y1 (.cells #[] 9) 9 #[.string ⟨rt.toArray⟩]).drew).lt (by simp [Value.ownBlock])).trans ((row_new1 Y1 (.cells #[] 9) 9 #[.string ⟨rt.toArray⟩]).drew); have r7 := Lib.hid r7; have hz7 : Y1.heap.size + 1 ≤ W7.heap.size := (by have := hg7.size; simp at this; omega); have ca7 := HCY.out W7 b7; have ca7b := HCY.out _ (b7.alloc b7.size (.cells #[.string ⟨rt.toArray⟩] 9)); have ho7 := Lib.hid ho7; have b7 := Lib.hid b7; clear hg7)
          | ((refine step_append_strs (.tmp 105) (.tmp 106) (Y1.heap.size + 1) [] pr (.slice (some ⟨Y1.heap.size + 1, 0, none⟩) 0 0) (.slice A' n' c') ((by have h := own_zeroL 9 encS (Y1.alloc (.cells #[.string ⟨rt.toArray⟩] 9)); simpa using h)) (HPL.out _ (((Below.refl Y1.heap.size Y1).alloc (Nat.le_refl _) (.cells #[.string ⟨rt.toArray⟩] 9)).alloc (by simp) (.cells #[] 9))) (by have := HP.out.2.2.1; simp; omega) (by simp <;> omega) rfl rfl rfl rfl ?_); intro v7 W7 ho7 hg7; have b7 := (((Below.refl Y1.heap.size Y1).alloc (Nat.le_refl _) (.cells #[.string ⟨rt.toArray⟩] 9)).alloc (by simp) (.cells #[] 9)).grown hg7 (by simp <;> omega) (fun j e => by simp [Value.ownBlock] at e; omega); rw [List.nil_append] at ho7; have r7 : RowAt W7 (Y1.heap.size) 9 #[.string ⟨rt.toArray⟩] := (hg7.block _ ((RowAt.new Y1 9 #[.string ⟨rt.toArray⟩]).alloc (.cells #[] 9)).lt (by simp [Value.ownBlock])).trans ((RowAt.new Y1 9 #[.string ⟨rt.toArray⟩]).alloc (.cells #[] 9)); have r7 := Lib.hid r7; have hz7 : Y1.heap.size + 1 ≤ W7.heap.size := (by have := hg7.size; simp at this; omega); have ca7 := HCY.out W7 b7; have ca7b := HCY.out _ (b7.alloc b7.size (.cells #[.string ⟨rt.toArray⟩] 9)); have ho7 := Lib.hid ho7; have b7 := Lib.hid b7; clear hg7)
          | ((refine step_append_strs (.tmp 105) (.tmp 106) (Y1.heap.size + 1) [] pr (.slice (some ⟨Y1.heap.size + 1, 0, none⟩) 0 0) (.slice A' n' c') ((by have h := (own_zeroL 9 encS (Y1.alloc (.cells #[.string ⟨rt.toArray⟩] 9))).below (Below.refl _ _).drew; simpa using h)) (HPL.out _ ((((Below.refl Y1.heap.size Y1).alloc (Nat.le_refl _) (.cells #[.string ⟨rt.toArray⟩] 9)).alloc (by simp) (.cells #[] 9)).drew)) (by have := HP.out.2.2.1; simp; omega) (by simp <;> omega) rfl rfl rfl rfl ?_); intro v7 W7 ho7 hg7; have b7 := ((((Below.refl Y1.heap.size Y1).alloc (Nat.le_refl _) (.cells #[.string ⟨rt.toArray⟩] 9)).alloc (by simp) (.cells #[] 9)).drew).grown hg7 (by simp <;> omega) (fun j e => by simp [Value.ownBlock] at e; omega); rw [List.nil_append] at ho7; have r7 : RowAt W7 (Y1.heap.size) 9 #[.string ⟨rt.toArray⟩] := (hg7.block _ (((RowAt.new Y1 9 #[.string ⟨rt.toArray⟩]).alloc (.cells #[] 9)).drew).lt (by simp [Value.ownBlock])).trans (((RowAt.new Y1 9 #[.string ⟨rt.toArray⟩]).alloc (.cells #[] 9)).drew); have r7 := Lib.hid r7; have hz7 : Y1.heap.size + 1 ≤ W7.heap.size := (by have := hg7.size; simp at this; omega); have ca7 := HCY.out W7 b7; have ca7b := HCY.out _ (b7.alloc b7.size (.cells #[.string ⟨rt.toArray⟩] 9)); have ho7 := Lib.hid ho7; have b7 := Lib.hid b7; clear hg7)
          | ((refine step_append_strs (.tmp 105) (.tmp 106) (Y1.heap.size + 1) [] pr (.slice (some ⟨Y1.heap.size + 1, 0, none⟩) 0 0) (.slice A' n' c') ((by have h := own_zeroL 9 encS ((Y1.alloc (.cells #[.string ⟨rt.toArray⟩] 9)).drew); simpa using h)) (HPL.out _ ((((Below.refl Y1.heap.size Y1).alloc (Nat.le_refl _) (.cells #[.string ⟨rt.toArray⟩] 9)).drew.alloc (by simp) (.cells #[] 9)))) (by have := HP.out.2.2.1; simp; omega) (by simp <;> omega) rfl rfl rfl rfl ?_); intro v7 W7 ho7 hg7; have b7 := ((((Below.refl Y1.heap.size Y1).alloc (Nat.le_refl _) (.cells #[.string ⟨rt.toArray⟩] 9)).drew.alloc (by simp) (.cells #[] 9))).grown hg7 (by simp <;> omega) (fun j e => by simp [Value.ownBlock] at e; omega); rw [List.nil_append] at ho7; have r7 : RowAt W7 (Y1.heap.size) 9 #[.string ⟨rt.toArray⟩] := (hg7.block _ (((RowAt.new Y1 9 #[.string ⟨rt.toArray⟩]).drew.alloc (.cells #[] 9))).lt (by simp [Value.ownBlock])).trans (((RowAt.new Y1 9 #[.string ⟨rt.toArray⟩]).drew.alloc (.cells #[] 9))); have r7 := Lib.hid r7; have hz7 : Y1.heap.size + 1 ≤ W7.heap.size := (by have := hg7.size; simp at this; omega); have ca7 := HCY.out W7 b7; have ca7b := HCY.out _ (b7.alloc b7.size (.cells #[.string ⟨rt.toArray⟩] 9)); have ho7 := Lib.hid ho7; have b7 := Lib.hid b7; clear hg7)
          | ((refine step_append_one rfl (.tmp 107) (.tmp 109) 22 rfl Tryd.underlying22 string_info rfl (by decide) rfl (ho7.out.below ((Below.refl W7.heap.size W7).alloc (Nat.le_refl _) (.cells #[.string ⟨rt.toArray⟩] 9))) (W7.heap.size) 1 rt rfl rfl (by rw [(RowAt.new W7 9 _).cell 0]; rfl) (by have := HP.out.2.2.1; omega) (by first | omega | (simp; omega) | simp) ?_); intro v8 W8 ho8 hg8; have b8 := (b7.out.trans ((((Below.refl W7.heap.size W7).alloc (Nat.le_refl _) (.cells #[.string ⟨rt.toArray⟩] 9))).mono b7.out.size)).grown hg8 (by first | omega | (simp; omega) | simp) (fun j e => by have := (OwnL.lt (ho7.out.below ((Below.refl W7.heap.size W7).alloc (Nat.le_refl _) (.cells #[.string ⟨rt.toArray⟩] 9))) j e).1; omega); have ca8 := HCY.out W8 b8; have ho8 := Lib.hid ho8; have b8 := Lib.hid b8; clear hg8)
          | ((refine step_append_one rfl (.tmp 107) (.tmp 109) 22 rfl Tryd.underlying22 string_info rfl (by decide) rfl (ho7.out) (Y1.heap.size + 1) 1 rt rfl rfl (by rw [r7.out.cell 0]; rfl) (by have := HP.out.2.2.1; omega) (by first | omega | (simp; omega) | simp) ?_); intro v8 W8 ho8 hg8; have b8 := (b7.out.trans (((Below.refl W7.heap.size W7)).mono b7.out.size)).grown hg8 (by first | omega | (simp; omega) | simp) (fun j e => by have := (OwnL.lt (ho7.out) j e).1; omega); have ca8 := HCY.out W8 b8; have ho8 := Lib.hid ho8; have b8 := Lib.hid b8; clear hg8)
          | ((refine step_append_one rfl (.tmp 107) (.tmp 109) 22 rfl Tryd.underlying22 string_info rfl (by decide) rfl (ho7.out.below (Below.refl W7.heap.size W7).drew) (Y1.heap.size + 1) 1 rt rfl rfl (by rw [r7.out.drew.cell 0]; rfl) (by have := HP.out.2.2.1; omega) (by first | omega | (simp; omega) | simp) ?_); intro v8 W8 ho8 hg8; have b8 := (b7.out.trans (((Below.refl W7.heap.size W7).drew).mono b7.out.size)).grown hg8 (by first | omega | (simp; omega) | simp) (fun j e => by have := (OwnL.lt (ho7.out.below (Below.refl W7.heap.size W7).drew) j e).1; omega); have ca8 := HCY.out W8 b8; have ho8 := Lib.hid ho8; have b8 := Lib.hid b8; clear hg8)
          | ((refine step_append_one rfl (.tmp 107) (.tmp 109) 22 rfl Tryd.underlying22 string_info rfl (by decide) rfl (ho7.out) (Y1.heap.size) 1 rt rfl rfl (by rw [r7.out.cell 0]; rfl) (by have := HP.out.2.2.1; omega) (by first | omega | (simp; omega) | simp) ?_); intro v8 W8 ho8 hg8; have b8 := (b7.out.trans (((Below.refl W7.heap.size W7)).mono b7.out.size)).grown hg8 (by first | omega | (simp; omega) | simp) (fun j e => by have := (OwnL.lt (ho7.out) j e).1; omega); have ca8 := HCY.out W8 b8; have ho8 := Lib.hid ho8; have b8 := Lib.hid b8; clear hg8)
          | ((refine step_append_one rfl (.tmp 107) (.tmp 109) 22 rfl Tryd.underlying22 string_info rfl (by decide) rfl (ho7.out.below (Below.refl W7.heap.size W7).drew) (Y1.heap.size) 1 rt rfl rfl (by rw [r7.out.drew.cell 0]; rfl) (by have := HP.out.2.2.1; omega) (by first | omega | (simp; omega) | simp) ?_); intro v8 W8 ho8 hg8; have b8 := (b7.out.trans (((Below.refl W7.heap.size W7).drew).mono b7.out.size)).grown hg8 (by first | omega | (simp; omega) | simp) (fun j e => by have := (OwnL.lt (ho7.out.below (Below.refl W7.heap.size W7).drew) j e).1; omega); have ca8 := HCY.out W8 b8; have ho8 := Lib.hid ho8; have b8 := Lib.hid b8; clear hg8)
          | ((refine step_go rfl 21 Tryd.func21 rfl (by kernel_rfl) _ _ rfl _ (by simp [Act.eval]) (.bool false) (fun w' => Below Y1.heap.size Y1 w') (VL.out _ _ _ b8.out ho8.out) ?_); intro Y2 hy2; have hy2 := Lib.hid hy2))
          all_goals
            refine NoPanic.normal ?_
            simp only [Act.put, List.getElem_toArray, List.getElem_cons_zero, List.getElem_cons_succ, List.setIfInBounds_toArray, List.set_cons_zero, List.set_cons_succ]
            go_wp2_with fail
            go_meet
            case rel => exact ⟨rfl, hy2⟩
        case rest =>
          obtain ⟨rfl, hz⟩ := hcut
          have cw := HCY.out wc hz.out
          by_cases hn0 : n' = 0
          · subst hn0
            go_wp2_with fail
            go_quiet (fail)
            go_wp2_with fail
            go_ret
            exact ⟨rfl, (by have h := (HW.out _ ((HYW.out _ hz.out))).2.2.1; exact ⟨h.os, h.tape, h.output, h.size, h.block⟩)⟩
          · obtain ⟨b', o', hA'⟩ : ∃ b o, A' = some ⟨b, o, none⟩ := by
              obtain ⟨b, o, h, _⟩ := HP.out.2.1.get (i := 0) (x := pr[0]'(by have := HP.out.2.2.1; omega)) (List.getElem?_eq_getElem _)
              exact ⟨b, o, h⟩
            subst hA'
            by_cases hc1 : c' = 1
            · have hn1 : n' = 1 := by have := HP.out.1; omega
              subst hc1 hn1
              have VS2 := Lib.hid (fun W (hb : Below Y1.heap.size Y1 W) => VS.out W (some ⟨b', o', none⟩) 0 hb (.inl ⟨List.length_eq_zero_iff.1 (by rw [List.length_drop, HP.out.2.2.1]), _, _, rfl⟩) (by omega) (by omega))
              go_wp2_with fail
              go_region_held3 (fun w' => w'.cell? ⟨b, o + j, none⟩ = some (.string ⟨x.toArray⟩)) (go_keep) (first | (go_at_call 21; (with_reducible refine (VS2.out _ hz.out.drew).mono ?_); rintro e Z ⟨rfl, hZ⟩; have cz : Z.cell? ⟨b, o + j, none⟩ = some (.string ⟨x.toArray⟩) := HCY.out Z hZ))
              go_wp2_with fail
              go_ret
              exact ⟨rfl, (HW.out _ ((HYW.out _ hZ))).2.2.1⟩
            · have VS2 := Lib.hid (fun W (hb : Below Y1.heap.size Y1 W) => VS.out W (some ⟨b', o' + 1, none⟩) (c' - 1) hb ((HPL.out W hb).drop 1 _) (by have := HP.out.1; omega) (by omega))
              have hpos : decide (0 < n') = true := by simp; omega
              have hn1 : (1 : Int) ≤ (n' : Int) := by omega
              go_wp2_with fail
              go_region_held3 (fun w' => w'.cell? ⟨b, o + j, none⟩ = some (.string ⟨x.toArray⟩)) (go_keep) (first | (go_at_call 21; (with_reducible refine (VS2.out _ hz.out.drew).mono ?_); rintro e Z ⟨rfl, hZ⟩; have cz : Z.cell? ⟨b, o + j, none⟩ = some (.string ⟨x.toArray⟩) := HCY.out Z hZ))
              go_wp2_with fail
              go_ret
              exact ⟨rfl, (HW.out _ ((HYW.out _ hZ))).2.2.1⟩
      · go_wp2_with fail
        refine (proof_out A2 n c2 i wr (by omega)).mono ?_
        rintro e w' ⟨rfl, rfl⟩
        by_cases hi0 : 0 ≤ i
        · have hi0d : decide (0 ≤ i) = true := decide_eq_true hi0
          have hind : decide (i < (n : Int)) = false := decide_eq_false (by omega)
          go_wp2_with fail
          refine (verify_out rt [] n i (.slice none 0 0) wr (by omega)).mono ?_
          rintro e w' ⟨rfl, rfl⟩
          go_wp2_with fail
          go_ret
          exact ⟨rfl, (HW.out _ HS.out).2.2.1⟩
        · have hi0d : decide (0 ≤ i) = false := decide_eq_false hi0
          go_wp2_with fail
          refine (verify_out rt [] n i (.slice none 0 0) wr (by omega)).mono ?_
          rintro e w' ⟨rfl, rfl⟩
          go_wp2_with fail
          go_ret
          exact ⟨rfl, (HW.out _ HS.out).2.2.1⟩
end Go.Proofs.YtgmdjbhclihflaaDoor
