/- recoup of a settlement. -/
import Derived.Test.YtejkgnlflhngbaaTmE
import Derived.Test.YtejkgnlflhngbaaTmH
namespace Go.Proofs.Ytejkgnlflhngbaa
open Go Go.RowKit Go.Lib Go.Shelf Go.Maps

theorem first_look {w : World} {mb : Nat} {bs : List (Int × Int)} (h : FirstMap w mb bs) {a : Int} (h1 : -9223372036854775808 ≤ a) (h2 : a ≤ 9223372036854775807) :
    ∃ c, (Instr.lookup 57 (.map (some mb)) (.int .i64 a) true).run Try.prog w = .ok (.tuple #[.int .i64 c, .bool (findB bs a).isSome]) w ∧ ∀ i, findB bs a = some i → c = (i : Int) := by
  obtain ⟨n, D, hn, hm, hr⟩ := h
  obtain ⟨hh, hi⟩ := hr a ⟨h1, h2⟩
  obtain ⟨v, ps, hrun, hv⟩ := hm.look_ok (int_keyed Try.underlying3) Try.underlying57 (show (zeroValue 3).run Try.prog w = .ok (.int .i64 0) w by kernel_rfl) (plainElem_int Try.underlying3 (by decide)) (keyOf_int_mk Try.underlying3 (wf_i64 h1 h2))
  obtain ⟨c, rfl, hc, hw⟩ := plainElem_int_inv Try.underlying3 hv
  refine ⟨c, by rw [hrun, hh], fun i hf => ?_⟩
  have h3 := congrArg Prod.fst hc
  dsimp only at h3
  rw [hi i hf] at h3
  simp only [DataW.lit.injEq, Lit.int.injEq] at h3
  exact h3.2.symm
theorem findB_at {bs : List (Int × Int)} {a : Int} {i : Nat} (h : findB bs a = some i) : ∃ b, bs[i]? = some b ∧ b.1 = a := by
  unfold findB at h
  rw [List.findIdx?_eq_some_iff_getElem] at h
  obtain ⟨hl, hp, _⟩ := h
  exact ⟨bs[i], List.getElem?_eq_getElem hl, by simpa using hp⟩
theorem findB_set {bs : List (Int × Int)} {i : Nat} {b : Int × Int} (h : bs[i]? = some b) (y : Int) (a : Int) : findB (bs.set i (b.1, y)) a = findB bs a := by
  have e : (bs.set i (b.1, y)).map (·.1) = bs.map (·.1) := by
    rw [List.map_set]
    obtain ⟨hl, hb⟩ := List.getElem?_eq_some_iff.1 h
    apply List.ext_getElem?
    intro j
    rw [List.getElem?_set]
    split
    · rename_i hj
      subst hj
      simp [hl, hb]
    · rfl
  have f : ∀ l : List (Int × Int), findB l a = (l.map (·.1)).findIdx? (· == a) := fun l => by
    unfold findB
    rw [List.findIdx?_map]
    rfl
  rw [f, f, e]
theorem FirstMap.set {w : World} {mb : Nat} {bs : List (Int × Int)} (h : FirstMap w mb bs) {i : Nat} {b : Int × Int} (hi : bs[i]? = some b) (y : Int) : FirstMap w mb (bs.set i (b.1, y)) := by
  obtain ⟨n, D, hn, hm, hr⟩ := h
  refine ⟨n, D, by rw [List.length_set]; exact hn, hm, fun a ha => ?_⟩
  rw [findB_set hi]
  exact hr a ha
theorem iCells_set2 : ∀ (bs : List (Int × Int)) (i : Nat) (b : Int × Int) (y : Int), bs[i]? = some b → (iCells (bs.map p2)).set (i * 2 + 1) (.int .i64 y) = iCells ((bs.set i (b.1, y)).map p2)
  | [], i, b, y, h => by simp at h
  | z :: bs, 0, b, y, h => by
    simp at h
    subst h
    rfl
  | z :: bs, i + 1, b, y, h => by
    have e : ∀ l : List (Int × Int), iCells ((z :: l).map p2) = .int .i64 z.1 :: .int .i64 z.2 :: iCells (l.map p2) := fun l => rfl
    rw [e, show (z :: bs).set (i + 1) (b.1, y) = z :: bs.set i (b.1, y) from rfl, e, show (i + 1) * 2 + 1 = (i * 2 + 1) + 1 + 1 by omega]
    show _ :: _ :: (iCells (bs.map p2)).set (i * 2 + 1) _ = _
    rw [iCells_set2 bs i b y (by simpa using h)]
theorem SetAt.setB {B nb mb g n c : Nat} {w : World} {R : RowV} {S : StV} {vp vr : Value} (h : SetAt B w nb mb R S vp vr (.slice (some ⟨g, 0, none⟩) n c)) {i : Nat} {b : Int × Int} (hi : S.bs[i]? = some b) (y : Int) :
    SetAt B (w.setCell ⟨g, i * 2 + 1, none⟩ (.int .i64 y)) nb mb R { S with bs := S.bs.set i (b.1, y) } vp vr (.slice (some ⟨g, 0, none⟩) n c) := by
  have hn : n = S.bs.length := by
    rcases h.bs.2.2 with ⟨e, _⟩ | ⟨g', cap, cur, e, _⟩
    · simp at e
    · simp only [Value.slice.injEq, List.length_map] at e
      exact e.2.1
  subst hn
  have hown := h.bs.2
  rw [List.length_map] at hown
  have hst := hown.stored (i * 2 + 1) (.int .i64 y)
  have hg : ∀ k, k ≠ g → (w.setCell ⟨g, i * 2 + 1, none⟩ (.int .i64 y)).heap[k]? = w.heap[k]? := fun k hk => Below.heap_setCell w ⟨g, i * 2 + 1, none⟩ _ k hk
  have hgb : (Value.slice (some ⟨g, 0, none⟩) S.bs.length c).ownBlock = some g := rfl
  refine ⟨h.hB, (hg nb (h.bs.ne_row (by decide) h.row g hgb).symm).trans h.row, h.ps.kept fun k hk => hg k (fun e => h.ps.ne h.bs (by decide) k hk (by rw [e]; rfl)), h.rs.kept fun k hk => hg k (fun e => h.rs.ne h.bs (by decide) k hk (by rw [e]; rfl)), ⟨?_, ?_⟩, (h.map.kept (hg mb ?_)).set hi y⟩
  · intro r hr
    obtain ⟨z, _, rfl⟩ := List.mem_map.1 hr
    rfl
  · rw [List.length_map, List.length_set, ← iCells_set2 _ _ _ _ hi]
    exact hst.1
  · intro e
    subst e
    obtain ⟨_, D, _, ⟨es, clock, hh, _⟩, _⟩ := h.map
    rcases h.bs.2.2 with ⟨e0, _⟩ | ⟨g1, cap, cur, e0, _, hh1, _⟩
    · simp at e0
    · simp at e0
      obtain ⟨rfl, _⟩ := e0
      rw [hh] at hh1
      cases hh1

/-- where a round of recoup stands -/
def RecAt (T : Int) (B : Nat) (w wr : World) (nb mb : Nat) (R : RowV) (_S Z : StV) (vp vr vb : Value) : Prop :=
  SetAt B wr nb mb R Z vp vr vb ∧ GoodS T Z ∧ (∀ b ∈ Z.bs, (-9223372036854775808 ≤ b.1 ∧ b.1 ≤ 9223372036854775807) ∧ -9223372036854775808 ≤ b.2 ∧ b.2 ≤ 9223372036854775807) ∧ Turn B w wr
set_option maxRecDepth 100000 in
set_option maxHeartbeats 8000000 in
theorem recoup_any {T : Int} (B nb mb : Nat) (R : RowV) (S : StV) (vp vr vb : Value) (t : TermV) (va : Value) (w w0 : World) (hs : SetAt B w nb mb R S vp vr vb) (hg : GoodS T S) (hT : T ≤ 1000000000000000000) (hw0 : w0.heap.size ≤ B) (hb0 : Below w0.heap.size w0 w) (hacc : IntsL w0 va t.acc) (hlen : t.acc.length ≤ 1000000)
    (hab : ∀ a ∈ t.acc, -9223372036854775808 ≤ a ∧ a ≤ 9223372036854775807) (hbb : ∀ b ∈ S.bs, (-9223372036854775808 ≤ b.1 ∧ b.1 ≤ 9223372036854775807) ∧ -9223372036854775808 ≤ b.2 ∧ b.2 ≤ 9223372036854775807) :
    Calls Try.prog 44 #[.pointer (some ⟨nb, 0, none⟩), .agg (termC t va)] w fun e w' => e = .returned (.tuple #[]) ∧ RecAt T B w w' nb mb R S (t.acc.foldl recStep S) vp vr vb := by
  obtain ⟨acc, hac⟩ : ∃ z, t.acc = z := ⟨_, rfl⟩
  rw [hac] at hacc hlen hab ⊢
  obtain ⟨xk, hxk⟩ : ∃ z, t.k = z := ⟨_, rfl⟩
  obtain ⟨xn, hxn⟩ : ∃ z, t.n = z := ⟨_, rfl⟩
  obtain ⟨xm, hxm⟩ : ∃ z, t.m = z := ⟨_, rfl⟩
  obtain ⟨xa, hxa⟩ : ∃ z, t.ab = z := ⟨_, rfl⟩
  rw [show termC t va = #[.int .i64 xk, .int .i64 xn, .int .i64 xm, .int .i64 xa, va] by unfold termC; rw [hxk, hxn, hxm, hxa]]
  obtain ⟨W, hW⟩ : ∃ x, w.alloc (.cells #[.int .i64 xk, .int .i64 xn, .int .i64 xm, .int .i64 xa, va] 52) = x := ⟨_, rfl⟩
  have hbW : Below w.heap.size w W := by rw [← hW]; exact (Below.refl _ _).alloc (Nat.le_refl _) _
  have hrow : RowAt W w.heap.size 52 #[.int .i64 xk, .int .i64 xn, .int .i64 xm, .int .i64 xa, va] := by rw [← hW]; exact RowAt.new w _ _
  obtain ⟨tb, htb⟩ : ∃ x, w.heap.size = x := ⟨_, rfl⟩
  have htlt : tb < W.heap.size := by rw [← htb]; exact hrow.lt
  have hs0 := hs.below hbW
  have hBw : B ≤ w.heap.size := Nat.le_of_lt (Nat.lt_of_le_of_lt hs.hB hs.row.lt)
  have HBW0 : Hid (Turn B w W) := Lib.hid (Turn.of_below hbW hBw)
  rw [htb] at hrow
  have htn : tb ≠ nb := by have := hs.row.lt; omega

  have H0 := Lib.hid (show RecAt T B w W nb mb R S S vp vr vb from ⟨hs0, hg, hbb, HBW0.out⟩)
  obtain ⟨AC, cc, rfl⟩ := hacc.slice
  obtain ⟨VA, vn, vc, rfl⟩ := hs.bs.slice3
  obtain ⟨m, hm⟩ : ∃ m, acc.length = m := ⟨_, rfl⟩
  rw [hm] at hlen
  have ca : W.cell? ⟨tb, 4, none⟩ = some (.slice AC m cc) := by rw [← hm]; exact hrow.cell 4
  have HACC := Lib.hid hacc
  have HM := Lib.hid hm
  have HAB := Lib.hid hab
  have HT := Lib.hid hT
  have HIN : Hid (∀ W', Below B w W' → Below w0.heap.size w0 W') := Lib.hid fun W' h => hb0.trans (h.mono hw0)
  rw [hm] at hrow hW ⊢
  clear hac hxk hxn hxm hxa hs hs0 hg hT hb0 hacc hab hbb hbW hrow hm HBW0
  go_enter Try.func44, Try.ntmps44
  go_wp2_with fail
  clear hW htb ca
  go_loopw [12] (fun iv wr => ∃ k : Nat, k ≤ m ∧ iv = .int .i64 k ∧ Hid (RecAt T B w wr nb mb R S ((acc.take k).foldl recStep S) vp vr (.slice VA vn vc))) (fun i _ => m - (intOf i).toNat)
  case atStart => exact ⟨0, by omega, rfl, H0⟩
  case round =>
    obtain ⟨k, hk, rfl, HR⟩ := hrel
    obtain ⟨Z, hZ⟩ : ∃ z, (acc.take k).foldl recStep S = z := ⟨_, rfl⟩
    have hr := HR.out
    rw [hZ] at hr
    clear HR
    obtain ⟨hsz, hgz, hbz, hbw⟩ := hr
    by_cases hk2 : k < m
    · obtain ⟨a, ha⟩ : ∃ a, acc[k]? = some a := ⟨_, List.getElem?_eq_getElem (by rw [HM.out]; exact hk2)⟩
      have hst : (acc.take (k + 1)).foldl recStep S = recStep Z a := by
        rw [List.take_add_one, ha, List.foldl_append, hZ]
        rfl
      obtain ⟨ab, ao, hA, hca⟩ : ∃ b o, AC = some ⟨b, o, none⟩ ∧ wr.cell? ⟨b, o + k, none⟩ = some (.int .i64 a) := by
        rcases (HACC.out.below (HIN.out wr hbw.below)) with ⟨hnil, _⟩ | ⟨b, o, c, he, hlt, hc⟩
        · rw [hnil] at ha; simp at ha
        · simp only [Value.slice.injEq] at he
          exact ⟨b, o, he.1, hc k a ha⟩
      subst hA
      have hba := HAB.out a (List.mem_of_getElem? ha)
      obtain ⟨c, hlk, hci⟩ := first_look hsz.map hba.1 hba.2
      have cfm : wr.cell? ⟨nb, 16, none⟩ = some (.map (some mb)) := hsz.row.cell 16
      have HST := Lib.hid hst
      clear ha hst hZ hba
      rcases hf : findB Z.bs a with _ | i
      · rw [hf] at hlk
        simp only [Option.isSome_none] at hlk
        have hrs : recStep Z a = Z := by unfold recStep; rw [hf]
        have HEND := Lib.hid (show RecAt T B w wr nb mb R S (recStep Z a) vp vr (.slice VA vn vc) from by rw [hrs]; exact ⟨hsz, hgz, hbz, hbw⟩)
        clear hsz hgz hbz hbw hci hf hrs
        go_wp2_with fail
        go_roundw
        case rel => exact ⟨k + 1, by omega, by go_num, Lib.hid (by rw [HST.out]; exact HEND.out)⟩
        case measure => simp [intOf]; omega
      · rw [hf] at hlk
        simp only [Option.isSome_some] at hlk
        obtain rfl := hci i hf
        obtain ⟨⟨a', amt⟩, hbi, hb1⟩ := findB_at hf
        dsimp only at hb1
        subst hb1
        have hil := (List.getElem?_eq_some_iff.1 hbi).1
        obtain ⟨g, hA, hn, hcamt, hfamt, hgB, hgr⟩ : ∃ g, VA = some ⟨g, 0, none⟩ ∧ vn = Z.bs.length ∧ wr.cell? ⟨g, i * 2 + 1, none⟩ = some (.int .i64 amt) ∧ wr.frozen? ⟨g, i * 2 + 1, none⟩ = false ∧ B ≤ g ∧ (∀ W' : World, W'.heap[g]? = wr.heap[g]? → ∃ cur, RowAt W' g 46 cur) := by
          have h1 := hsz.bs.rows.2
          rcases hsz.bs.2.2 with ⟨e0, e1⟩ | ⟨g, cap, cur, e0, hB', hg, _⟩
          · rw [List.length_map] at e1; omega
          · simp only [Value.slice.injEq, List.length_map] at e0
            obtain ⟨rfl, rfl, rfl⟩ := e0
            refine ⟨g, rfl, rfl, ?_, frozen_of_row _ _ _ _ _ hg, hB', fun W' h => ⟨cur, h.trans hg⟩⟩
            rcases h1 with ⟨h2, _⟩ | ⟨b, o, c, he, hlt, hc⟩
            · rw [List.map_eq_nil_iff] at h2; rw [h2] at hil; simp at hil
            · simp only [Value.slice.injEq, Option.some.injEq, Addr.mk.injEq] at he
              obtain ⟨⟨rfl, rfl, _⟩, _⟩ := he
              have h3 := hc i [a', amt] (by rw [List.getElem?_map, hbi]; rfl) 1 amt rfl
              rw [Nat.zero_add] at h3
              exact h3
        subst hA
        have hgn : g ≠ nb := hsz.bs.ne_row (by decide) hsz.row g rfl
        have hiv : i < vn := by rw [hn]; exact hil
        have hbnd := hbz _ (List.mem_of_getElem? hbi)
        dsimp only at hbnd
        have g1 := hgz.l0
        have g2 := hgz.p0
        have g3 := hgz.t0
        have g4 := hgz.r0
        have g5 := hgz.o0
        have g6 := hgz.c0
        have g7 := hgz.sum
        have hT := HT.out
        have hrs : recStep Z a' = { Z with left := Z.left - min Z.left (max amt 0), ro := Z.ro + min Z.left (max amt 0), bs := Z.bs.set i (a', amt - min Z.left (max amt 0)) } := by
          unfold recStep
          rw [hf]
          dsimp only
          rw [hbi]
        have hg2 := hgz.recStep a'
        rw [hrs] at hg2
        obtain ⟨mx, hmx⟩ : ∃ z, max amt 0 = z := ⟨_, rfl⟩
        rw [hmx] at hrs hg2
        obtain ⟨x, hx⟩ : ∃ z, min Z.left mx = z := ⟨_, rfl⟩
        rw [hx] at hrs hg2
        have hxb : 0 ≤ x ∧ x ≤ Z.left ∧ x ≤ mx := by omega
        have TK := Lib.hid (fun (W : World) (h : SetAt B W nb mb R Z vp vr (.slice (some ⟨g, 0, none⟩) vn vc)) => take_any nb 9 x Z.left Z.ro (setC R Z vp vr (.slice (some ⟨g, 0, none⟩) vn vc) (.map (some mb))) W h.row rfl rfl (by omega) (by omega) (by omega) (by omega) (by omega))
        obtain ⟨am2, ham2⟩ : ∃ z, amt - x = z := ⟨_, rfl⟩
        rw [ham2] at hrs hg2
        have wam : IntKind.i64.wrap (amt - x) = am2 := by rw [ham2]; exact IntWalk.i64_in _ (by omega)
        have hk2b : ∀ b ∈ Z.bs.set i (a', am2), (-9223372036854775808 ≤ b.1 ∧ b.1 ≤ 9223372036854775807) ∧ -9223372036854775808 ≤ b.2 ∧ b.2 ≤ 9223372036854775807 := by
          intro b hb
          rcases List.mem_or_eq_of_mem_set hb with h | h
          · exact hbz b h
          · rw [h]
            exact ⟨hbnd.1, by dsimp only; omega⟩
        obtain ⟨l, hl⟩ : ∃ z, Z.left = z := ⟨_, rfl⟩
        have cl : wr.cell? ⟨nb, 12, none⟩ = some (.int .i64 l) := by rw [← hl]; exact hsz.row.cell 12
        have cb : wr.cell? ⟨nb, 15, none⟩ = some (.slice (some ⟨g, 0, none⟩) vn vc) := hsz.row.cell 15
        have mx1 : (if amt < 0 then 0 else amt) = mx := by rw [← hmx]; split <;> omega
        have mn1 : (if mx < l then mx else l) = x := by rw [← hx, hl]; split <;> omega
        have HZ := Lib.hid hsz
        have HZ0 := Lib.hid (hsz.below (Below.refl wr.heap.size wr).drew)
        have HRS := Lib.hid hrs
        have HG2 := Lib.hid hg2
        have HK2 := Lib.hid hk2b
        have HBI : Hid (({ Z with left := Z.left - x, ro := Z.ro + x } : StV).bs[i]? = some (a', amt)) := Lib.hid hbi
        have HGN := Lib.hid hgn
        have HGB := Lib.hid hgB
        have HGR := Lib.hid hgr
        have HBW := Lib.hid hbw
        have CAMT := Lib.hid hcamt
        have FAMT := Lib.hid hfamt
        have HAM := Lib.hid ham2
        clear hsz hgz hbz hbw hci hf hrs hg2 hk2b hbi hgn hgB hgr hl hmx hx hxb hn hil g1 g2 g3 g4 g5 g6 g7 hT hbnd ham2
        go_wp2_with fail
        refine wp_region_held_drew (S := fun _ => True) (by kernel_rfl) trivial (fun hHeld => ?_)
        refine wpAnyH_take (i := 0) (oi := ⟨_, _, _, _, _, _⟩) (v := ?_) rfl (by kernel_rfl) (by kernel_rfl) (by kernel_rfl) (fun _ _ _ h => h) (Or.inl ⟨by rfl, ?_⟩) (by assumption) ?_
        rotate_left
        · intro w hSw
          go_simp
          all_goals with_reducible rfl
        simp only [Act.put, List.setIfInBounds_toArray, List.set_cons_zero, List.set_cons_succ]
        refine wpAnyH_take (i := 1) (oi := ⟨_, _, _, _, _, _⟩) (v := ?_) rfl (by kernel_rfl) (by kernel_rfl) (by kernel_rfl) (fun _ _ _ h => h) (Or.inl ⟨by rfl, ?_⟩) (by assumption) ?_
        rotate_left
        · intro w hSw
          go_simp
          all_goals with_reducible rfl
        simp only [Act.put, List.setIfInBounds_toArray, List.set_cons_zero, List.set_cons_succ]
        refine wpAnyH_take (i := 2) (oi := ⟨_, _, _, _, _, _⟩) (v := ?_) rfl (by kernel_rfl) (by kernel_rfl) (by kernel_rfl) (fun _ _ _ h => h) (Or.inl ⟨by rfl, ?_⟩) (by assumption) ?_
        rotate_left
        · intro w hSw
          go_simp
          all_goals with_reducible rfl
        simp only [Act.put, List.setIfInBounds_toArray, List.set_cons_zero, List.set_cons_succ]
        refine wpAnyH_take (i := 4) (oi := ⟨_, _, _, _, _, _⟩) (v := ?_) rfl (by kernel_rfl) (by kernel_rfl) (by kernel_rfl) (fun _ _ _ h => h) (Or.inl ⟨by rfl, ?_⟩) (by assumption) ?_
        rotate_left
        · intro w hSw
          go_simp
          all_goals with_reducible rfl
        simp only [Act.put, List.setIfInBounds_toArray, List.set_cons_zero, List.set_cons_succ]
        refine wpAnyH_take (i := 5) (oi := ⟨_, _, _, _, _, _⟩) (v := ?_) rfl (by kernel_rfl) (by kernel_rfl) (by kernel_rfl) (fun _ _ _ h => h) (Or.inl ⟨by rfl, ?_⟩) (by assumption) ?_
        rotate_left
        · intro w hSw
          go_simp
          all_goals with_reducible rfl
        simp only [Act.put, List.setIfInBounds_toArray, List.set_cons_zero, List.set_cons_succ]
        refine wpAnyH_take (i := 6) (oi := ⟨_, _, _, _, _, _⟩) (v := ?_) rfl (by kernel_rfl) (by kernel_rfl) (by kernel_rfl) (fun _ _ _ h => h) (Or.inl ⟨by rfl, ?_⟩) (by assumption) ?_
        rotate_left
        · intro w hSw
          go_simp
          all_goals with_reducible rfl
        simp only [Act.put, List.setIfInBounds_toArray, List.set_cons_zero, List.set_cons_succ]
        refine wpAnyH_take (i := 7) (oi := ⟨_, _, _, _, _, _⟩) (v := ?_) rfl (by kernel_rfl) (by kernel_rfl) (by kernel_rfl) (fun _ _ _ h => h) (Or.inl ⟨by rfl, ?_⟩) (by assumption) ?_
        rotate_left
        · intro w hSw
          go_simp
          all_goals with_reducible rfl
        simp only [Act.put, List.setIfInBounds_toArray, List.set_cons_zero, List.set_cons_succ]
        refine wpAnyH_take (i := 9) (oi := ⟨_, _, _, _, _, _⟩) (v := ?_) rfl (by kernel_rfl) (by kernel_rfl) (by kernel_rfl) (fun _ _ _ h => h) (Or.inl ⟨by rfl, ?_⟩) (by assumption) ?_
        rotate_left
        · intro w hSw
          go_simp
          all_goals with_reducible rfl
        simp only [Act.put, List.setIfInBounds_toArray, List.set_cons_zero, List.set_cons_succ]
        refine wpAnyH_take (i := 10) (oi := ⟨_, _, _, _, _, _⟩) (v := ?_) rfl (by kernel_rfl) (by kernel_rfl) (by kernel_rfl) (fun _ _ _ h => h) (Or.inl ⟨by rfl, ?_⟩) (by assumption) ?_
        rotate_left
        · intro w hSw
          go_simp
          all_goals with_reducible rfl
        simp only [Act.put, List.setIfInBounds_toArray, List.set_cons_zero, List.set_cons_succ]
        refine wpAnyH_take (i := 11) (oi := ⟨_, _, _, _, _, _⟩) (v := ?_) rfl (by kernel_rfl) (by kernel_rfl) (by kernel_rfl) (fun _ _ _ h => h) (Or.inl ⟨by rfl, ?_⟩) (by assumption) ?_
        rotate_left
        · intro w hSw
          go_simp
          all_goals with_reducible rfl
        simp only [Act.put, List.setIfInBounds_toArray, List.set_cons_zero, List.set_cons_succ]
        refine wpAnyH_take (i := 15) (oi := ⟨_, _, _, _, _, _⟩) (v := ?_) rfl (by kernel_rfl) (by kernel_rfl) (by kernel_rfl) (fun _ _ _ h => h) (Or.inl ⟨by rfl, ?_⟩) (by assumption) ?_
        rotate_left
        · intro w hSw
          go_simp
          all_goals with_reducible rfl
        simp only [Act.put, List.setIfInBounds_toArray, List.set_cons_zero, List.set_cons_succ]
        refine wpAnyH_take (i := 16) (oi := ⟨_, _, _, _, _, _⟩) (v := ?_) rfl (by kernel_rfl) (by kernel_rfl) (by kernel_rfl) (fun _ _ _ h => h) (Or.inl ⟨by rfl, ?_⟩) (by assumption) ?_
        rotate_left
        · intro w hSw
          go_simp
          all_goals with_reducible rfl
        simp only [Act.put, List.setIfInBounds_toArray, List.set_cons_zero, List.set_cons_succ]
        refine wpAnyH_take (i := 17) (oi := ⟨_, _, _, _, _, _⟩) (v := ?_) rfl (by kernel_rfl) (by kernel_rfl) (by kernel_rfl) (fun _ _ _ h => h) (Or.inl ⟨by rfl, ?_⟩) (by assumption) ?_
        rotate_left
        · intro w hSw
          go_simp
          all_goals with_reducible rfl
        simp only [Act.put, List.setIfInBounds_toArray, List.set_cons_zero, List.set_cons_succ]
        refine wpAnyH_take (i := 18) (oi := ⟨_, _, _, _, _, _⟩) (v := ?_) rfl (by kernel_rfl) (by kernel_rfl) (by kernel_rfl) (fun _ _ _ h => h) (Or.inl ⟨by rfl, ?_⟩) (by assumption) ?_
        rotate_left
        · intro w hSw
          go_simp
          all_goals with_reducible rfl
        simp only [Act.put, List.setIfInBounds_toArray, List.set_cons_zero, List.set_cons_succ]
        refine wpAnyH_ready (rs := [3, 8, 12]) (by kernel_rfl) (by simp) ?_
        refine AllReadyH.cons (o := ⟨_, _, _, _, _, _⟩) rfl (fun K hK => ?_) (AllReadyH.cons (o := ⟨_, _, _, _, _, _⟩) rfl (fun K hK => ?_) (AllReadyH.cons (o := ⟨_, _, _, _, _, _⟩) rfl (fun K hK => ?_) AllReadyH.nil))
        · go_simp
          go_wp2_with fail
          refine hK.out _ _ trivial (fun hHeld => ?_)
          clear hK K
          try simp only [Act.put, List.setIfInBounds_toArray, List.set_cons_zero, List.set_cons_succ]
          refine wpAnyH_ready (rs := [8, 12]) (by kernel_rfl) (by simp) ?_
          refine AllReadyH.cons (o := ⟨_, _, _, _, _, _⟩) rfl (fun K hK => ?_) (AllReadyH.cons (o := ⟨_, _, _, _, _, _⟩) rfl (fun K hK => ?_) AllReadyH.nil)
          · go_simp
            go_wp2_with fail
            refine hK.out _ _ trivial (fun hHeld => ?_)
            clear hK K
            try simp only [Act.put, List.setIfInBounds_toArray, List.set_cons_zero, List.set_cons_succ]
            refine wpAnyH_ready (rs := [12]) (by kernel_rfl) (by simp) ?_
            refine AllReadyH.cons (o := ⟨_, _, _, _, _, _⟩) rfl (fun K hK => ?_) AllReadyH.nil
            go_simp
            go_wp2_with fail
            refine hK.out _ _ trivial (fun hHeld => ?_)
            clear hK K
            try simp only [Act.put, List.setIfInBounds_toArray, List.set_cons_zero, List.set_cons_succ]
            refine wpAnyH_ready (rs := [13]) (by kernel_rfl) (by simp) ?_
            refine AllReadyH.cons (o := ⟨_, _, _, _, _, _⟩) rfl (fun K hK => ?_) AllReadyH.nil
            go_simp
            go_wp2_with fail
            refine hK.out _ _ trivial (fun hHeld => ?_)
            clear hK K
            try simp only [Act.put, List.setIfInBounds_toArray, List.set_cons_zero, List.set_cons_succ]
            refine wpAnyH_ready (rs := [14]) (by kernel_rfl) (by simp) ?_
            refine AllReadyH.cons (o := ⟨_, _, _, _, _, _⟩) rfl (fun K hK => ?_) AllReadyH.nil
            go_simp
            go_wp2_with fail
            refine hK.out _ _ trivial (fun hHeld => ?_)
            clear hK K
            try simp only [Act.put, List.setIfInBounds_toArray, List.set_cons_zero, List.set_cons_succ]
            refine wpAnyH_ready (rs := [19]) (by kernel_rfl) (by simp) ?_
            refine AllReadyH.cons (o := ⟨_, _, _, _, _, _⟩) rfl (fun K hK => ?_) AllReadyH.nil
            go_simp
            (go_at_call 50; refine (TK.out _ HZ0.out).mono ?_; rintro e w2 ⟨rfl, hr2, ho⟩)
            have camt2 : w2.cell? ⟨g, i * 2 + 1, none⟩ = some (.int .i64 amt) := (cell_same (ho.other g HGN.out)).trans CAMT.out
            have famt2 : w2.frozen? ⟨g, i * 2 + 1, none⟩ = false := (World.frozen?_of_block (a := ⟨g, i * 2 + 1, none⟩) (ho.other g HGN.out)).trans FAMT.out
            have HS2 := Lib.hid (HZ0.out.only ho hr2 (S' := { Z with left := Z.left - x, ro := Z.ro + x }) rfl rfl rfl)
            have HB2 := Lib.hid (Turn.of_only ho HZ0.out.row HZ.out.hB)
            obtain ⟨cur2, hcur2⟩ : ∃ cur, RowAt w2 g 46 cur := HGR.out w2 (ho.other g HGN.out)
            have HRG := Lib.hid hcur2
            clear hcur2
            clear hr2 ho
            go_wp2_with fail
            refine hK.out _ _ trivial (fun hHeld => ?_)
            clear hK K
            try simp only [Act.put, List.setIfInBounds_toArray, List.set_cons_zero, List.set_cons_succ]
            refine wpAnyH_take (i := 20) (oi := ⟨_, _, _, _, _, _⟩) (v := ?_) rfl (by kernel_rfl) (by kernel_rfl) (by kernel_rfl) (fun _ _ _ h => h) (Or.inl ⟨by rfl, ?_⟩) (by assumption) ?_
            rotate_left
            · intro w hSw
              go_simp
              all_goals with_reducible rfl
            simp only [Act.put, List.setIfInBounds_toArray, List.set_cons_zero, List.set_cons_succ]
            refine wpAnyH_take (i := 21) (oi := ⟨_, _, _, _, _, _⟩) (v := ?_) rfl (by kernel_rfl) (by kernel_rfl) (by kernel_rfl) (fun _ _ _ h => h) (Or.inl ⟨by rfl, ?_⟩) (by assumption) ?_
            rotate_left
            · intro w hSw
              go_simp
              all_goals with_reducible rfl
            simp only [Act.put, List.setIfInBounds_toArray, List.set_cons_zero, List.set_cons_succ]
            refine wpAnyH_take (i := 22) (oi := ⟨_, _, _, _, _, _⟩) (v := ?_) rfl (by kernel_rfl) (by kernel_rfl) (by kernel_rfl) (fun _ _ _ h => h) (Or.inl ⟨by rfl, ?_⟩) (by assumption) ?_
            rotate_left
            · intro w hSw
              go_simp
              all_goals with_reducible rfl
            simp only [Act.put, List.setIfInBounds_toArray, List.set_cons_zero, List.set_cons_succ]
            refine wpAnyH_ready (rs := [23]) (by kernel_rfl) (by simp) ?_
            refine AllReadyH.cons (o := ⟨_, _, _, _, _, _⟩) rfl (fun K hK => ?_) AllReadyH.nil
            go_simp
            go_wp2_with fail
            refine hK.out _ _ trivial (fun hHeld => ?_)
            clear hK K
            try simp only [Act.put, List.setIfInBounds_toArray, List.set_cons_zero, List.set_cons_succ]
            refine wpAnyH_done (by kernel_rfl) ?_ _
            have HEND := Lib.hid (show RecAt T B w (w2.setCell ⟨g, i * 2 + 1, none⟩ (.int .i64 am2)) nb mb R S (recStep Z a') vp vr (.slice (some ⟨g, 0, none⟩) vn vc) from by
              rw [HRS.out]
              exact ⟨HS2.out.setB HBI.out am2, HG2.out, HK2.out, (HBW.out.trans (Turn.of_below (Below.refl wr.heap.size wr).drew (Nat.le_of_lt (Nat.lt_of_le_of_lt HZ.out.hB HZ.out.row.lt)))).trans (HB2.out.trans (Turn.of_set HRG.out HGB.out _ _))⟩)
            clear hHeld HS2 HB2 camt2 famt2
            go_wp2_with fail
            go_roundw
            case rel => exact ⟨k + 1, by omega, by go_num, Lib.hid (by rw [HST.out]; exact HEND.out)⟩
            case measure => simp [intOf]; omega

          · go_simp
            go_wp2_with fail
            refine hK.out _ _ trivial (fun hHeld => ?_)
            clear hK K
            try simp only [Act.put, List.setIfInBounds_toArray, List.set_cons_zero, List.set_cons_succ]
            refine wpAnyH_ready (rs := [8, 13]) (by kernel_rfl) (by simp) ?_
            refine AllReadyH.cons (o := ⟨_, _, _, _, _, _⟩) rfl (fun K hK => ?_) (AllReadyH.cons (o := ⟨_, _, _, _, _, _⟩) rfl (fun K hK => ?_) AllReadyH.nil)
            · go_simp
              go_wp2_with fail
              refine hK.out _ _ trivial (fun hHeld => ?_)
              clear hK K
              try simp only [Act.put, List.setIfInBounds_toArray, List.set_cons_zero, List.set_cons_succ]
              refine wpAnyH_ready (rs := [13]) (by kernel_rfl) (by simp) ?_
              refine AllReadyH.cons (o := ⟨_, _, _, _, _, _⟩) rfl (fun K hK => ?_) AllReadyH.nil
              go_simp
              go_wp2_with fail
              refine hK.out _ _ trivial (fun hHeld => ?_)
              clear hK K
              try simp only [Act.put, List.setIfInBounds_toArray, List.set_cons_zero, List.set_cons_succ]
              refine wpAnyH_ready (rs := [14]) (by kernel_rfl) (by simp) ?_
              refine AllReadyH.cons (o := ⟨_, _, _, _, _, _⟩) rfl (fun K hK => ?_) AllReadyH.nil
              go_simp
              go_wp2_with fail
              refine hK.out _ _ trivial (fun hHeld => ?_)
              clear hK K
              try simp only [Act.put, List.setIfInBounds_toArray, List.set_cons_zero, List.set_cons_succ]
              refine wpAnyH_ready (rs := [19]) (by kernel_rfl) (by simp) ?_
              refine AllReadyH.cons (o := ⟨_, _, _, _, _, _⟩) rfl (fun K hK => ?_) AllReadyH.nil
              go_simp
              (go_at_call 50; refine (TK.out _ HZ0.out).mono ?_; rintro e w2 ⟨rfl, hr2, ho⟩)
              have camt2 : w2.cell? ⟨g, i * 2 + 1, none⟩ = some (.int .i64 amt) := (cell_same (ho.other g HGN.out)).trans CAMT.out
              have famt2 : w2.frozen? ⟨g, i * 2 + 1, none⟩ = false := (World.frozen?_of_block (a := ⟨g, i * 2 + 1, none⟩) (ho.other g HGN.out)).trans FAMT.out
              have HS2 := Lib.hid (HZ0.out.only ho hr2 (S' := { Z with left := Z.left - x, ro := Z.ro + x }) rfl rfl rfl)
              have HB2 := Lib.hid (Turn.of_only ho HZ0.out.row HZ.out.hB)
              obtain ⟨cur2, hcur2⟩ : ∃ cur, RowAt w2 g 46 cur := HGR.out w2 (ho.other g HGN.out)
              have HRG := Lib.hid hcur2
              clear hcur2
              clear hr2 ho
              go_wp2_with fail
              refine hK.out _ _ trivial (fun hHeld => ?_)
              clear hK K
              try simp only [Act.put, List.setIfInBounds_toArray, List.set_cons_zero, List.set_cons_succ]
              refine wpAnyH_take (i := 20) (oi := ⟨_, _, _, _, _, _⟩) (v := ?_) rfl (by kernel_rfl) (by kernel_rfl) (by kernel_rfl) (fun _ _ _ h => h) (Or.inl ⟨by rfl, ?_⟩) (by assumption) ?_
              rotate_left
              · intro w hSw
                go_simp
                all_goals with_reducible rfl
              simp only [Act.put, List.setIfInBounds_toArray, List.set_cons_zero, List.set_cons_succ]
              refine wpAnyH_take (i := 21) (oi := ⟨_, _, _, _, _, _⟩) (v := ?_) rfl (by kernel_rfl) (by kernel_rfl) (by kernel_rfl) (fun _ _ _ h => h) (Or.inl ⟨by rfl, ?_⟩) (by assumption) ?_
              rotate_left
              · intro w hSw
                go_simp
                all_goals with_reducible rfl
              simp only [Act.put, List.setIfInBounds_toArray, List.set_cons_zero, List.set_cons_succ]
              refine wpAnyH_take (i := 22) (oi := ⟨_, _, _, _, _, _⟩) (v := ?_) rfl (by kernel_rfl) (by kernel_rfl) (by kernel_rfl) (fun _ _ _ h => h) (Or.inl ⟨by rfl, ?_⟩) (by assumption) ?_
              rotate_left
              · intro w hSw
                go_simp
                all_goals with_reducible rfl
              simp only [Act.put, List.setIfInBounds_toArray, List.set_cons_zero, List.set_cons_succ]
              refine wpAnyH_ready (rs := [23]) (by kernel_rfl) (by simp) ?_
              refine AllReadyH.cons (o := ⟨_, _, _, _, _, _⟩) rfl (fun K hK => ?_) AllReadyH.nil
              go_simp
              go_wp2_with fail
              refine hK.out _ _ trivial (fun hHeld => ?_)
              clear hK K
              try simp only [Act.put, List.setIfInBounds_toArray, List.set_cons_zero, List.set_cons_succ]
              refine wpAnyH_done (by kernel_rfl) ?_ _
              have HEND := Lib.hid (show RecAt T B w (w2.setCell ⟨g, i * 2 + 1, none⟩ (.int .i64 am2)) nb mb R S (recStep Z a') vp vr (.slice (some ⟨g, 0, none⟩) vn vc) from by
                rw [HRS.out]
                exact ⟨HS2.out.setB HBI.out am2, HG2.out, HK2.out, (HBW.out.trans (Turn.of_below (Below.refl wr.heap.size wr).drew (Nat.le_of_lt (Nat.lt_of_le_of_lt HZ.out.hB HZ.out.row.lt)))).trans (HB2.out.trans (Turn.of_set HRG.out HGB.out _ _))⟩)
              clear hHeld HS2 HB2 camt2 famt2
              go_wp2_with fail
              go_roundw
              case rel => exact ⟨k + 1, by omega, by go_num, Lib.hid (by rw [HST.out]; exact HEND.out)⟩
              case measure => simp [intOf]; omega

            · go_simp
              go_wp2_with fail
              refine hK.out _ _ trivial (fun hHeld => ?_)
              clear hK K
              try simp only [Act.put, List.setIfInBounds_toArray, List.set_cons_zero, List.set_cons_succ]
              refine wpAnyH_ready (rs := [8]) (by kernel_rfl) (by simp) ?_
              refine AllReadyH.cons (o := ⟨_, _, _, _, _, _⟩) rfl (fun K hK => ?_) AllReadyH.nil
              go_simp
              go_wp2_with fail
              refine hK.out _ _ trivial (fun hHeld => ?_)
              clear hK K
              try simp only [Act.put, List.setIfInBounds_toArray, List.set_cons_zero, List.set_cons_succ]
              refine wpAnyH_ready (rs := [14]) (by kernel_rfl) (by simp) ?_
              refine AllReadyH.cons (o := ⟨_, _, _, _, _, _⟩) rfl (fun K hK => ?_) AllReadyH.nil
              go_simp
              go_wp2_with fail
              refine hK.out _ _ trivial (fun hHeld => ?_)
              clear hK K
              try simp only [Act.put, List.setIfInBounds_toArray, List.set_cons_zero, List.set_cons_succ]
              refine wpAnyH_ready (rs := [19]) (by kernel_rfl) (by simp) ?_
              refine AllReadyH.cons (o := ⟨_, _, _, _, _, _⟩) rfl (fun K hK => ?_) AllReadyH.nil
              go_simp
              (go_at_call 50; refine (TK.out _ HZ0.out).mono ?_; rintro e w2 ⟨rfl, hr2, ho⟩)
              have camt2 : w2.cell? ⟨g, i * 2 + 1, none⟩ = some (.int .i64 amt) := (cell_same (ho.other g HGN.out)).trans CAMT.out
              have famt2 : w2.frozen? ⟨g, i * 2 + 1, none⟩ = false := (World.frozen?_of_block (a := ⟨g, i * 2 + 1, none⟩) (ho.other g HGN.out)).trans FAMT.out
              have HS2 := Lib.hid (HZ0.out.only ho hr2 (S' := { Z with left := Z.left - x, ro := Z.ro + x }) rfl rfl rfl)
              have HB2 := Lib.hid (Turn.of_only ho HZ0.out.row HZ.out.hB)
              obtain ⟨cur2, hcur2⟩ : ∃ cur, RowAt w2 g 46 cur := HGR.out w2 (ho.other g HGN.out)
              have HRG := Lib.hid hcur2
              clear hcur2
              clear hr2 ho
              go_wp2_with fail
              refine hK.out _ _ trivial (fun hHeld => ?_)
              clear hK K
              try simp only [Act.put, List.setIfInBounds_toArray, List.set_cons_zero, List.set_cons_succ]
              refine wpAnyH_take (i := 20) (oi := ⟨_, _, _, _, _, _⟩) (v := ?_) rfl (by kernel_rfl) (by kernel_rfl) (by kernel_rfl) (fun _ _ _ h => h) (Or.inl ⟨by rfl, ?_⟩) (by assumption) ?_
              rotate_left
              · intro w hSw
                go_simp
                all_goals with_reducible rfl
              simp only [Act.put, List.setIfInBounds_toArray, List.set_cons_zero, List.set_cons_succ]
              refine wpAnyH_take (i := 21) (oi := ⟨_, _, _, _, _, _⟩) (v := ?_) rfl (by kernel_rfl) (by kernel_rfl) (by kernel_rfl) (fun _ _ _ h => h) (Or.inl ⟨by rfl, ?_⟩) (by assumption) ?_
              rotate_left
              · intro w hSw
                go_simp
                all_goals with_reducible rfl
              simp only [Act.put, List.setIfInBounds_toArray, List.set_cons_zero, List.set_cons_succ]
              refine wpAnyH_take (i := 22) (oi := ⟨_, _, _, _, _, _⟩) (v := ?_) rfl (by kernel_rfl) (by kernel_rfl) (by kernel_rfl) (fun _ _ _ h => h) (Or.inl ⟨by rfl, ?_⟩) (by assumption) ?_
              rotate_left
              · intro w hSw
                go_simp
                all_goals with_reducible rfl
              simp only [Act.put, List.setIfInBounds_toArray, List.set_cons_zero, List.set_cons_succ]
              refine wpAnyH_ready (rs := [23]) (by kernel_rfl) (by simp) ?_
              refine AllReadyH.cons (o := ⟨_, _, _, _, _, _⟩) rfl (fun K hK => ?_) AllReadyH.nil
              go_simp
              go_wp2_with fail
              refine hK.out _ _ trivial (fun hHeld => ?_)
              clear hK K
              try simp only [Act.put, List.setIfInBounds_toArray, List.set_cons_zero, List.set_cons_succ]
              refine wpAnyH_done (by kernel_rfl) ?_ _
              have HEND := Lib.hid (show RecAt T B w (w2.setCell ⟨g, i * 2 + 1, none⟩ (.int .i64 am2)) nb mb R S (recStep Z a') vp vr (.slice (some ⟨g, 0, none⟩) vn vc) from by
                rw [HRS.out]
                exact ⟨HS2.out.setB HBI.out am2, HG2.out, HK2.out, (HBW.out.trans (Turn.of_below (Below.refl wr.heap.size wr).drew (Nat.le_of_lt (Nat.lt_of_le_of_lt HZ.out.hB HZ.out.row.lt)))).trans (HB2.out.trans (Turn.of_set HRG.out HGB.out _ _))⟩)
              clear hHeld HS2 HB2 camt2 famt2
              go_wp2_with fail
              go_roundw
              case rel => exact ⟨k + 1, by omega, by go_num, Lib.hid (by rw [HST.out]; exact HEND.out)⟩
              case measure => simp [intOf]; omega



        · go_simp
          go_wp2_with fail
          refine hK.out _ _ trivial (fun hHeld => ?_)
          clear hK K
          try simp only [Act.put, List.setIfInBounds_toArray, List.set_cons_zero, List.set_cons_succ]
          refine wpAnyH_ready (rs := [3, 12]) (by kernel_rfl) (by simp) ?_
          refine AllReadyH.cons (o := ⟨_, _, _, _, _, _⟩) rfl (fun K hK => ?_) (AllReadyH.cons (o := ⟨_, _, _, _, _, _⟩) rfl (fun K hK => ?_) AllReadyH.nil)
          · go_simp
            go_wp2_with fail
            refine hK.out _ _ trivial (fun hHeld => ?_)
            clear hK K
            try simp only [Act.put, List.setIfInBounds_toArray, List.set_cons_zero, List.set_cons_succ]
            refine wpAnyH_ready (rs := [12]) (by kernel_rfl) (by simp) ?_
            refine AllReadyH.cons (o := ⟨_, _, _, _, _, _⟩) rfl (fun K hK => ?_) AllReadyH.nil
            go_simp
            go_wp2_with fail
            refine hK.out _ _ trivial (fun hHeld => ?_)
            clear hK K
            try simp only [Act.put, List.setIfInBounds_toArray, List.set_cons_zero, List.set_cons_succ]
            refine wpAnyH_ready (rs := [13]) (by kernel_rfl) (by simp) ?_
            refine AllReadyH.cons (o := ⟨_, _, _, _, _, _⟩) rfl (fun K hK => ?_) AllReadyH.nil
            go_simp
            go_wp2_with fail
            refine hK.out _ _ trivial (fun hHeld => ?_)
            clear hK K
            try simp only [Act.put, List.setIfInBounds_toArray, List.set_cons_zero, List.set_cons_succ]
            refine wpAnyH_ready (rs := [14]) (by kernel_rfl) (by simp) ?_
            refine AllReadyH.cons (o := ⟨_, _, _, _, _, _⟩) rfl (fun K hK => ?_) AllReadyH.nil
            go_simp
            go_wp2_with fail
            refine hK.out _ _ trivial (fun hHeld => ?_)
            clear hK K
            try simp only [Act.put, List.setIfInBounds_toArray, List.set_cons_zero, List.set_cons_succ]
            refine wpAnyH_ready (rs := [19]) (by kernel_rfl) (by simp) ?_
            refine AllReadyH.cons (o := ⟨_, _, _, _, _, _⟩) rfl (fun K hK => ?_) AllReadyH.nil
            go_simp
            (go_at_call 50; refine (TK.out _ HZ0.out).mono ?_; rintro e w2 ⟨rfl, hr2, ho⟩)
            have camt2 : w2.cell? ⟨g, i * 2 + 1, none⟩ = some (.int .i64 amt) := (cell_same (ho.other g HGN.out)).trans CAMT.out
            have famt2 : w2.frozen? ⟨g, i * 2 + 1, none⟩ = false := (World.frozen?_of_block (a := ⟨g, i * 2 + 1, none⟩) (ho.other g HGN.out)).trans FAMT.out
            have HS2 := Lib.hid (HZ0.out.only ho hr2 (S' := { Z with left := Z.left - x, ro := Z.ro + x }) rfl rfl rfl)
            have HB2 := Lib.hid (Turn.of_only ho HZ0.out.row HZ.out.hB)
            obtain ⟨cur2, hcur2⟩ : ∃ cur, RowAt w2 g 46 cur := HGR.out w2 (ho.other g HGN.out)
            have HRG := Lib.hid hcur2
            clear hcur2
            clear hr2 ho
            go_wp2_with fail
            refine hK.out _ _ trivial (fun hHeld => ?_)
            clear hK K
            try simp only [Act.put, List.setIfInBounds_toArray, List.set_cons_zero, List.set_cons_succ]
            refine wpAnyH_take (i := 20) (oi := ⟨_, _, _, _, _, _⟩) (v := ?_) rfl (by kernel_rfl) (by kernel_rfl) (by kernel_rfl) (fun _ _ _ h => h) (Or.inl ⟨by rfl, ?_⟩) (by assumption) ?_
            rotate_left
            · intro w hSw
              go_simp
              all_goals with_reducible rfl
            simp only [Act.put, List.setIfInBounds_toArray, List.set_cons_zero, List.set_cons_succ]
            refine wpAnyH_take (i := 21) (oi := ⟨_, _, _, _, _, _⟩) (v := ?_) rfl (by kernel_rfl) (by kernel_rfl) (by kernel_rfl) (fun _ _ _ h => h) (Or.inl ⟨by rfl, ?_⟩) (by assumption) ?_
            rotate_left
            · intro w hSw
              go_simp
              all_goals with_reducible rfl
            simp only [Act.put, List.setIfInBounds_toArray, List.set_cons_zero, List.set_cons_succ]
            refine wpAnyH_take (i := 22) (oi := ⟨_, _, _, _, _, _⟩) (v := ?_) rfl (by kernel_rfl) (by kernel_rfl) (by kernel_rfl) (fun _ _ _ h => h) (Or.inl ⟨by rfl, ?_⟩) (by assumption) ?_
            rotate_left
            · intro w hSw
              go_simp
              all_goals with_reducible rfl
            simp only [Act.put, List.setIfInBounds_toArray, List.set_cons_zero, List.set_cons_succ]
            refine wpAnyH_ready (rs := [23]) (by kernel_rfl) (by simp) ?_
            refine AllReadyH.cons (o := ⟨_, _, _, _, _, _⟩) rfl (fun K hK => ?_) AllReadyH.nil
            go_simp
            go_wp2_with fail
            refine hK.out _ _ trivial (fun hHeld => ?_)
            clear hK K
            try simp only [Act.put, List.setIfInBounds_toArray, List.set_cons_zero, List.set_cons_succ]
            refine wpAnyH_done (by kernel_rfl) ?_ _
            have HEND := Lib.hid (show RecAt T B w (w2.setCell ⟨g, i * 2 + 1, none⟩ (.int .i64 am2)) nb mb R S (recStep Z a') vp vr (.slice (some ⟨g, 0, none⟩) vn vc) from by
              rw [HRS.out]
              exact ⟨HS2.out.setB HBI.out am2, HG2.out, HK2.out, (HBW.out.trans (Turn.of_below (Below.refl wr.heap.size wr).drew (Nat.le_of_lt (Nat.lt_of_le_of_lt HZ.out.hB HZ.out.row.lt)))).trans (HB2.out.trans (Turn.of_set HRG.out HGB.out _ _))⟩)
            clear hHeld HS2 HB2 camt2 famt2
            go_wp2_with fail
            go_roundw
            case rel => exact ⟨k + 1, by omega, by go_num, Lib.hid (by rw [HST.out]; exact HEND.out)⟩
            case measure => simp [intOf]; omega

          · go_simp
            go_wp2_with fail
            refine hK.out _ _ trivial (fun hHeld => ?_)
            clear hK K
            try simp only [Act.put, List.setIfInBounds_toArray, List.set_cons_zero, List.set_cons_succ]
            refine wpAnyH_ready (rs := [3, 13]) (by kernel_rfl) (by simp) ?_
            refine AllReadyH.cons (o := ⟨_, _, _, _, _, _⟩) rfl (fun K hK => ?_) (AllReadyH.cons (o := ⟨_, _, _, _, _, _⟩) rfl (fun K hK => ?_) AllReadyH.nil)
            · go_simp
              go_wp2_with fail
              refine hK.out _ _ trivial (fun hHeld => ?_)
              clear hK K
              try simp only [Act.put, List.setIfInBounds_toArray, List.set_cons_zero, List.set_cons_succ]
              refine wpAnyH_ready (rs := [13]) (by kernel_rfl) (by simp) ?_
              refine AllReadyH.cons (o := ⟨_, _, _, _, _, _⟩) rfl (fun K hK => ?_) AllReadyH.nil
              go_simp
              go_wp2_with fail
              refine hK.out _ _ trivial (fun hHeld => ?_)
              clear hK K
              try simp only [Act.put, List.setIfInBounds_toArray, List.set_cons_zero, List.set_cons_succ]
              refine wpAnyH_ready (rs := [14]) (by kernel_rfl) (by simp) ?_
              refine AllReadyH.cons (o := ⟨_, _, _, _, _, _⟩) rfl (fun K hK => ?_) AllReadyH.nil
              go_simp
              go_wp2_with fail
              refine hK.out _ _ trivial (fun hHeld => ?_)
              clear hK K
              try simp only [Act.put, List.setIfInBounds_toArray, List.set_cons_zero, List.set_cons_succ]
              refine wpAnyH_ready (rs := [19]) (by kernel_rfl) (by simp) ?_
              refine AllReadyH.cons (o := ⟨_, _, _, _, _, _⟩) rfl (fun K hK => ?_) AllReadyH.nil
              go_simp
              (go_at_call 50; refine (TK.out _ HZ0.out).mono ?_; rintro e w2 ⟨rfl, hr2, ho⟩)
              have camt2 : w2.cell? ⟨g, i * 2 + 1, none⟩ = some (.int .i64 amt) := (cell_same (ho.other g HGN.out)).trans CAMT.out
              have famt2 : w2.frozen? ⟨g, i * 2 + 1, none⟩ = false := (World.frozen?_of_block (a := ⟨g, i * 2 + 1, none⟩) (ho.other g HGN.out)).trans FAMT.out
              have HS2 := Lib.hid (HZ0.out.only ho hr2 (S' := { Z with left := Z.left - x, ro := Z.ro + x }) rfl rfl rfl)
              have HB2 := Lib.hid (Turn.of_only ho HZ0.out.row HZ.out.hB)
              obtain ⟨cur2, hcur2⟩ : ∃ cur, RowAt w2 g 46 cur := HGR.out w2 (ho.other g HGN.out)
              have HRG := Lib.hid hcur2
              clear hcur2
              clear hr2 ho
              go_wp2_with fail
              refine hK.out _ _ trivial (fun hHeld => ?_)
              clear hK K
              try simp only [Act.put, List.setIfInBounds_toArray, List.set_cons_zero, List.set_cons_succ]
              refine wpAnyH_take (i := 20) (oi := ⟨_, _, _, _, _, _⟩) (v := ?_) rfl (by kernel_rfl) (by kernel_rfl) (by kernel_rfl) (fun _ _ _ h => h) (Or.inl ⟨by rfl, ?_⟩) (by assumption) ?_
              rotate_left
              · intro w hSw
                go_simp
                all_goals with_reducible rfl
              simp only [Act.put, List.setIfInBounds_toArray, List.set_cons_zero, List.set_cons_succ]
              refine wpAnyH_take (i := 21) (oi := ⟨_, _, _, _, _, _⟩) (v := ?_) rfl (by kernel_rfl) (by kernel_rfl) (by kernel_rfl) (fun _ _ _ h => h) (Or.inl ⟨by rfl, ?_⟩) (by assumption) ?_
              rotate_left
              · intro w hSw
                go_simp
                all_goals with_reducible rfl
              simp only [Act.put, List.setIfInBounds_toArray, List.set_cons_zero, List.set_cons_succ]
              refine wpAnyH_take (i := 22) (oi := ⟨_, _, _, _, _, _⟩) (v := ?_) rfl (by kernel_rfl) (by kernel_rfl) (by kernel_rfl) (fun _ _ _ h => h) (Or.inl ⟨by rfl, ?_⟩) (by assumption) ?_
              rotate_left
              · intro w hSw
                go_simp
                all_goals with_reducible rfl
              simp only [Act.put, List.setIfInBounds_toArray, List.set_cons_zero, List.set_cons_succ]
              refine wpAnyH_ready (rs := [23]) (by kernel_rfl) (by simp) ?_
              refine AllReadyH.cons (o := ⟨_, _, _, _, _, _⟩) rfl (fun K hK => ?_) AllReadyH.nil
              go_simp
              go_wp2_with fail
              refine hK.out _ _ trivial (fun hHeld => ?_)
              clear hK K
              try simp only [Act.put, List.setIfInBounds_toArray, List.set_cons_zero, List.set_cons_succ]
              refine wpAnyH_done (by kernel_rfl) ?_ _
              have HEND := Lib.hid (show RecAt T B w (w2.setCell ⟨g, i * 2 + 1, none⟩ (.int .i64 am2)) nb mb R S (recStep Z a') vp vr (.slice (some ⟨g, 0, none⟩) vn vc) from by
                rw [HRS.out]
                exact ⟨HS2.out.setB HBI.out am2, HG2.out, HK2.out, (HBW.out.trans (Turn.of_below (Below.refl wr.heap.size wr).drew (Nat.le_of_lt (Nat.lt_of_le_of_lt HZ.out.hB HZ.out.row.lt)))).trans (HB2.out.trans (Turn.of_set HRG.out HGB.out _ _))⟩)
              clear hHeld HS2 HB2 camt2 famt2
              go_wp2_with fail
              go_roundw
              case rel => exact ⟨k + 1, by omega, by go_num, Lib.hid (by rw [HST.out]; exact HEND.out)⟩
              case measure => simp [intOf]; omega

            · go_simp
              go_wp2_with fail
              refine hK.out _ _ trivial (fun hHeld => ?_)
              clear hK K
              try simp only [Act.put, List.setIfInBounds_toArray, List.set_cons_zero, List.set_cons_succ]
              refine wpAnyH_ready (rs := [3, 14]) (by kernel_rfl) (by simp) ?_
              refine AllReadyH.cons (o := ⟨_, _, _, _, _, _⟩) rfl (fun K hK => ?_) (AllReadyH.cons (o := ⟨_, _, _, _, _, _⟩) rfl (fun K hK => ?_) AllReadyH.nil)
              · go_simp
                go_wp2_with fail
                refine hK.out _ _ trivial (fun hHeld => ?_)
                clear hK K
                try simp only [Act.put, List.setIfInBounds_toArray, List.set_cons_zero, List.set_cons_succ]
                refine wpAnyH_ready (rs := [14]) (by kernel_rfl) (by simp) ?_
                refine AllReadyH.cons (o := ⟨_, _, _, _, _, _⟩) rfl (fun K hK => ?_) AllReadyH.nil
                go_simp
                go_wp2_with fail
                refine hK.out _ _ trivial (fun hHeld => ?_)
                clear hK K
                try simp only [Act.put, List.setIfInBounds_toArray, List.set_cons_zero, List.set_cons_succ]
                refine wpAnyH_ready (rs := [19]) (by kernel_rfl) (by simp) ?_
                refine AllReadyH.cons (o := ⟨_, _, _, _, _, _⟩) rfl (fun K hK => ?_) AllReadyH.nil
                go_simp
                (go_at_call 50; refine (TK.out _ HZ0.out).mono ?_; rintro e w2 ⟨rfl, hr2, ho⟩)
                have camt2 : w2.cell? ⟨g, i * 2 + 1, none⟩ = some (.int .i64 amt) := (cell_same (ho.other g HGN.out)).trans CAMT.out
                have famt2 : w2.frozen? ⟨g, i * 2 + 1, none⟩ = false := (World.frozen?_of_block (a := ⟨g, i * 2 + 1, none⟩) (ho.other g HGN.out)).trans FAMT.out
                have HS2 := Lib.hid (HZ0.out.only ho hr2 (S' := { Z with left := Z.left - x, ro := Z.ro + x }) rfl rfl rfl)
                have HB2 := Lib.hid (Turn.of_only ho HZ0.out.row HZ.out.hB)
                obtain ⟨cur2, hcur2⟩ : ∃ cur, RowAt w2 g 46 cur := HGR.out w2 (ho.other g HGN.out)
                have HRG := Lib.hid hcur2
                clear hcur2
                clear hr2 ho
                go_wp2_with fail
                refine hK.out _ _ trivial (fun hHeld => ?_)
                clear hK K
                try simp only [Act.put, List.setIfInBounds_toArray, List.set_cons_zero, List.set_cons_succ]
                refine wpAnyH_take (i := 20) (oi := ⟨_, _, _, _, _, _⟩) (v := ?_) rfl (by kernel_rfl) (by kernel_rfl) (by kernel_rfl) (fun _ _ _ h => h) (Or.inl ⟨by rfl, ?_⟩) (by assumption) ?_
                rotate_left
                · intro w hSw
                  go_simp
                  all_goals with_reducible rfl
                simp only [Act.put, List.setIfInBounds_toArray, List.set_cons_zero, List.set_cons_succ]
                refine wpAnyH_take (i := 21) (oi := ⟨_, _, _, _, _, _⟩) (v := ?_) rfl (by kernel_rfl) (by kernel_rfl) (by kernel_rfl) (fun _ _ _ h => h) (Or.inl ⟨by rfl, ?_⟩) (by assumption) ?_
                rotate_left
                · intro w hSw
                  go_simp
                  all_goals with_reducible rfl
                simp only [Act.put, List.setIfInBounds_toArray, List.set_cons_zero, List.set_cons_succ]
                refine wpAnyH_take (i := 22) (oi := ⟨_, _, _, _, _, _⟩) (v := ?_) rfl (by kernel_rfl) (by kernel_rfl) (by kernel_rfl) (fun _ _ _ h => h) (Or.inl ⟨by rfl, ?_⟩) (by assumption) ?_
                rotate_left
                · intro w hSw
                  go_simp
                  all_goals with_reducible rfl
                simp only [Act.put, List.setIfInBounds_toArray, List.set_cons_zero, List.set_cons_succ]
                refine wpAnyH_ready (rs := [23]) (by kernel_rfl) (by simp) ?_
                refine AllReadyH.cons (o := ⟨_, _, _, _, _, _⟩) rfl (fun K hK => ?_) AllReadyH.nil
                go_simp
                go_wp2_with fail
                refine hK.out _ _ trivial (fun hHeld => ?_)
                clear hK K
                try simp only [Act.put, List.setIfInBounds_toArray, List.set_cons_zero, List.set_cons_succ]
                refine wpAnyH_done (by kernel_rfl) ?_ _
                have HEND := Lib.hid (show RecAt T B w (w2.setCell ⟨g, i * 2 + 1, none⟩ (.int .i64 am2)) nb mb R S (recStep Z a') vp vr (.slice (some ⟨g, 0, none⟩) vn vc) from by
                  rw [HRS.out]
                  exact ⟨HS2.out.setB HBI.out am2, HG2.out, HK2.out, (HBW.out.trans (Turn.of_below (Below.refl wr.heap.size wr).drew (Nat.le_of_lt (Nat.lt_of_le_of_lt HZ.out.hB HZ.out.row.lt)))).trans (HB2.out.trans (Turn.of_set HRG.out HGB.out _ _))⟩)
                clear hHeld HS2 HB2 camt2 famt2
                go_wp2_with fail
                go_roundw
                case rel => exact ⟨k + 1, by omega, by go_num, Lib.hid (by rw [HST.out]; exact HEND.out)⟩
                case measure => simp [intOf]; omega

              · go_simp
                go_wp2_with fail
                refine hK.out _ _ trivial (fun hHeld => ?_)
                clear hK K
                try simp only [Act.put, List.setIfInBounds_toArray, List.set_cons_zero, List.set_cons_succ]
                refine wpAnyH_ready (rs := [3, 19]) (by kernel_rfl) (by simp) ?_
                refine AllReadyH.cons (o := ⟨_, _, _, _, _, _⟩) rfl (fun K hK => ?_) (AllReadyH.cons (o := ⟨_, _, _, _, _, _⟩) rfl (fun K hK => ?_) AllReadyH.nil)
                · go_simp
                  go_wp2_with fail
                  refine hK.out _ _ trivial (fun hHeld => ?_)
                  clear hK K
                  try simp only [Act.put, List.setIfInBounds_toArray, List.set_cons_zero, List.set_cons_succ]
                  refine wpAnyH_ready (rs := [19]) (by kernel_rfl) (by simp) ?_
                  refine AllReadyH.cons (o := ⟨_, _, _, _, _, _⟩) rfl (fun K hK => ?_) AllReadyH.nil
                  go_simp
                  (go_at_call 50; refine (TK.out _ HZ0.out).mono ?_; rintro e w2 ⟨rfl, hr2, ho⟩)
                  have camt2 : w2.cell? ⟨g, i * 2 + 1, none⟩ = some (.int .i64 amt) := (cell_same (ho.other g HGN.out)).trans CAMT.out
                  have famt2 : w2.frozen? ⟨g, i * 2 + 1, none⟩ = false := (World.frozen?_of_block (a := ⟨g, i * 2 + 1, none⟩) (ho.other g HGN.out)).trans FAMT.out
                  have HS2 := Lib.hid (HZ0.out.only ho hr2 (S' := { Z with left := Z.left - x, ro := Z.ro + x }) rfl rfl rfl)
                  have HB2 := Lib.hid (Turn.of_only ho HZ0.out.row HZ.out.hB)
                  obtain ⟨cur2, hcur2⟩ : ∃ cur, RowAt w2 g 46 cur := HGR.out w2 (ho.other g HGN.out)
                  have HRG := Lib.hid hcur2
                  clear hcur2
                  clear hr2 ho
                  go_wp2_with fail
                  refine hK.out _ _ trivial (fun hHeld => ?_)
                  clear hK K
                  try simp only [Act.put, List.setIfInBounds_toArray, List.set_cons_zero, List.set_cons_succ]
                  refine wpAnyH_take (i := 20) (oi := ⟨_, _, _, _, _, _⟩) (v := ?_) rfl (by kernel_rfl) (by kernel_rfl) (by kernel_rfl) (fun _ _ _ h => h) (Or.inl ⟨by rfl, ?_⟩) (by assumption) ?_
                  rotate_left
                  · intro w hSw
                    go_simp
                    all_goals with_reducible rfl
                  simp only [Act.put, List.setIfInBounds_toArray, List.set_cons_zero, List.set_cons_succ]
                  refine wpAnyH_take (i := 21) (oi := ⟨_, _, _, _, _, _⟩) (v := ?_) rfl (by kernel_rfl) (by kernel_rfl) (by kernel_rfl) (fun _ _ _ h => h) (Or.inl ⟨by rfl, ?_⟩) (by assumption) ?_
                  rotate_left
                  · intro w hSw
                    go_simp
                    all_goals with_reducible rfl
                  simp only [Act.put, List.setIfInBounds_toArray, List.set_cons_zero, List.set_cons_succ]
                  refine wpAnyH_take (i := 22) (oi := ⟨_, _, _, _, _, _⟩) (v := ?_) rfl (by kernel_rfl) (by kernel_rfl) (by kernel_rfl) (fun _ _ _ h => h) (Or.inl ⟨by rfl, ?_⟩) (by assumption) ?_
                  rotate_left
                  · intro w hSw
                    go_simp
                    all_goals with_reducible rfl
                  simp only [Act.put, List.setIfInBounds_toArray, List.set_cons_zero, List.set_cons_succ]
                  refine wpAnyH_ready (rs := [23]) (by kernel_rfl) (by simp) ?_
                  refine AllReadyH.cons (o := ⟨_, _, _, _, _, _⟩) rfl (fun K hK => ?_) AllReadyH.nil
                  go_simp
                  go_wp2_with fail
                  refine hK.out _ _ trivial (fun hHeld => ?_)
                  clear hK K
                  try simp only [Act.put, List.setIfInBounds_toArray, List.set_cons_zero, List.set_cons_succ]
                  refine wpAnyH_done (by kernel_rfl) ?_ _
                  have HEND := Lib.hid (show RecAt T B w (w2.setCell ⟨g, i * 2 + 1, none⟩ (.int .i64 am2)) nb mb R S (recStep Z a') vp vr (.slice (some ⟨g, 0, none⟩) vn vc) from by
                    rw [HRS.out]
                    exact ⟨HS2.out.setB HBI.out am2, HG2.out, HK2.out, (HBW.out.trans (Turn.of_below (Below.refl wr.heap.size wr).drew (Nat.le_of_lt (Nat.lt_of_le_of_lt HZ.out.hB HZ.out.row.lt)))).trans (HB2.out.trans (Turn.of_set HRG.out HGB.out _ _))⟩)
                  clear hHeld HS2 HB2 camt2 famt2
                  go_wp2_with fail
                  go_roundw
                  case rel => exact ⟨k + 1, by omega, by go_num, Lib.hid (by rw [HST.out]; exact HEND.out)⟩
                  case measure => simp [intOf]; omega

                · go_simp
                  (go_at_call 50; refine (TK.out _ HZ0.out).mono ?_; rintro e w2 ⟨rfl, hr2, ho⟩)
                  have camt2 : w2.cell? ⟨g, i * 2 + 1, none⟩ = some (.int .i64 amt) := (cell_same (ho.other g HGN.out)).trans CAMT.out
                  have famt2 : w2.frozen? ⟨g, i * 2 + 1, none⟩ = false := (World.frozen?_of_block (a := ⟨g, i * 2 + 1, none⟩) (ho.other g HGN.out)).trans FAMT.out
                  have HS2 := Lib.hid (HZ0.out.only ho hr2 (S' := { Z with left := Z.left - x, ro := Z.ro + x }) rfl rfl rfl)
                  have HB2 := Lib.hid (Turn.of_only ho HZ0.out.row HZ.out.hB)
                  obtain ⟨cur2, hcur2⟩ : ∃ cur, RowAt w2 g 46 cur := HGR.out w2 (ho.other g HGN.out)
                  have HRG := Lib.hid hcur2
                  clear hcur2
                  clear hr2 ho
                  go_wp2_with fail
                  refine hK.out _ _ trivial (fun hHeld => ?_)
                  clear hK K
                  try simp only [Act.put, List.setIfInBounds_toArray, List.set_cons_zero, List.set_cons_succ]
                  refine wpAnyH_ready (rs := [3]) (by kernel_rfl) (by simp) ?_
                  refine AllReadyH.cons (o := ⟨_, _, _, _, _, _⟩) rfl (fun K hK => ?_) AllReadyH.nil
                  go_simp
                  go_wp2_with fail
                  refine hK.out _ _ trivial (fun hHeld => ?_)
                  clear hK K
                  try simp only [Act.put, List.setIfInBounds_toArray, List.set_cons_zero, List.set_cons_succ]
                  refine wpAnyH_take (i := 20) (oi := ⟨_, _, _, _, _, _⟩) (v := ?_) rfl (by kernel_rfl) (by kernel_rfl) (by kernel_rfl) (fun _ _ _ h => h) (Or.inl ⟨by rfl, ?_⟩) (by assumption) ?_
                  rotate_left
                  · intro w hSw
                    go_simp
                    all_goals with_reducible rfl
                  simp only [Act.put, List.setIfInBounds_toArray, List.set_cons_zero, List.set_cons_succ]
                  refine wpAnyH_take (i := 21) (oi := ⟨_, _, _, _, _, _⟩) (v := ?_) rfl (by kernel_rfl) (by kernel_rfl) (by kernel_rfl) (fun _ _ _ h => h) (Or.inl ⟨by rfl, ?_⟩) (by assumption) ?_
                  rotate_left
                  · intro w hSw
                    go_simp
                    all_goals with_reducible rfl
                  simp only [Act.put, List.setIfInBounds_toArray, List.set_cons_zero, List.set_cons_succ]
                  refine wpAnyH_take (i := 22) (oi := ⟨_, _, _, _, _, _⟩) (v := ?_) rfl (by kernel_rfl) (by kernel_rfl) (by kernel_rfl) (fun _ _ _ h => h) (Or.inl ⟨by rfl, ?_⟩) (by assumption) ?_
                  rotate_left
                  · intro w hSw
                    go_simp
                    all_goals with_reducible rfl
                  simp only [Act.put, List.setIfInBounds_toArray, List.set_cons_zero, List.set_cons_succ]
                  refine wpAnyH_ready (rs := [23]) (by kernel_rfl) (by simp) ?_
                  refine AllReadyH.cons (o := ⟨_, _, _, _, _, _⟩) rfl (fun K hK => ?_) AllReadyH.nil
                  go_simp
                  go_wp2_with fail
                  refine hK.out _ _ trivial (fun hHeld => ?_)
                  clear hK K
                  try simp only [Act.put, List.setIfInBounds_toArray, List.set_cons_zero, List.set_cons_succ]
                  refine wpAnyH_done (by kernel_rfl) ?_ _
                  have HEND := Lib.hid (show RecAt T B w (w2.setCell ⟨g, i * 2 + 1, none⟩ (.int .i64 am2)) nb mb R S (recStep Z a') vp vr (.slice (some ⟨g, 0, none⟩) vn vc) from by
                    rw [HRS.out]
                    exact ⟨HS2.out.setB HBI.out am2, HG2.out, HK2.out, (HBW.out.trans (Turn.of_below (Below.refl wr.heap.size wr).drew (Nat.le_of_lt (Nat.lt_of_le_of_lt HZ.out.hB HZ.out.row.lt)))).trans (HB2.out.trans (Turn.of_set HRG.out HGB.out _ _))⟩)
                  clear hHeld HS2 HB2 camt2 famt2
                  go_wp2_with fail
                  go_roundw
                  case rel => exact ⟨k + 1, by omega, by go_num, Lib.hid (by rw [HST.out]; exact HEND.out)⟩
                  case measure => simp [intOf]; omega





        · go_simp
          go_wp2_with fail
          refine hK.out _ _ trivial (fun hHeld => ?_)
          clear hK K
          try simp only [Act.put, List.setIfInBounds_toArray, List.set_cons_zero, List.set_cons_succ]
          refine wpAnyH_ready (rs := [3, 8, 13]) (by kernel_rfl) (by simp) ?_
          refine AllReadyH.cons (o := ⟨_, _, _, _, _, _⟩) rfl (fun K hK => ?_) (AllReadyH.cons (o := ⟨_, _, _, _, _, _⟩) rfl (fun K hK => ?_) (AllReadyH.cons (o := ⟨_, _, _, _, _, _⟩) rfl (fun K hK => ?_) AllReadyH.nil))
          · go_simp
            go_wp2_with fail
            refine hK.out _ _ trivial (fun hHeld => ?_)
            clear hK K
            try simp only [Act.put, List.setIfInBounds_toArray, List.set_cons_zero, List.set_cons_succ]
            refine wpAnyH_ready (rs := [8, 13]) (by kernel_rfl) (by simp) ?_
            refine AllReadyH.cons (o := ⟨_, _, _, _, _, _⟩) rfl (fun K hK => ?_) (AllReadyH.cons (o := ⟨_, _, _, _, _, _⟩) rfl (fun K hK => ?_) AllReadyH.nil)
            · go_simp
              go_wp2_with fail
              refine hK.out _ _ trivial (fun hHeld => ?_)
              clear hK K
              try simp only [Act.put, List.setIfInBounds_toArray, List.set_cons_zero, List.set_cons_succ]
              refine wpAnyH_ready (rs := [13]) (by kernel_rfl) (by simp) ?_
              refine AllReadyH.cons (o := ⟨_, _, _, _, _, _⟩) rfl (fun K hK => ?_) AllReadyH.nil
              go_simp
              go_wp2_with fail
              refine hK.out _ _ trivial (fun hHeld => ?_)
              clear hK K
              try simp only [Act.put, List.setIfInBounds_toArray, List.set_cons_zero, List.set_cons_succ]
              refine wpAnyH_ready (rs := [14]) (by kernel_rfl) (by simp) ?_
              refine AllReadyH.cons (o := ⟨_, _, _, _, _, _⟩) rfl (fun K hK => ?_) AllReadyH.nil
              go_simp
              go_wp2_with fail
              refine hK.out _ _ trivial (fun hHeld => ?_)
              clear hK K
              try simp only [Act.put, List.setIfInBounds_toArray, List.set_cons_zero, List.set_cons_succ]
              refine wpAnyH_ready (rs := [19]) (by kernel_rfl) (by simp) ?_
              refine AllReadyH.cons (o := ⟨_, _, _, _, _, _⟩) rfl (fun K hK => ?_) AllReadyH.nil
              go_simp
              (go_at_call 50; refine (TK.out _ HZ0.out).mono ?_; rintro e w2 ⟨rfl, hr2, ho⟩)
              have camt2 : w2.cell? ⟨g, i * 2 + 1, none⟩ = some (.int .i64 amt) := (cell_same (ho.other g HGN.out)).trans CAMT.out
              have famt2 : w2.frozen? ⟨g, i * 2 + 1, none⟩ = false := (World.frozen?_of_block (a := ⟨g, i * 2 + 1, none⟩) (ho.other g HGN.out)).trans FAMT.out
              have HS2 := Lib.hid (HZ0.out.only ho hr2 (S' := { Z with left := Z.left - x, ro := Z.ro + x }) rfl rfl rfl)
              have HB2 := Lib.hid (Turn.of_only ho HZ0.out.row HZ.out.hB)
              obtain ⟨cur2, hcur2⟩ : ∃ cur, RowAt w2 g 46 cur := HGR.out w2 (ho.other g HGN.out)
              have HRG := Lib.hid hcur2
              clear hcur2
              clear hr2 ho
              go_wp2_with fail
              refine hK.out _ _ trivial (fun hHeld => ?_)
              clear hK K
              try simp only [Act.put, List.setIfInBounds_toArray, List.set_cons_zero, List.set_cons_succ]
              refine wpAnyH_take (i := 20) (oi := ⟨_, _, _, _, _, _⟩) (v := ?_) rfl (by kernel_rfl) (by kernel_rfl) (by kernel_rfl) (fun _ _ _ h => h) (Or.inl ⟨by rfl, ?_⟩) (by assumption) ?_
              rotate_left
              · intro w hSw
                go_simp
                all_goals with_reducible rfl
              simp only [Act.put, List.setIfInBounds_toArray, List.set_cons_zero, List.set_cons_succ]
              refine wpAnyH_take (i := 21) (oi := ⟨_, _, _, _, _, _⟩) (v := ?_) rfl (by kernel_rfl) (by kernel_rfl) (by kernel_rfl) (fun _ _ _ h => h) (Or.inl ⟨by rfl, ?_⟩) (by assumption) ?_
              rotate_left
              · intro w hSw
                go_simp
                all_goals with_reducible rfl
              simp only [Act.put, List.setIfInBounds_toArray, List.set_cons_zero, List.set_cons_succ]
              refine wpAnyH_take (i := 22) (oi := ⟨_, _, _, _, _, _⟩) (v := ?_) rfl (by kernel_rfl) (by kernel_rfl) (by kernel_rfl) (fun _ _ _ h => h) (Or.inl ⟨by rfl, ?_⟩) (by assumption) ?_
              rotate_left
              · intro w hSw
                go_simp
                all_goals with_reducible rfl
              simp only [Act.put, List.setIfInBounds_toArray, List.set_cons_zero, List.set_cons_succ]
              refine wpAnyH_ready (rs := [23]) (by kernel_rfl) (by simp) ?_
              refine AllReadyH.cons (o := ⟨_, _, _, _, _, _⟩) rfl (fun K hK => ?_) AllReadyH.nil
              go_simp
              go_wp2_with fail
              refine hK.out _ _ trivial (fun hHeld => ?_)
              clear hK K
              try simp only [Act.put, List.setIfInBounds_toArray, List.set_cons_zero, List.set_cons_succ]
              refine wpAnyH_done (by kernel_rfl) ?_ _
              have HEND := Lib.hid (show RecAt T B w (w2.setCell ⟨g, i * 2 + 1, none⟩ (.int .i64 am2)) nb mb R S (recStep Z a') vp vr (.slice (some ⟨g, 0, none⟩) vn vc) from by
                rw [HRS.out]
                exact ⟨HS2.out.setB HBI.out am2, HG2.out, HK2.out, (HBW.out.trans (Turn.of_below (Below.refl wr.heap.size wr).drew (Nat.le_of_lt (Nat.lt_of_le_of_lt HZ.out.hB HZ.out.row.lt)))).trans (HB2.out.trans (Turn.of_set HRG.out HGB.out _ _))⟩)
              clear hHeld HS2 HB2 camt2 famt2
              go_wp2_with fail
              go_roundw
              case rel => exact ⟨k + 1, by omega, by go_num, Lib.hid (by rw [HST.out]; exact HEND.out)⟩
              case measure => simp [intOf]; omega

            · go_simp
              go_wp2_with fail
              refine hK.out _ _ trivial (fun hHeld => ?_)
              clear hK K
              try simp only [Act.put, List.setIfInBounds_toArray, List.set_cons_zero, List.set_cons_succ]
              refine wpAnyH_ready (rs := [8]) (by kernel_rfl) (by simp) ?_
              refine AllReadyH.cons (o := ⟨_, _, _, _, _, _⟩) rfl (fun K hK => ?_) AllReadyH.nil
              go_simp
              go_wp2_with fail
              refine hK.out _ _ trivial (fun hHeld => ?_)
              clear hK K
              try simp only [Act.put, List.setIfInBounds_toArray, List.set_cons_zero, List.set_cons_succ]
              refine wpAnyH_ready (rs := [14]) (by kernel_rfl) (by simp) ?_
              refine AllReadyH.cons (o := ⟨_, _, _, _, _, _⟩) rfl (fun K hK => ?_) AllReadyH.nil
              go_simp
              go_wp2_with fail
              refine hK.out _ _ trivial (fun hHeld => ?_)
              clear hK K
              try simp only [Act.put, List.setIfInBounds_toArray, List.set_cons_zero, List.set_cons_succ]
              refine wpAnyH_ready (rs := [19]) (by kernel_rfl) (by simp) ?_
              refine AllReadyH.cons (o := ⟨_, _, _, _, _, _⟩) rfl (fun K hK => ?_) AllReadyH.nil
              go_simp
              (go_at_call 50; refine (TK.out _ HZ0.out).mono ?_; rintro e w2 ⟨rfl, hr2, ho⟩)
              have camt2 : w2.cell? ⟨g, i * 2 + 1, none⟩ = some (.int .i64 amt) := (cell_same (ho.other g HGN.out)).trans CAMT.out
              have famt2 : w2.frozen? ⟨g, i * 2 + 1, none⟩ = false := (World.frozen?_of_block (a := ⟨g, i * 2 + 1, none⟩) (ho.other g HGN.out)).trans FAMT.out
              have HS2 := Lib.hid (HZ0.out.only ho hr2 (S' := { Z with left := Z.left - x, ro := Z.ro + x }) rfl rfl rfl)
              have HB2 := Lib.hid (Turn.of_only ho HZ0.out.row HZ.out.hB)
              obtain ⟨cur2, hcur2⟩ : ∃ cur, RowAt w2 g 46 cur := HGR.out w2 (ho.other g HGN.out)
              have HRG := Lib.hid hcur2
              clear hcur2
              clear hr2 ho
              go_wp2_with fail
              refine hK.out _ _ trivial (fun hHeld => ?_)
              clear hK K
              try simp only [Act.put, List.setIfInBounds_toArray, List.set_cons_zero, List.set_cons_succ]
              refine wpAnyH_take (i := 20) (oi := ⟨_, _, _, _, _, _⟩) (v := ?_) rfl (by kernel_rfl) (by kernel_rfl) (by kernel_rfl) (fun _ _ _ h => h) (Or.inl ⟨by rfl, ?_⟩) (by assumption) ?_
              rotate_left
              · intro w hSw
                go_simp
                all_goals with_reducible rfl
              simp only [Act.put, List.setIfInBounds_toArray, List.set_cons_zero, List.set_cons_succ]
              refine wpAnyH_take (i := 21) (oi := ⟨_, _, _, _, _, _⟩) (v := ?_) rfl (by kernel_rfl) (by kernel_rfl) (by kernel_rfl) (fun _ _ _ h => h) (Or.inl ⟨by rfl, ?_⟩) (by assumption) ?_
              rotate_left
              · intro w hSw
                go_simp
                all_goals with_reducible rfl
              simp only [Act.put, List.setIfInBounds_toArray, List.set_cons_zero, List.set_cons_succ]
              refine wpAnyH_take (i := 22) (oi := ⟨_, _, _, _, _, _⟩) (v := ?_) rfl (by kernel_rfl) (by kernel_rfl) (by kernel_rfl) (fun _ _ _ h => h) (Or.inl ⟨by rfl, ?_⟩) (by assumption) ?_
              rotate_left
              · intro w hSw
                go_simp
                all_goals with_reducible rfl
              simp only [Act.put, List.setIfInBounds_toArray, List.set_cons_zero, List.set_cons_succ]
              refine wpAnyH_ready (rs := [23]) (by kernel_rfl) (by simp) ?_
              refine AllReadyH.cons (o := ⟨_, _, _, _, _, _⟩) rfl (fun K hK => ?_) AllReadyH.nil
              go_simp
              go_wp2_with fail
              refine hK.out _ _ trivial (fun hHeld => ?_)
              clear hK K
              try simp only [Act.put, List.setIfInBounds_toArray, List.set_cons_zero, List.set_cons_succ]
              refine wpAnyH_done (by kernel_rfl) ?_ _
              have HEND := Lib.hid (show RecAt T B w (w2.setCell ⟨g, i * 2 + 1, none⟩ (.int .i64 am2)) nb mb R S (recStep Z a') vp vr (.slice (some ⟨g, 0, none⟩) vn vc) from by
                rw [HRS.out]
                exact ⟨HS2.out.setB HBI.out am2, HG2.out, HK2.out, (HBW.out.trans (Turn.of_below (Below.refl wr.heap.size wr).drew (Nat.le_of_lt (Nat.lt_of_le_of_lt HZ.out.hB HZ.out.row.lt)))).trans (HB2.out.trans (Turn.of_set HRG.out HGB.out _ _))⟩)
              clear hHeld HS2 HB2 camt2 famt2
              go_wp2_with fail
              go_roundw
              case rel => exact ⟨k + 1, by omega, by go_num, Lib.hid (by rw [HST.out]; exact HEND.out)⟩
              case measure => simp [intOf]; omega


          · go_simp
            go_wp2_with fail
            refine hK.out _ _ trivial (fun hHeld => ?_)
            clear hK K
            try simp only [Act.put, List.setIfInBounds_toArray, List.set_cons_zero, List.set_cons_succ]
            refine wpAnyH_ready (rs := [3, 13]) (by kernel_rfl) (by simp) ?_
            refine AllReadyH.cons (o := ⟨_, _, _, _, _, _⟩) rfl (fun K hK => ?_) (AllReadyH.cons (o := ⟨_, _, _, _, _, _⟩) rfl (fun K hK => ?_) AllReadyH.nil)
            · go_simp
              go_wp2_with fail
              refine hK.out _ _ trivial (fun hHeld => ?_)
              clear hK K
              try simp only [Act.put, List.setIfInBounds_toArray, List.set_cons_zero, List.set_cons_succ]
              refine wpAnyH_ready (rs := [13]) (by kernel_rfl) (by simp) ?_
              refine AllReadyH.cons (o := ⟨_, _, _, _, _, _⟩) rfl (fun K hK => ?_) AllReadyH.nil
              go_simp
              go_wp2_with fail
              refine hK.out _ _ trivial (fun hHeld => ?_)
              clear hK K
              try simp only [Act.put, List.setIfInBounds_toArray, List.set_cons_zero, List.set_cons_succ]
              refine wpAnyH_ready (rs := [14]) (by kernel_rfl) (by simp) ?_
              refine AllReadyH.cons (o := ⟨_, _, _, _, _, _⟩) rfl (fun K hK => ?_) AllReadyH.nil
              go_simp
              go_wp2_with fail
              refine hK.out _ _ trivial (fun hHeld => ?_)
              clear hK K
              try simp only [Act.put, List.setIfInBounds_toArray, List.set_cons_zero, List.set_cons_succ]
              refine wpAnyH_ready (rs := [19]) (by kernel_rfl) (by simp) ?_
              refine AllReadyH.cons (o := ⟨_, _, _, _, _, _⟩) rfl (fun K hK => ?_) AllReadyH.nil
              go_simp
              (go_at_call 50; refine (TK.out _ HZ0.out).mono ?_; rintro e w2 ⟨rfl, hr2, ho⟩)
              have camt2 : w2.cell? ⟨g, i * 2 + 1, none⟩ = some (.int .i64 amt) := (cell_same (ho.other g HGN.out)).trans CAMT.out
              have famt2 : w2.frozen? ⟨g, i * 2 + 1, none⟩ = false := (World.frozen?_of_block (a := ⟨g, i * 2 + 1, none⟩) (ho.other g HGN.out)).trans FAMT.out
              have HS2 := Lib.hid (HZ0.out.only ho hr2 (S' := { Z with left := Z.left - x, ro := Z.ro + x }) rfl rfl rfl)
              have HB2 := Lib.hid (Turn.of_only ho HZ0.out.row HZ.out.hB)
              obtain ⟨cur2, hcur2⟩ : ∃ cur, RowAt w2 g 46 cur := HGR.out w2 (ho.other g HGN.out)
              have HRG := Lib.hid hcur2
              clear hcur2
              clear hr2 ho
              go_wp2_with fail
              refine hK.out _ _ trivial (fun hHeld => ?_)
              clear hK K
              try simp only [Act.put, List.setIfInBounds_toArray, List.set_cons_zero, List.set_cons_succ]
              refine wpAnyH_take (i := 20) (oi := ⟨_, _, _, _, _, _⟩) (v := ?_) rfl (by kernel_rfl) (by kernel_rfl) (by kernel_rfl) (fun _ _ _ h => h) (Or.inl ⟨by rfl, ?_⟩) (by assumption) ?_
              rotate_left
              · intro w hSw
                go_simp
                all_goals with_reducible rfl
              simp only [Act.put, List.setIfInBounds_toArray, List.set_cons_zero, List.set_cons_succ]
              refine wpAnyH_take (i := 21) (oi := ⟨_, _, _, _, _, _⟩) (v := ?_) rfl (by kernel_rfl) (by kernel_rfl) (by kernel_rfl) (fun _ _ _ h => h) (Or.inl ⟨by rfl, ?_⟩) (by assumption) ?_
              rotate_left
              · intro w hSw
                go_simp
                all_goals with_reducible rfl
              simp only [Act.put, List.setIfInBounds_toArray, List.set_cons_zero, List.set_cons_succ]
              refine wpAnyH_take (i := 22) (oi := ⟨_, _, _, _, _, _⟩) (v := ?_) rfl (by kernel_rfl) (by kernel_rfl) (by kernel_rfl) (fun _ _ _ h => h) (Or.inl ⟨by rfl, ?_⟩) (by assumption) ?_
              rotate_left
              · intro w hSw
                go_simp
                all_goals with_reducible rfl
              simp only [Act.put, List.setIfInBounds_toArray, List.set_cons_zero, List.set_cons_succ]
              refine wpAnyH_ready (rs := [23]) (by kernel_rfl) (by simp) ?_
              refine AllReadyH.cons (o := ⟨_, _, _, _, _, _⟩) rfl (fun K hK => ?_) AllReadyH.nil
              go_simp
              go_wp2_with fail
              refine hK.out _ _ trivial (fun hHeld => ?_)
              clear hK K
              try simp only [Act.put, List.setIfInBounds_toArray, List.set_cons_zero, List.set_cons_succ]
              refine wpAnyH_done (by kernel_rfl) ?_ _
              have HEND := Lib.hid (show RecAt T B w (w2.setCell ⟨g, i * 2 + 1, none⟩ (.int .i64 am2)) nb mb R S (recStep Z a') vp vr (.slice (some ⟨g, 0, none⟩) vn vc) from by
                rw [HRS.out]
                exact ⟨HS2.out.setB HBI.out am2, HG2.out, HK2.out, (HBW.out.trans (Turn.of_below (Below.refl wr.heap.size wr).drew (Nat.le_of_lt (Nat.lt_of_le_of_lt HZ.out.hB HZ.out.row.lt)))).trans (HB2.out.trans (Turn.of_set HRG.out HGB.out _ _))⟩)
              clear hHeld HS2 HB2 camt2 famt2
              go_wp2_with fail
              go_roundw
              case rel => exact ⟨k + 1, by omega, by go_num, Lib.hid (by rw [HST.out]; exact HEND.out)⟩
              case measure => simp [intOf]; omega

            · go_simp
              go_wp2_with fail
              refine hK.out _ _ trivial (fun hHeld => ?_)
              clear hK K
              try simp only [Act.put, List.setIfInBounds_toArray, List.set_cons_zero, List.set_cons_succ]
              refine wpAnyH_ready (rs := [3, 14]) (by kernel_rfl) (by simp) ?_
              refine AllReadyH.cons (o := ⟨_, _, _, _, _, _⟩) rfl (fun K hK => ?_) (AllReadyH.cons (o := ⟨_, _, _, _, _, _⟩) rfl (fun K hK => ?_) AllReadyH.nil)
              · go_simp
                go_wp2_with fail
                refine hK.out _ _ trivial (fun hHeld => ?_)
                clear hK K
                try simp only [Act.put, List.setIfInBounds_toArray, List.set_cons_zero, List.set_cons_succ]
                refine wpAnyH_ready (rs := [14]) (by kernel_rfl) (by simp) ?_
                refine AllReadyH.cons (o := ⟨_, _, _, _, _, _⟩) rfl (fun K hK => ?_) AllReadyH.nil
                go_simp
                go_wp2_with fail
                refine hK.out _ _ trivial (fun hHeld => ?_)
                clear hK K
                try simp only [Act.put, List.setIfInBounds_toArray, List.set_cons_zero, List.set_cons_succ]
                refine wpAnyH_ready (rs := [19]) (by kernel_rfl) (by simp) ?_
                refine AllReadyH.cons (o := ⟨_, _, _, _, _, _⟩) rfl (fun K hK => ?_) AllReadyH.nil
                go_simp
                (go_at_call 50; refine (TK.out _ HZ0.out).mono ?_; rintro e w2 ⟨rfl, hr2, ho⟩)
                have camt2 : w2.cell? ⟨g, i * 2 + 1, none⟩ = some (.int .i64 amt) := (cell_same (ho.other g HGN.out)).trans CAMT.out
                have famt2 : w2.frozen? ⟨g, i * 2 + 1, none⟩ = false := (World.frozen?_of_block (a := ⟨g, i * 2 + 1, none⟩) (ho.other g HGN.out)).trans FAMT.out
                have HS2 := Lib.hid (HZ0.out.only ho hr2 (S' := { Z with left := Z.left - x, ro := Z.ro + x }) rfl rfl rfl)
                have HB2 := Lib.hid (Turn.of_only ho HZ0.out.row HZ.out.hB)
                obtain ⟨cur2, hcur2⟩ : ∃ cur, RowAt w2 g 46 cur := HGR.out w2 (ho.other g HGN.out)
                have HRG := Lib.hid hcur2
                clear hcur2
                clear hr2 ho
                go_wp2_with fail
                refine hK.out _ _ trivial (fun hHeld => ?_)
                clear hK K
                try simp only [Act.put, List.setIfInBounds_toArray, List.set_cons_zero, List.set_cons_succ]
                refine wpAnyH_take (i := 20) (oi := ⟨_, _, _, _, _, _⟩) (v := ?_) rfl (by kernel_rfl) (by kernel_rfl) (by kernel_rfl) (fun _ _ _ h => h) (Or.inl ⟨by rfl, ?_⟩) (by assumption) ?_
                rotate_left
                · intro w hSw
                  go_simp
                  all_goals with_reducible rfl
                simp only [Act.put, List.setIfInBounds_toArray, List.set_cons_zero, List.set_cons_succ]
                refine wpAnyH_take (i := 21) (oi := ⟨_, _, _, _, _, _⟩) (v := ?_) rfl (by kernel_rfl) (by kernel_rfl) (by kernel_rfl) (fun _ _ _ h => h) (Or.inl ⟨by rfl, ?_⟩) (by assumption) ?_
                rotate_left
                · intro w hSw
                  go_simp
                  all_goals with_reducible rfl
                simp only [Act.put, List.setIfInBounds_toArray, List.set_cons_zero, List.set_cons_succ]
                refine wpAnyH_take (i := 22) (oi := ⟨_, _, _, _, _, _⟩) (v := ?_) rfl (by kernel_rfl) (by kernel_rfl) (by kernel_rfl) (fun _ _ _ h => h) (Or.inl ⟨by rfl, ?_⟩) (by assumption) ?_
                rotate_left
                · intro w hSw
                  go_simp
                  all_goals with_reducible rfl
                simp only [Act.put, List.setIfInBounds_toArray, List.set_cons_zero, List.set_cons_succ]
                refine wpAnyH_ready (rs := [23]) (by kernel_rfl) (by simp) ?_
                refine AllReadyH.cons (o := ⟨_, _, _, _, _, _⟩) rfl (fun K hK => ?_) AllReadyH.nil
                go_simp
                go_wp2_with fail
                refine hK.out _ _ trivial (fun hHeld => ?_)
                clear hK K
                try simp only [Act.put, List.setIfInBounds_toArray, List.set_cons_zero, List.set_cons_succ]
                refine wpAnyH_done (by kernel_rfl) ?_ _
                have HEND := Lib.hid (show RecAt T B w (w2.setCell ⟨g, i * 2 + 1, none⟩ (.int .i64 am2)) nb mb R S (recStep Z a') vp vr (.slice (some ⟨g, 0, none⟩) vn vc) from by
                  rw [HRS.out]
                  exact ⟨HS2.out.setB HBI.out am2, HG2.out, HK2.out, (HBW.out.trans (Turn.of_below (Below.refl wr.heap.size wr).drew (Nat.le_of_lt (Nat.lt_of_le_of_lt HZ.out.hB HZ.out.row.lt)))).trans (HB2.out.trans (Turn.of_set HRG.out HGB.out _ _))⟩)
                clear hHeld HS2 HB2 camt2 famt2
                go_wp2_with fail
                go_roundw
                case rel => exact ⟨k + 1, by omega, by go_num, Lib.hid (by rw [HST.out]; exact HEND.out)⟩
                case measure => simp [intOf]; omega

              · go_simp
                go_wp2_with fail
                refine hK.out _ _ trivial (fun hHeld => ?_)
                clear hK K
                try simp only [Act.put, List.setIfInBounds_toArray, List.set_cons_zero, List.set_cons_succ]
                refine wpAnyH_ready (rs := [3, 19]) (by kernel_rfl) (by simp) ?_
                refine AllReadyH.cons (o := ⟨_, _, _, _, _, _⟩) rfl (fun K hK => ?_) (AllReadyH.cons (o := ⟨_, _, _, _, _, _⟩) rfl (fun K hK => ?_) AllReadyH.nil)
                · go_simp
                  go_wp2_with fail
                  refine hK.out _ _ trivial (fun hHeld => ?_)
                  clear hK K
                  try simp only [Act.put, List.setIfInBounds_toArray, List.set_cons_zero, List.set_cons_succ]
                  refine wpAnyH_ready (rs := [19]) (by kernel_rfl) (by simp) ?_
                  refine AllReadyH.cons (o := ⟨_, _, _, _, _, _⟩) rfl (fun K hK => ?_) AllReadyH.nil
                  go_simp
                  (go_at_call 50; refine (TK.out _ HZ0.out).mono ?_; rintro e w2 ⟨rfl, hr2, ho⟩)
                  have camt2 : w2.cell? ⟨g, i * 2 + 1, none⟩ = some (.int .i64 amt) := (cell_same (ho.other g HGN.out)).trans CAMT.out
                  have famt2 : w2.frozen? ⟨g, i * 2 + 1, none⟩ = false := (World.frozen?_of_block (a := ⟨g, i * 2 + 1, none⟩) (ho.other g HGN.out)).trans FAMT.out
                  have HS2 := Lib.hid (HZ0.out.only ho hr2 (S' := { Z with left := Z.left - x, ro := Z.ro + x }) rfl rfl rfl)
                  have HB2 := Lib.hid (Turn.of_only ho HZ0.out.row HZ.out.hB)
                  obtain ⟨cur2, hcur2⟩ : ∃ cur, RowAt w2 g 46 cur := HGR.out w2 (ho.other g HGN.out)
                  have HRG := Lib.hid hcur2
                  clear hcur2
                  clear hr2 ho
                  go_wp2_with fail
                  refine hK.out _ _ trivial (fun hHeld => ?_)
                  clear hK K
                  try simp only [Act.put, List.setIfInBounds_toArray, List.set_cons_zero, List.set_cons_succ]
                  refine wpAnyH_take (i := 20) (oi := ⟨_, _, _, _, _, _⟩) (v := ?_) rfl (by kernel_rfl) (by kernel_rfl) (by kernel_rfl) (fun _ _ _ h => h) (Or.inl ⟨by rfl, ?_⟩) (by assumption) ?_
                  rotate_left
                  · intro w hSw
                    go_simp
                    all_goals with_reducible rfl
                  simp only [Act.put, List.setIfInBounds_toArray, List.set_cons_zero, List.set_cons_succ]
                  refine wpAnyH_take (i := 21) (oi := ⟨_, _, _, _, _, _⟩) (v := ?_) rfl (by kernel_rfl) (by kernel_rfl) (by kernel_rfl) (fun _ _ _ h => h) (Or.inl ⟨by rfl, ?_⟩) (by assumption) ?_
                  rotate_left
                  · intro w hSw
                    go_simp
                    all_goals with_reducible rfl
                  simp only [Act.put, List.setIfInBounds_toArray, List.set_cons_zero, List.set_cons_succ]
                  refine wpAnyH_take (i := 22) (oi := ⟨_, _, _, _, _, _⟩) (v := ?_) rfl (by kernel_rfl) (by kernel_rfl) (by kernel_rfl) (fun _ _ _ h => h) (Or.inl ⟨by rfl, ?_⟩) (by assumption) ?_
                  rotate_left
                  · intro w hSw
                    go_simp
                    all_goals with_reducible rfl
                  simp only [Act.put, List.setIfInBounds_toArray, List.set_cons_zero, List.set_cons_succ]
                  refine wpAnyH_ready (rs := [23]) (by kernel_rfl) (by simp) ?_
                  refine AllReadyH.cons (o := ⟨_, _, _, _, _, _⟩) rfl (fun K hK => ?_) AllReadyH.nil
                  go_simp
                  go_wp2_with fail
                  refine hK.out _ _ trivial (fun hHeld => ?_)
                  clear hK K
                  try simp only [Act.put, List.setIfInBounds_toArray, List.set_cons_zero, List.set_cons_succ]
                  refine wpAnyH_done (by kernel_rfl) ?_ _
                  have HEND := Lib.hid (show RecAt T B w (w2.setCell ⟨g, i * 2 + 1, none⟩ (.int .i64 am2)) nb mb R S (recStep Z a') vp vr (.slice (some ⟨g, 0, none⟩) vn vc) from by
                    rw [HRS.out]
                    exact ⟨HS2.out.setB HBI.out am2, HG2.out, HK2.out, (HBW.out.trans (Turn.of_below (Below.refl wr.heap.size wr).drew (Nat.le_of_lt (Nat.lt_of_le_of_lt HZ.out.hB HZ.out.row.lt)))).trans (HB2.out.trans (Turn.of_set HRG.out HGB.out _ _))⟩)
                  clear hHeld HS2 HB2 camt2 famt2
                  go_wp2_with fail
                  go_roundw
                  case rel => exact ⟨k + 1, by omega, by go_num, Lib.hid (by rw [HST.out]; exact HEND.out)⟩
                  case measure => simp [intOf]; omega

                · go_simp
                  (go_at_call 50; refine (TK.out _ HZ0.out).mono ?_; rintro e w2 ⟨rfl, hr2, ho⟩)
                  have camt2 : w2.cell? ⟨g, i * 2 + 1, none⟩ = some (.int .i64 amt) := (cell_same (ho.other g HGN.out)).trans CAMT.out
                  have famt2 : w2.frozen? ⟨g, i * 2 + 1, none⟩ = false := (World.frozen?_of_block (a := ⟨g, i * 2 + 1, none⟩) (ho.other g HGN.out)).trans FAMT.out
                  have HS2 := Lib.hid (HZ0.out.only ho hr2 (S' := { Z with left := Z.left - x, ro := Z.ro + x }) rfl rfl rfl)
                  have HB2 := Lib.hid (Turn.of_only ho HZ0.out.row HZ.out.hB)
                  obtain ⟨cur2, hcur2⟩ : ∃ cur, RowAt w2 g 46 cur := HGR.out w2 (ho.other g HGN.out)
                  have HRG := Lib.hid hcur2
                  clear hcur2
                  clear hr2 ho
                  go_wp2_with fail
                  refine hK.out _ _ trivial (fun hHeld => ?_)
                  clear hK K
                  try simp only [Act.put, List.setIfInBounds_toArray, List.set_cons_zero, List.set_cons_succ]
                  refine wpAnyH_ready (rs := [3]) (by kernel_rfl) (by simp) ?_
                  refine AllReadyH.cons (o := ⟨_, _, _, _, _, _⟩) rfl (fun K hK => ?_) AllReadyH.nil
                  go_simp
                  go_wp2_with fail
                  refine hK.out _ _ trivial (fun hHeld => ?_)
                  clear hK K
                  try simp only [Act.put, List.setIfInBounds_toArray, List.set_cons_zero, List.set_cons_succ]
                  refine wpAnyH_take (i := 20) (oi := ⟨_, _, _, _, _, _⟩) (v := ?_) rfl (by kernel_rfl) (by kernel_rfl) (by kernel_rfl) (fun _ _ _ h => h) (Or.inl ⟨by rfl, ?_⟩) (by assumption) ?_
                  rotate_left
                  · intro w hSw
                    go_simp
                    all_goals with_reducible rfl
                  simp only [Act.put, List.setIfInBounds_toArray, List.set_cons_zero, List.set_cons_succ]
                  refine wpAnyH_take (i := 21) (oi := ⟨_, _, _, _, _, _⟩) (v := ?_) rfl (by kernel_rfl) (by kernel_rfl) (by kernel_rfl) (fun _ _ _ h => h) (Or.inl ⟨by rfl, ?_⟩) (by assumption) ?_
                  rotate_left
                  · intro w hSw
                    go_simp
                    all_goals with_reducible rfl
                  simp only [Act.put, List.setIfInBounds_toArray, List.set_cons_zero, List.set_cons_succ]
                  refine wpAnyH_take (i := 22) (oi := ⟨_, _, _, _, _, _⟩) (v := ?_) rfl (by kernel_rfl) (by kernel_rfl) (by kernel_rfl) (fun _ _ _ h => h) (Or.inl ⟨by rfl, ?_⟩) (by assumption) ?_
                  rotate_left
                  · intro w hSw
                    go_simp
                    all_goals with_reducible rfl
                  simp only [Act.put, List.setIfInBounds_toArray, List.set_cons_zero, List.set_cons_succ]
                  refine wpAnyH_ready (rs := [23]) (by kernel_rfl) (by simp) ?_
                  refine AllReadyH.cons (o := ⟨_, _, _, _, _, _⟩) rfl (fun K hK => ?_) AllReadyH.nil
                  go_simp
                  go_wp2_with fail
                  refine hK.out _ _ trivial (fun hHeld => ?_)
                  clear hK K
                  try simp only [Act.put, List.setIfInBounds_toArray, List.set_cons_zero, List.set_cons_succ]
                  refine wpAnyH_done (by kernel_rfl) ?_ _
                  have HEND := Lib.hid (show RecAt T B w (w2.setCell ⟨g, i * 2 + 1, none⟩ (.int .i64 am2)) nb mb R S (recStep Z a') vp vr (.slice (some ⟨g, 0, none⟩) vn vc) from by
                    rw [HRS.out]
                    exact ⟨HS2.out.setB HBI.out am2, HG2.out, HK2.out, (HBW.out.trans (Turn.of_below (Below.refl wr.heap.size wr).drew (Nat.le_of_lt (Nat.lt_of_le_of_lt HZ.out.hB HZ.out.row.lt)))).trans (HB2.out.trans (Turn.of_set HRG.out HGB.out _ _))⟩)
                  clear hHeld HS2 HB2 camt2 famt2
                  go_wp2_with fail
                  go_roundw
                  case rel => exact ⟨k + 1, by omega, by go_num, Lib.hid (by rw [HST.out]; exact HEND.out)⟩
                  case measure => simp [intOf]; omega




          · go_simp
            go_wp2_with fail
            refine hK.out _ _ trivial (fun hHeld => ?_)
            clear hK K
            try simp only [Act.put, List.setIfInBounds_toArray, List.set_cons_zero, List.set_cons_succ]
            refine wpAnyH_ready (rs := [3, 8]) (by kernel_rfl) (by simp) ?_
            refine AllReadyH.cons (o := ⟨_, _, _, _, _, _⟩) rfl (fun K hK => ?_) (AllReadyH.cons (o := ⟨_, _, _, _, _, _⟩) rfl (fun K hK => ?_) AllReadyH.nil)
            · go_simp
              go_wp2_with fail
              refine hK.out _ _ trivial (fun hHeld => ?_)
              clear hK K
              try simp only [Act.put, List.setIfInBounds_toArray, List.set_cons_zero, List.set_cons_succ]
              refine wpAnyH_ready (rs := [8]) (by kernel_rfl) (by simp) ?_
              refine AllReadyH.cons (o := ⟨_, _, _, _, _, _⟩) rfl (fun K hK => ?_) AllReadyH.nil
              go_simp
              go_wp2_with fail
              refine hK.out _ _ trivial (fun hHeld => ?_)
              clear hK K
              try simp only [Act.put, List.setIfInBounds_toArray, List.set_cons_zero, List.set_cons_succ]
              refine wpAnyH_ready (rs := [14]) (by kernel_rfl) (by simp) ?_
              refine AllReadyH.cons (o := ⟨_, _, _, _, _, _⟩) rfl (fun K hK => ?_) AllReadyH.nil
              go_simp
              go_wp2_with fail
              refine hK.out _ _ trivial (fun hHeld => ?_)
              clear hK K
              try simp only [Act.put, List.setIfInBounds_toArray, List.set_cons_zero, List.set_cons_succ]
              refine wpAnyH_ready (rs := [19]) (by kernel_rfl) (by simp) ?_
              refine AllReadyH.cons (o := ⟨_, _, _, _, _, _⟩) rfl (fun K hK => ?_) AllReadyH.nil
              go_simp
              (go_at_call 50; refine (TK.out _ HZ0.out).mono ?_; rintro e w2 ⟨rfl, hr2, ho⟩)
              have camt2 : w2.cell? ⟨g, i * 2 + 1, none⟩ = some (.int .i64 amt) := (cell_same (ho.other g HGN.out)).trans CAMT.out
              have famt2 : w2.frozen? ⟨g, i * 2 + 1, none⟩ = false := (World.frozen?_of_block (a := ⟨g, i * 2 + 1, none⟩) (ho.other g HGN.out)).trans FAMT.out
              have HS2 := Lib.hid (HZ0.out.only ho hr2 (S' := { Z with left := Z.left - x, ro := Z.ro + x }) rfl rfl rfl)
              have HB2 := Lib.hid (Turn.of_only ho HZ0.out.row HZ.out.hB)
              obtain ⟨cur2, hcur2⟩ : ∃ cur, RowAt w2 g 46 cur := HGR.out w2 (ho.other g HGN.out)
              have HRG := Lib.hid hcur2
              clear hcur2
              clear hr2 ho
              go_wp2_with fail
              refine hK.out _ _ trivial (fun hHeld => ?_)
              clear hK K
              try simp only [Act.put, List.setIfInBounds_toArray, List.set_cons_zero, List.set_cons_succ]
              refine wpAnyH_take (i := 20) (oi := ⟨_, _, _, _, _, _⟩) (v := ?_) rfl (by kernel_rfl) (by kernel_rfl) (by kernel_rfl) (fun _ _ _ h => h) (Or.inl ⟨by rfl, ?_⟩) (by assumption) ?_
              rotate_left
              · intro w hSw
                go_simp
                all_goals with_reducible rfl
              simp only [Act.put, List.setIfInBounds_toArray, List.set_cons_zero, List.set_cons_succ]
              refine wpAnyH_take (i := 21) (oi := ⟨_, _, _, _, _, _⟩) (v := ?_) rfl (by kernel_rfl) (by kernel_rfl) (by kernel_rfl) (fun _ _ _ h => h) (Or.inl ⟨by rfl, ?_⟩) (by assumption) ?_
              rotate_left
              · intro w hSw
                go_simp
                all_goals with_reducible rfl
              simp only [Act.put, List.setIfInBounds_toArray, List.set_cons_zero, List.set_cons_succ]
              refine wpAnyH_take (i := 22) (oi := ⟨_, _, _, _, _, _⟩) (v := ?_) rfl (by kernel_rfl) (by kernel_rfl) (by kernel_rfl) (fun _ _ _ h => h) (Or.inl ⟨by rfl, ?_⟩) (by assumption) ?_
              rotate_left
              · intro w hSw
                go_simp
                all_goals with_reducible rfl
              simp only [Act.put, List.setIfInBounds_toArray, List.set_cons_zero, List.set_cons_succ]
              refine wpAnyH_ready (rs := [23]) (by kernel_rfl) (by simp) ?_
              refine AllReadyH.cons (o := ⟨_, _, _, _, _, _⟩) rfl (fun K hK => ?_) AllReadyH.nil
              go_simp
              go_wp2_with fail
              refine hK.out _ _ trivial (fun hHeld => ?_)
              clear hK K
              try simp only [Act.put, List.setIfInBounds_toArray, List.set_cons_zero, List.set_cons_succ]
              refine wpAnyH_done (by kernel_rfl) ?_ _
              have HEND := Lib.hid (show RecAt T B w (w2.setCell ⟨g, i * 2 + 1, none⟩ (.int .i64 am2)) nb mb R S (recStep Z a') vp vr (.slice (some ⟨g, 0, none⟩) vn vc) from by
                rw [HRS.out]
                exact ⟨HS2.out.setB HBI.out am2, HG2.out, HK2.out, (HBW.out.trans (Turn.of_below (Below.refl wr.heap.size wr).drew (Nat.le_of_lt (Nat.lt_of_le_of_lt HZ.out.hB HZ.out.row.lt)))).trans (HB2.out.trans (Turn.of_set HRG.out HGB.out _ _))⟩)
              clear hHeld HS2 HB2 camt2 famt2
              go_wp2_with fail
              go_roundw
              case rel => exact ⟨k + 1, by omega, by go_num, Lib.hid (by rw [HST.out]; exact HEND.out)⟩
              case measure => simp [intOf]; omega

            · go_simp
              go_wp2_with fail
              refine hK.out _ _ trivial (fun hHeld => ?_)
              clear hK K
              try simp only [Act.put, List.setIfInBounds_toArray, List.set_cons_zero, List.set_cons_succ]
              refine wpAnyH_ready (rs := [3, 14]) (by kernel_rfl) (by simp) ?_
              refine AllReadyH.cons (o := ⟨_, _, _, _, _, _⟩) rfl (fun K hK => ?_) (AllReadyH.cons (o := ⟨_, _, _, _, _, _⟩) rfl (fun K hK => ?_) AllReadyH.nil)
              · go_simp
                go_wp2_with fail
                refine hK.out _ _ trivial (fun hHeld => ?_)
                clear hK K
                try simp only [Act.put, List.setIfInBounds_toArray, List.set_cons_zero, List.set_cons_succ]
                refine wpAnyH_ready (rs := [14]) (by kernel_rfl) (by simp) ?_
                refine AllReadyH.cons (o := ⟨_, _, _, _, _, _⟩) rfl (fun K hK => ?_) AllReadyH.nil
                go_simp
                go_wp2_with fail
                refine hK.out _ _ trivial (fun hHeld => ?_)
                clear hK K
                try simp only [Act.put, List.setIfInBounds_toArray, List.set_cons_zero, List.set_cons_succ]
                refine wpAnyH_ready (rs := [19]) (by kernel_rfl) (by simp) ?_
                refine AllReadyH.cons (o := ⟨_, _, _, _, _, _⟩) rfl (fun K hK => ?_) AllReadyH.nil
                go_simp
                (go_at_call 50; refine (TK.out _ HZ0.out).mono ?_; rintro e w2 ⟨rfl, hr2, ho⟩)
                have camt2 : w2.cell? ⟨g, i * 2 + 1, none⟩ = some (.int .i64 amt) := (cell_same (ho.other g HGN.out)).trans CAMT.out
                have famt2 : w2.frozen? ⟨g, i * 2 + 1, none⟩ = false := (World.frozen?_of_block (a := ⟨g, i * 2 + 1, none⟩) (ho.other g HGN.out)).trans FAMT.out
                have HS2 := Lib.hid (HZ0.out.only ho hr2 (S' := { Z with left := Z.left - x, ro := Z.ro + x }) rfl rfl rfl)
                have HB2 := Lib.hid (Turn.of_only ho HZ0.out.row HZ.out.hB)
                obtain ⟨cur2, hcur2⟩ : ∃ cur, RowAt w2 g 46 cur := HGR.out w2 (ho.other g HGN.out)
                have HRG := Lib.hid hcur2
                clear hcur2
                clear hr2 ho
                go_wp2_with fail
                refine hK.out _ _ trivial (fun hHeld => ?_)
                clear hK K
                try simp only [Act.put, List.setIfInBounds_toArray, List.set_cons_zero, List.set_cons_succ]
                refine wpAnyH_take (i := 20) (oi := ⟨_, _, _, _, _, _⟩) (v := ?_) rfl (by kernel_rfl) (by kernel_rfl) (by kernel_rfl) (fun _ _ _ h => h) (Or.inl ⟨by rfl, ?_⟩) (by assumption) ?_
                rotate_left
                · intro w hSw
                  go_simp
                  all_goals with_reducible rfl
                simp only [Act.put, List.setIfInBounds_toArray, List.set_cons_zero, List.set_cons_succ]
                refine wpAnyH_take (i := 21) (oi := ⟨_, _, _, _, _, _⟩) (v := ?_) rfl (by kernel_rfl) (by kernel_rfl) (by kernel_rfl) (fun _ _ _ h => h) (Or.inl ⟨by rfl, ?_⟩) (by assumption) ?_
                rotate_left
                · intro w hSw
                  go_simp
                  all_goals with_reducible rfl
                simp only [Act.put, List.setIfInBounds_toArray, List.set_cons_zero, List.set_cons_succ]
                refine wpAnyH_take (i := 22) (oi := ⟨_, _, _, _, _, _⟩) (v := ?_) rfl (by kernel_rfl) (by kernel_rfl) (by kernel_rfl) (fun _ _ _ h => h) (Or.inl ⟨by rfl, ?_⟩) (by assumption) ?_
                rotate_left
                · intro w hSw
                  go_simp
                  all_goals with_reducible rfl
                simp only [Act.put, List.setIfInBounds_toArray, List.set_cons_zero, List.set_cons_succ]
                refine wpAnyH_ready (rs := [23]) (by kernel_rfl) (by simp) ?_
                refine AllReadyH.cons (o := ⟨_, _, _, _, _, _⟩) rfl (fun K hK => ?_) AllReadyH.nil
                go_simp
                go_wp2_with fail
                refine hK.out _ _ trivial (fun hHeld => ?_)
                clear hK K
                try simp only [Act.put, List.setIfInBounds_toArray, List.set_cons_zero, List.set_cons_succ]
                refine wpAnyH_done (by kernel_rfl) ?_ _
                have HEND := Lib.hid (show RecAt T B w (w2.setCell ⟨g, i * 2 + 1, none⟩ (.int .i64 am2)) nb mb R S (recStep Z a') vp vr (.slice (some ⟨g, 0, none⟩) vn vc) from by
                  rw [HRS.out]
                  exact ⟨HS2.out.setB HBI.out am2, HG2.out, HK2.out, (HBW.out.trans (Turn.of_below (Below.refl wr.heap.size wr).drew (Nat.le_of_lt (Nat.lt_of_le_of_lt HZ.out.hB HZ.out.row.lt)))).trans (HB2.out.trans (Turn.of_set HRG.out HGB.out _ _))⟩)
                clear hHeld HS2 HB2 camt2 famt2
                go_wp2_with fail
                go_roundw
                case rel => exact ⟨k + 1, by omega, by go_num, Lib.hid (by rw [HST.out]; exact HEND.out)⟩
                case measure => simp [intOf]; omega

              · go_simp
                go_wp2_with fail
                refine hK.out _ _ trivial (fun hHeld => ?_)
                clear hK K
                try simp only [Act.put, List.setIfInBounds_toArray, List.set_cons_zero, List.set_cons_succ]
                refine wpAnyH_ready (rs := [3, 19]) (by kernel_rfl) (by simp) ?_
                refine AllReadyH.cons (o := ⟨_, _, _, _, _, _⟩) rfl (fun K hK => ?_) (AllReadyH.cons (o := ⟨_, _, _, _, _, _⟩) rfl (fun K hK => ?_) AllReadyH.nil)
                · go_simp
                  go_wp2_with fail
                  refine hK.out _ _ trivial (fun hHeld => ?_)
                  clear hK K
                  try simp only [Act.put, List.setIfInBounds_toArray, List.set_cons_zero, List.set_cons_succ]
                  refine wpAnyH_ready (rs := [19]) (by kernel_rfl) (by simp) ?_
                  refine AllReadyH.cons (o := ⟨_, _, _, _, _, _⟩) rfl (fun K hK => ?_) AllReadyH.nil
                  go_simp
                  (go_at_call 50; refine (TK.out _ HZ0.out).mono ?_; rintro e w2 ⟨rfl, hr2, ho⟩)
                  have camt2 : w2.cell? ⟨g, i * 2 + 1, none⟩ = some (.int .i64 amt) := (cell_same (ho.other g HGN.out)).trans CAMT.out
                  have famt2 : w2.frozen? ⟨g, i * 2 + 1, none⟩ = false := (World.frozen?_of_block (a := ⟨g, i * 2 + 1, none⟩) (ho.other g HGN.out)).trans FAMT.out
                  have HS2 := Lib.hid (HZ0.out.only ho hr2 (S' := { Z with left := Z.left - x, ro := Z.ro + x }) rfl rfl rfl)
                  have HB2 := Lib.hid (Turn.of_only ho HZ0.out.row HZ.out.hB)
                  obtain ⟨cur2, hcur2⟩ : ∃ cur, RowAt w2 g 46 cur := HGR.out w2 (ho.other g HGN.out)
                  have HRG := Lib.hid hcur2
                  clear hcur2
                  clear hr2 ho
                  go_wp2_with fail
                  refine hK.out _ _ trivial (fun hHeld => ?_)
                  clear hK K
                  try simp only [Act.put, List.setIfInBounds_toArray, List.set_cons_zero, List.set_cons_succ]
                  refine wpAnyH_take (i := 20) (oi := ⟨_, _, _, _, _, _⟩) (v := ?_) rfl (by kernel_rfl) (by kernel_rfl) (by kernel_rfl) (fun _ _ _ h => h) (Or.inl ⟨by rfl, ?_⟩) (by assumption) ?_
                  rotate_left
                  · intro w hSw
                    go_simp
                    all_goals with_reducible rfl
                  simp only [Act.put, List.setIfInBounds_toArray, List.set_cons_zero, List.set_cons_succ]
                  refine wpAnyH_take (i := 21) (oi := ⟨_, _, _, _, _, _⟩) (v := ?_) rfl (by kernel_rfl) (by kernel_rfl) (by kernel_rfl) (fun _ _ _ h => h) (Or.inl ⟨by rfl, ?_⟩) (by assumption) ?_
                  rotate_left
                  · intro w hSw
                    go_simp
                    all_goals with_reducible rfl
                  simp only [Act.put, List.setIfInBounds_toArray, List.set_cons_zero, List.set_cons_succ]
                  refine wpAnyH_take (i := 22) (oi := ⟨_, _, _, _, _, _⟩) (v := ?_) rfl (by kernel_rfl) (by kernel_rfl) (by kernel_rfl) (fun _ _ _ h => h) (Or.inl ⟨by rfl, ?_⟩) (by assumption) ?_
                  rotate_left
                  · intro w hSw
                    go_simp
                    all_goals with_reducible rfl
                  simp only [Act.put, List.setIfInBounds_toArray, List.set_cons_zero, List.set_cons_succ]
                  refine wpAnyH_ready (rs := [23]) (by kernel_rfl) (by simp) ?_
                  refine AllReadyH.cons (o := ⟨_, _, _, _, _, _⟩) rfl (fun K hK => ?_) AllReadyH.nil
                  go_simp
                  go_wp2_with fail
                  refine hK.out _ _ trivial (fun hHeld => ?_)
                  clear hK K
                  try simp only [Act.put, List.setIfInBounds_toArray, List.set_cons_zero, List.set_cons_succ]
                  refine wpAnyH_done (by kernel_rfl) ?_ _
                  have HEND := Lib.hid (show RecAt T B w (w2.setCell ⟨g, i * 2 + 1, none⟩ (.int .i64 am2)) nb mb R S (recStep Z a') vp vr (.slice (some ⟨g, 0, none⟩) vn vc) from by
                    rw [HRS.out]
                    exact ⟨HS2.out.setB HBI.out am2, HG2.out, HK2.out, (HBW.out.trans (Turn.of_below (Below.refl wr.heap.size wr).drew (Nat.le_of_lt (Nat.lt_of_le_of_lt HZ.out.hB HZ.out.row.lt)))).trans (HB2.out.trans (Turn.of_set HRG.out HGB.out _ _))⟩)
                  clear hHeld HS2 HB2 camt2 famt2
                  go_wp2_with fail
                  go_roundw
                  case rel => exact ⟨k + 1, by omega, by go_num, Lib.hid (by rw [HST.out]; exact HEND.out)⟩
                  case measure => simp [intOf]; omega

                · go_simp
                  (go_at_call 50; refine (TK.out _ HZ0.out).mono ?_; rintro e w2 ⟨rfl, hr2, ho⟩)
                  have camt2 : w2.cell? ⟨g, i * 2 + 1, none⟩ = some (.int .i64 amt) := (cell_same (ho.other g HGN.out)).trans CAMT.out
                  have famt2 : w2.frozen? ⟨g, i * 2 + 1, none⟩ = false := (World.frozen?_of_block (a := ⟨g, i * 2 + 1, none⟩) (ho.other g HGN.out)).trans FAMT.out
                  have HS2 := Lib.hid (HZ0.out.only ho hr2 (S' := { Z with left := Z.left - x, ro := Z.ro + x }) rfl rfl rfl)
                  have HB2 := Lib.hid (Turn.of_only ho HZ0.out.row HZ.out.hB)
                  obtain ⟨cur2, hcur2⟩ : ∃ cur, RowAt w2 g 46 cur := HGR.out w2 (ho.other g HGN.out)
                  have HRG := Lib.hid hcur2
                  clear hcur2
                  clear hr2 ho
                  go_wp2_with fail
                  refine hK.out _ _ trivial (fun hHeld => ?_)
                  clear hK K
                  try simp only [Act.put, List.setIfInBounds_toArray, List.set_cons_zero, List.set_cons_succ]
                  refine wpAnyH_ready (rs := [3]) (by kernel_rfl) (by simp) ?_
                  refine AllReadyH.cons (o := ⟨_, _, _, _, _, _⟩) rfl (fun K hK => ?_) AllReadyH.nil
                  go_simp
                  go_wp2_with fail
                  refine hK.out _ _ trivial (fun hHeld => ?_)
                  clear hK K
                  try simp only [Act.put, List.setIfInBounds_toArray, List.set_cons_zero, List.set_cons_succ]
                  refine wpAnyH_take (i := 20) (oi := ⟨_, _, _, _, _, _⟩) (v := ?_) rfl (by kernel_rfl) (by kernel_rfl) (by kernel_rfl) (fun _ _ _ h => h) (Or.inl ⟨by rfl, ?_⟩) (by assumption) ?_
                  rotate_left
                  · intro w hSw
                    go_simp
                    all_goals with_reducible rfl
                  simp only [Act.put, List.setIfInBounds_toArray, List.set_cons_zero, List.set_cons_succ]
                  refine wpAnyH_take (i := 21) (oi := ⟨_, _, _, _, _, _⟩) (v := ?_) rfl (by kernel_rfl) (by kernel_rfl) (by kernel_rfl) (fun _ _ _ h => h) (Or.inl ⟨by rfl, ?_⟩) (by assumption) ?_
                  rotate_left
                  · intro w hSw
                    go_simp
                    all_goals with_reducible rfl
                  simp only [Act.put, List.setIfInBounds_toArray, List.set_cons_zero, List.set_cons_succ]
                  refine wpAnyH_take (i := 22) (oi := ⟨_, _, _, _, _, _⟩) (v := ?_) rfl (by kernel_rfl) (by kernel_rfl) (by kernel_rfl) (fun _ _ _ h => h) (Or.inl ⟨by rfl, ?_⟩) (by assumption) ?_
                  rotate_left
                  · intro w hSw
                    go_simp
                    all_goals with_reducible rfl
                  simp only [Act.put, List.setIfInBounds_toArray, List.set_cons_zero, List.set_cons_succ]
                  refine wpAnyH_ready (rs := [23]) (by kernel_rfl) (by simp) ?_
                  refine AllReadyH.cons (o := ⟨_, _, _, _, _, _⟩) rfl (fun K hK => ?_) AllReadyH.nil
                  go_simp
                  go_wp2_with fail
                  refine hK.out _ _ trivial (fun hHeld => ?_)
                  clear hK K
                  try simp only [Act.put, List.setIfInBounds_toArray, List.set_cons_zero, List.set_cons_succ]
                  refine wpAnyH_done (by kernel_rfl) ?_ _
                  have HEND := Lib.hid (show RecAt T B w (w2.setCell ⟨g, i * 2 + 1, none⟩ (.int .i64 am2)) nb mb R S (recStep Z a') vp vr (.slice (some ⟨g, 0, none⟩) vn vc) from by
                    rw [HRS.out]
                    exact ⟨HS2.out.setB HBI.out am2, HG2.out, HK2.out, (HBW.out.trans (Turn.of_below (Below.refl wr.heap.size wr).drew (Nat.le_of_lt (Nat.lt_of_le_of_lt HZ.out.hB HZ.out.row.lt)))).trans (HB2.out.trans (Turn.of_set HRG.out HGB.out _ _))⟩)
                  clear hHeld HS2 HB2 camt2 famt2
                  go_wp2_with fail
                  go_roundw
                  case rel => exact ⟨k + 1, by omega, by go_num, Lib.hid (by rw [HST.out]; exact HEND.out)⟩
                  case measure => simp [intOf]; omega






    · have hkm : k = m := by omega
      have HEND := Lib.hid (show RecAt T B w wr nb mb R S (acc.foldl recStep S) vp vr (.slice VA vn vc) from by
        rw [hkm, ← HM.out, List.take_length] at hZ
        rw [hZ]; exact ⟨hsz, hgz, hbz, hbw⟩)
      clear hsz hgz hbz hbw hZ hkm
      go_wp2_with fail
      go_end0
      exact ⟨rfl, HEND.out⟩
end Go.Proofs.Ytejkgnlflhngbaa
