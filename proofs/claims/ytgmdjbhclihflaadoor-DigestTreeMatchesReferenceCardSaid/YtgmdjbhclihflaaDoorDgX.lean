/- VerifyExtension's loop. -/
import Derived.Test.YtgmdjbhclihflaaDoorDgW
namespace Go.Proofs.YtgmdjbhclihflaaDoor
open Go Go.RowKit Go.Lib Go.Shelf
attribute [local go_sem] Oper.semAt_some

theorem joinB_len (y : List UInt8 × Bool) (o : List UInt8) : (joinB y o).length = 32 := by unfold joinB; split <;> exact shaB_len _
set_option maxRecDepth 100000 in
set_option maxHeartbeats 4000000 in
theorem vext_in (old root : List UInt8) (m0 n0 : Nat) (hm1 : 1 ≤ m0) (h2 : m0 < n0) (hn : n0 ≤ 9223372036854775807) (A0 : Option Addr) (q0 c0 : Nat) (pr : List (List UInt8)) (w : World)
    (hv : SlS w (.slice A0 q0 c0) pr) (hq : pr.length = q0) (hqc : q0 ≤ c0) (hbig : q0 ≤ 5000) (ha : allD pr = true) (ho : old.length = 32) (hr : root.length = 32) (hK : KAt w) :
    Calls Tryd.prog 22 #[.string ⟨old.toArray⟩, .int .i64 m0, .string ⟨root.toArray⟩, .int .i64 n0, .slice A0 q0 c0] w fun e w' => e = .returned (.bool (bothV n0 m0 n0 old pr.reverse true == some (old, root))) ∧ Below w.heap.size w w' := by
  obtain ⟨V, hV⟩ : ∃ V, bothV n0 m0 n0 old pr.reverse true = V := ⟨_, rfl⟩
  rw [hV]
  have AL := Lib.hid (all_any _ pr w hv (by omega))
  rw [ha] at AL
  have I1 := Lib.hid (isdigest_any old w)
  have I2 := Lib.hid (isdigest_any root w)
  rw [show (old.length == 32) = true by simp [ho]] at I1
  rw [show (root.length == 32) = true by simp [hr]] at I2
  have HP : Hid (VxAt w w A0 c0 q0 m0 n0 (.slice none 0 0) true V old pr [] n0) := Lib.hid ⟨hq, hqc, hm1, by omega, Nat.le_refl _, hn, hv, allD_iff.1 ha, OwnD.nil _ _, fun p hp => by simp at hp, Below.refl _ _, by rw [hV]; cases V <;> rfl, by simp; omega⟩
  have HK := Lib.hid hK
  have HLO := Lib.hid ho
  clear hv ha hbig hV hq hqc ho hr
  refine (callsIn_wide (n := 9)).1 (callsIn_of_wp_marks Tryd.func22 rfl trivial ?_ rfl)
  simp only [Tryd.ntmps22, List.size_toArray, List.length_cons, List.length_nil, Nat.reduceAdd, Nat.reduceSub, Array.replicate_succ, Array.replicate_zero, List.push_toArray, List.append_toArray, List.nil_append, List.cons_append]
  refine wpIn_wide.2 ?_
  have h1d : decide ((m0 : Int) < 0) = false := by simp
  have h2d : decide (n0 < m0) = false := by simp; omega
  have h3d : ((m0 : Int) == 0) = false := by rw [beq_eq_false_iff_ne]; omega
  have h4d : ((m0 : Int) == (n0 : Int)) = false := by rw [beq_eq_false_iff_ne]; omega
  have h5d : (m0 == n0) = false := by rw [beq_eq_false_iff_ne]; omega
  go_wp2_with fail
  refine AL.out.mono ?_
  rintro e w' ⟨rfl, rfl⟩
  go_wp2_with fail
  refine I1.out.mono ?_
  rintro e w' ⟨rfl, rfl⟩
  go_wp2_with fail
  refine I2.out.mono ?_
  rintro e w' ⟨rfl, rfl⟩
  go_wp2_with fail
  go_loopw [1, 3, 4, 11, 12] (fun v1 v3 v4 v11 v12 wr => ∃ (A : Option Addr) (c q n i f : Nat) (wh : Bool) (pr : List (List UInt8)) (acc : List (List UInt8 × Bool)), v1 = .int .i64 i ∧ v3 = .int .i64 n ∧ v4 = .slice A q c ∧ v12 = .bool wh ∧ Hid (VxAt w wr A c q i n v11 wh V old pr acc f)) (fun _ v3 _ _ _ _ => (RowKit.intOf v3).toNat)
  case atStart => exact ⟨_, _, _, _, _, _, _, _, _, rfl, rfl, rfl, rfl, HP⟩
  case round =>
    obtain ⟨A, c, q, n, i, f, wh, pr, acc, rfl, rfl, rfl, rfl, HS⟩ := hrel
    clear HP h1d h2d h3d h4d h5d h2 hn hm1 AL I1 I2
    obtain ⟨v11, hv11⟩ : ∃ z, z = u11 := ⟨_, rfl⟩
    subst hv11
    have hpos := HS.out.pos
    have hcap := HS.out.cap
    have hbig := HS.out.big
    have hle := HS.out.le
    have hsh := HS.out.short
    obtain ⟨f', hf'⟩ : ∃ f', f = f' + 1 := ⟨f - 1, by have := HS.out.fuel; omega⟩
    have HF := Lib.hid hf'
    clear hf'
    by_cases hn1 : i < n
    · obtain ⟨k, hk⟩ : ∃ k, leftN n = k := ⟨_, rfl⟩
      obtain ⟨hk1, hk2, hk3⟩ := leftN_bd (show 2 ≤ n by omega) (by omega)
      by_cases hq0 : q = 0
      · subst hq0
        have heq := HS.out.eq
        rw [List.length_eq_zero_iff.1 HS.out.len, HF.out, List.reverse_nil, bothV_nil (by omega)] at heq
        have TK := Lib.hid (take_nil A c wr)
        have HE : Hid (none = V) := Lib.hid heq
        clear heq hk hk1 hk2 hk3
        go_wp2_with fail
        refine TK.out.mono ?_
        rintro e w' ⟨rfl, rfl⟩
        go_wp2_with fail
        refine ⟨.bool false, by simp [results, Tryd.results22, go_sem], ?_, HS.out.below⟩
        rw [← HE.out]
        rfl
      · obtain ⟨q', hqq⟩ : ∃ q', q = q' + 1 := ⟨q - 1, by omega⟩
        obtain ⟨x, hx⟩ : ∃ x, pr[q']? = some x := ⟨_, List.getElem?_eq_getElem (by rw [HS.out.len]; omega)⟩
        have TK := Lib.hid (take_cons A q' q c pr x wr (HS.out.sls.below HS.out.below) hqq HS.out.cap hx (by omega))
        have HX := Lib.hid hx
        have HQQ := Lib.hid hqq
        have HKL := Lib.hid hk
        clear hx hqq hq0
        rw [hk] at hk1 hk2 hk3
        clear hk
        go_wp2_with fail
        by_cases hik : i ≤ k
        · refine TK.out.mono ?_
          rintro e w1 ⟨rfl, kk, rfl⟩
          have LF := Lib.hid (left_any n (wr.drewN kk) (by omega) (by omega))
          rw [HKL.out] at LF
          have hiki : decide (k < i) = false := by simp; omega
          go_wp2_with fail
          refine LF.out.mono ?_
          rintro e w2 ⟨rfl, rfl⟩
          go_wp2_with (first | ((with_reducible refine wpList_stop (o := ⟨some 88, _, _, _, _, _⟩) ?_)))
          unfold Stop
          have b2 : Below wr.heap.size wr ((wr.drewN kk).alloc (.cells #[.string ⟨x.toArray⟩, .bool false] 57)) := (below_drewN (Below.refl _ _) kk).alloc (below_drewN (Below.refl wr.heap.size wr) kk).size _
          have o1 := HS.out.out.below b2
          have rx := RowAt.new (wr.drewN kk) 57 #[.string ⟨x.toArray⟩, .bool false]
          refine wpList_append_side rfl (.tmp 81) (.tmp 87) rfl rfl o1 (wr.drewN kk).heap.size 1 (x, false) rfl ?_ ?_ ?_ ?_ (fun v3 w3 hown hg => ?_)
          · rw [rx.cell 0]; rfl
          · rw [rx.cell 1]; rfl
          · have := HS.out.short; omega
          · exact Nat.le_trans HS.out.below.size b2.size
          have hdd : bothV f i n old pr.reverse wh = (bothV (f - 1) (i) (k) old (pr.take q').reverse wh).map (join2 (x, false)) := by
            rw [rev_take pr HX.out (by have := HS.out.len; have := HQQ.out; omega), HF.out, bothV_cons (by omega), HKL.out, if_pos hik]
            rfl
          have HN : Hid (VxAt w w3 A c q' (i) (k) v3 wh V old (pr.take q') (acc ++ [(x, false)]) (f - 1)) := Lib.hid (HS.out.down b2 o1 hown hg HQQ.out hdd (by omega) (by omega) (by omega) (HS.out.digs x (List.mem_of_getElem? HX.out)))
          clear hown hg hdd o1 b2 rx
          go_wp2_with fail
          go_roundw
          case rel => exact ⟨_, _, _, _, _, _, _, _, _, by go_num, by go_num, rfl, rfl, HN⟩
          case measure => simp [RowKit.intOf]; omega
        · refine TK.out.mono ?_
          rintro e w1 ⟨rfl, kk, rfl⟩
          have LF := Lib.hid (left_any n (wr.drewN kk) (by omega) (by omega))
          rw [HKL.out] at LF
          have hiki : decide (k < i) = true := by simp; omega
          have e1 : IntKind.i64.wrap ((n : Int) - (k : Int)) = ((n - k : Nat) : Int) := by rw [IntWalk.i64_in _ (by omega)]; omega
          have e2 : IntKind.i64.wrap ((i : Int) - (k : Int)) = ((i - k : Nat) : Int) := by rw [IntWalk.i64_in _ (by omega)]; omega
          go_wp2_with fail
          refine LF.out.mono ?_
          rintro e w2 ⟨rfl, rfl⟩
          go_wp2_with (first | ((with_reducible refine wpList_stop (o := ⟨some 88, _, _, _, _, _⟩) ?_)))
          unfold Stop
          have b2 : Below wr.heap.size wr ((wr.drewN kk).alloc (.cells #[.string ⟨x.toArray⟩, .bool true] 57)) := (below_drewN (Below.refl _ _) kk).alloc (below_drewN (Below.refl wr.heap.size wr) kk).size _
          have o1 := HS.out.out.below b2
          have rx := RowAt.new (wr.drewN kk) 57 #[.string ⟨x.toArray⟩, .bool true]
          refine wpList_append_side rfl (.tmp 81) (.tmp 87) rfl rfl o1 (wr.drewN kk).heap.size 1 (x, true) rfl ?_ ?_ ?_ ?_ (fun v3 w3 hown hg => ?_)
          · rw [rx.cell 0]; rfl
          · rw [rx.cell 1]; rfl
          · have := HS.out.short; omega
          · exact Nat.le_trans HS.out.below.size b2.size
          have hdd : bothV f i n old pr.reverse wh = (bothV (f - 1) (i - k) (n - k) old (pr.take q').reverse false).map (join2 (x, true)) := by
            rw [rev_take pr HX.out (by have := HS.out.len; have := HQQ.out; omega), HF.out, bothV_cons (by omega), HKL.out, if_neg hik]
            rfl
          have HN : Hid (VxAt w w3 A c q' (i - k) (n - k) v3 false V old (pr.take q') (acc ++ [(x, true)]) (f - 1)) := Lib.hid (HS.out.down b2 o1 hown hg HQQ.out hdd (by omega) (by omega) (by omega) (HS.out.digs x (List.mem_of_getElem? HX.out)))
          clear hown hg hdd o1 b2 rx
          go_wp2_with fail
          go_roundw
          case rel => exact ⟨_, _, _, _, _, _, _, _, _, by go_num, by go_num, rfl, rfl, HN⟩
          case measure => simp [RowKit.intOf]; omega
    · have hin : i = n := by omega
      subst hin
      have heq := HS.out.eq
      have hlen := HS.out.len
      obtain ⟨A11, c11, hv11⟩ := HS.out.out.slice
      obtain ⟨m, hm⟩ : ∃ m, acc.length = m := ⟨_, rfl⟩
      rw [hm] at hv11 hsh
      subst hv11
      cases wh with
      | true =>
        rw [HF.out, bothV_end (Nat.le_refl _)] at heq
        have HEQ := Lib.hid (And.intro heq (And.intro hm (And.intro hlen hsh)))
        clear heq hm hlen hsh
        go_wp2_with fail
        refine (backD_any A11 m c11 _).mono ?_
        rintro e w' ⟨rfl, rfl⟩
        go_wp2_with fail
        obtain ⟨n8, hn8⟩ : ∃ z, wr.heap.size = z := ⟨_, rfl⟩
        obtain ⟨W8, hW8⟩ : ∃ z, ((wr.alloc (.cells #[.string ⟨old.toArray⟩] 9)).alloc (.cells #[.string ⟨old.toArray⟩] 9)).alloc (.cells #[.slice A11 m c11] 53) = z := ⟨_, rfl⟩
        have b8 : Below wr.heap.size wr W8 := by rw [← hW8]; exact (((Below.refl _ _).alloc (Nat.le_refl _) _).alloc (by simp) _).alloc (by simp; omega) _
        have kB0 : RowAt W8 n8 9 #[.string ⟨old.toArray⟩] := by rw [← hW8, ← hn8]; exact ((RowAt.new wr _ _).alloc _).alloc _
        have kB1 : RowAt W8 (n8 + 1) 9 #[.string ⟨old.toArray⟩] := by rw [← hW8, ← hn8]; exact (row_new1 wr _ _ _).alloc _
        have kB2 : RowAt W8 (n8 + 2) 53 #[.slice A11 m c11] := by
          rw [← hW8, ← hn8]
          have := row_new1 (wr.alloc (.cells #[.string ⟨old.toArray⟩] 9)) (.cells #[.string ⟨old.toArray⟩] 9) 53 #[.slice A11 m c11]
          rwa [World.size_alloc] at this
        have hs8 : W8.heap.size = n8 + 3 := by rw [← hW8, ← hn8]; simp
        have hst := HLO.out
        rw [hn8, hW8]
        have HB8 := Lib.hid b8
        have HSZ := Lib.hid (And.intro hn8 hs8)
        have HKB := Lib.hid (And.intro kB0 (And.intro kB1 kB2))
        have HDL : Hid (acc.length = m) := Lib.hid HEQ.out.2.1
        have HST : Hid ((old : List UInt8).length = 32) := Lib.hid hst
        clear b8 kB0 kB1 kB2 hn8 hs8 hW8 hst
        have hml : m ≤ 10000 := by have := HEQ.out.2.2.2; omega
        refine wpIn_wide.1 (range_backD2 (n := 9) (v := .slice A11 m c11) (xs := acc) (by omega) (by rw [HDL.out]; omega) rfl rfl
          (fun k W => ∃ o1 o2, RowAt W n8 9 #[.string ⟨o1.toArray⟩] ∧ RowAt W (n8 + 1) 9 #[.string ⟨o2.toArray⟩] ∧ RowAt W (n8 + 2) 53 #[.slice A11 m c11] ∧ o1.length = 32 ∧ o2.length = 32 ∧ (acc.take (m - k)).foldr join2 (o1, o2) = acc.foldr join2 (old, old) ∧ Below wr.heap.size wr W) ?calm ?mem ?start
          (fun j y r => { tmps := #[.string ⟨old.toArray⟩, .int .i64 i, .string ⟨root.toArray⟩, .int .i64 i, .slice A q c, undef, undef, undef, undef, undef, u10, .slice A11 m c11, .bool true, u13, u14, u15, u16, .pointer (some ⟨n8, 0, none⟩), .pointer (some ⟨n8 + 1, 0, none⟩), undef, .pointer (some ⟨r, 0, none⟩), .bool false, .int .i64 m0, .bool false, .bool false, .int .i64 m0, .int .i64 n0, .bool false, .bool false, .bool false, .slice A0 q0 c0, .bool true, .bool false, .bool false, .bool false, .string ⟨old.toArray⟩, .bool true, .bool false, .bool false, .bool false, .string ⟨root.toArray⟩, .bool true, .bool false, .bool false, .bool false, .int .i64 m0, .bool false, undef, undef, undef, undef, undef, undef, undef, undef, .bool false, .int .i64 m0, .int .i64 n0, .bool false, undef, undef, undef, undef, undef, undef, undef, undef, .int .i64 i, .int .i64 i, .bool false, u70, u71, u72, u73, u74, u75, u76, u77, u78, u79, u80, u81, u82, u83, u84, u85, u86, u87, u88, u89, u90, u91, u92, u93, u94, u95, u96, u97, u98, .string ⟨old.toArray⟩, .string ⟨old.toArray⟩, .bool true, .bool false, undef, undef, undef, undef, undef, undef, undef, undef, undef, .slice A11 m c11, .func (.func 57) #[] #[.pointer (some ⟨n8 + 2, 0, none⟩)], .int .i64 (j : Int), .agg #[.string ⟨y.1.toArray⟩, .bool y.2], undef, undef, undef, undef, undef, undef, undef, undef, undef, undef, undef, undef, undef, undef, undef, undef, undef, undef, undef, undef, undef], defers := [] }) ?assign ?body ?done)
        case calm =>
          rintro k W W' row ⟨o1, o2, hr1, hr2, hr3, ho1, ho2, he, hb⟩ hg2 hrow
          have hsz := HSZ.out
          refine ⟨o1, o2, ?_, ?_, ?_, ho1, ho2, he, hb.grown hg2 hb.size (fun r e => by have := (hrow r e).1; omega)⟩
          · exact (hg2.block n8 hr1.lt (fun e => by have := (hrow _ e.symm).1; omega)).trans hr1
          · exact (hg2.block (n8 + 1) hr2.lt (fun e => by have := (hrow _ e.symm).1; omega)).trans hr2
          · exact (hg2.block (n8 + 2) hr3.lt (fun e => by have := (hrow _ e.symm).1; omega)).trans hr3
        case mem =>
          rintro k W ⟨o1, o2, hr1, hr2, hr3, ho1, ho2, he, hb⟩
          exact ⟨hr3.cell 0, HS.out.out.sld.below hb⟩
        case start => exact ⟨_, _, HKB.out.1, HKB.out.2.1, HKB.out.2.2, HST.out, HST.out, by rw [Nat.sub_zero, List.take_of_length_le (by rw [HDL.out]; exact Nat.le_refl _)], HB8.out⟩
        case assign =>
          intro l j y W K hK
          gi_wp2
          exact hK
        case body =>
          rintro l k j y r W hy hkj ⟨o1, o2, hr1, hr2, hr3, ho1, ho2, he, hb⟩ hrr hwr
          rw [HDL.out] at hkj
          have hsz := HSZ.out
          have hyl : y.1.length = 32 := HS.out.adigs y (List.mem_of_getElem? hy)
          have hnx : (acc.take (m - (k + 1))).foldr join2 (join2 y (o1, o2)) = acc.foldr join2 (old, old) := by
            rw [← he, show m - k = j + 1 by omega, show m - (k + 1) = j by omega, List.take_add_one, hy, List.foldr_append]
            rfl
          have hrn : n8 + 3 ≤ r := by omega
          have HRR := Lib.hid (And.intro hr1 (And.intro hr2 (And.intro hr3 hrr)))
          have HB := Lib.hid hb
          have hKW : KAt W := HK.out.below (HS.out.below.trans (hb.mono HS.out.below.size))
          have HKW := Lib.hid hKW
          have HNX := Lib.hid hnx
          have HSR := Lib.hid hrn
          have hc0 : W.cell? ⟨n8, 0, none⟩ = some (.string ⟨o1.toArray⟩) := hr1.cell 0
          have hc1 : W.cell? ⟨n8 + 1, 0, none⟩ = some (.string ⟨o2.toArray⟩) := hr2.cell 0
          have hc2 : W.cell? ⟨r, 0, none⟩ = some (.string ⟨y.1.toArray⟩) := hrr.cell 0
          have hc3 : W.cell? ⟨r, 1, none⟩ = some (.bool y.2) := hrr.cell 1
          have HLL := Lib.hid (And.intro hyl (And.intro ho1 ho2))
          clear hr1 hr2 hr3 hb he hy hkj hyl hnx hrr hwr hrn hKW ho1 ho2 hsz
          obtain ⟨ys, yb⟩ := y
          have hSJ : ∀ o W', Below W.heap.size W W' → o.length = 32 → Calls Tryd.prog 45 #[.agg #[.string ⟨ys.toArray⟩, .bool yb], .string ⟨o.toArray⟩] W' fun e w' => e = .returned (.string ⟨(joinB (ys, yb) o).toArray⟩) ∧ Below W'.heap.size W' w' := fun o W' hb ho => sidejoin_any (ys, yb) o W' (by have := HLL.out.1; omega) (by omega) (HKW.out.below hb)
          cases yb with
          | false =>
            have CC := Lib.hid (hSJ o2 W (Below.refl _ _) HLL.out.2.2)
            clear hSJ
            gi_wp2
            refine ⟨trivial, (CallsIn.inRound l (callsIn_wide.2 CC.out)).mono ?_⟩
            rintro e W9 ⟨rfl, hx⟩
            have hr1 := HRR.out.1.below hx HRR.out.1.lt
            have hr2 := HRR.out.2.1.below hx HRR.out.2.1.lt
            have hr3 := HRR.out.2.2.1.below hx HRR.out.2.2.1.lt
            have hk9 : W9.cell? ⟨n8 + 1, 0, none⟩ = some (.string ⟨o2.toArray⟩) := hr2.cell 0
            have hf9 := RowAt.free hr2 0
            have HX9 := Lib.hid (And.intro hx (And.intro hr1 (And.intro hr2 hr3)))
            clear hx hr1 hr2 hr3
            gi_wp2_with fail
            have hsz := HSZ.out
            refine ⟨(KeepsOthers.of_grownBy (grown_of_below HX9.out.1 n8) (fun r o e ho => by cases e; rw [show W.heap[n8]? = _ from HRR.out.1] at ho; cases ho; rfl)).trans (KeepsOthers.setCell W9 _ _), o1, HX9.out.2.1.far (by simp) _, joinB (ys, false) o2, row_set HX9.out.2.2.1 _, HX9.out.2.2.2.far (by simp) _, HLL.out.2.1, joinB_len _ _, HNX.out, ((HB.out.trans (HX9.out.1.mono HB.out.size))).setCell (p := ⟨n8 + 1, 0, none⟩) (by have := hsz.1; simp; omega) _⟩
          | true =>
            have CC := Lib.hid (hSJ o1 W (Below.refl _ _) HLL.out.2.1)
            have HJ := Lib.hid hSJ
            clear hSJ
            gi_wp2
            refine ⟨trivial, (CallsIn.inRound l (callsIn_wide.2 CC.out)).mono ?_⟩
            rintro e W9 ⟨rfl, hx⟩
            have hr1 := HRR.out.1.below hx HRR.out.1.lt
            have hr2 := HRR.out.2.1.below hx HRR.out.2.1.lt
            have hr3 := HRR.out.2.2.1.below hx HRR.out.2.2.1.lt
            have hrr := HRR.out.2.2.2.below hx HRR.out.2.2.2.lt
            have hk9 : W9.cell? ⟨n8, 0, none⟩ = some (.string ⟨o1.toArray⟩) := hr1.cell 0
            have hf9 := RowAt.free hr1 0
            obtain ⟨W10, hW10⟩ : ∃ z, W9.setCell ⟨n8, 0, none⟩ (.string ⟨(joinB (ys, true) o1).toArray⟩) = z := ⟨_, rfl⟩
            have q1 : RowAt W10 n8 9 #[.string ⟨(joinB (ys, true) o1).toArray⟩] := by rw [← hW10]; exact row_set hr1 _
            have q2 : RowAt W10 (n8 + 1) 9 #[.string ⟨o2.toArray⟩] := by rw [← hW10]; exact hr2.far (by simp) _
            have q3 : RowAt W10 (n8 + 2) 53 #[.slice A11 m c11] := by rw [← hW10]; exact hr3.far (by simp) _
            have q4 : RowAt W10 r 57 #[.string ⟨ys.toArray⟩, .bool true] := by rw [← hW10]; exact hrr.far (by have := HSR.out; simp; omega) _
            have hsz := HSZ.out
            have bA : Below wr.heap.size wr W10 := by rw [← hW10]; exact (HB.out.trans (hx.mono HB.out.size)).setCell (p := ⟨n8, 0, none⟩) (by have := hsz.1; simp; omega) _
            have kA : KeepsOthers W W10 := by rw [← hW10]; exact (KeepsOthers.of_grownBy (grown_of_below hx n8) (fun r o e ho => by cases e; rw [show W.heap[n8]? = _ from HRR.out.1] at ho; cases ho; rfl)).trans (KeepsOthers.setCell W9 _ _)
            have d1 : W10.cell? ⟨n8 + 1, 0, none⟩ = some (.string ⟨o2.toArray⟩) := q2.cell 0
            have d2 : W10.cell? ⟨r, 0, none⟩ = some (.string ⟨ys.toArray⟩) := q4.cell 0
            have d3 : W10.cell? ⟨r, 1, none⟩ = some (.bool true) := q4.cell 1
            have SJ2 := Lib.hid (sidejoin_any (ys, true) o2 W10 (by have := HLL.out.1; simp; omega) (by have := HLL.out.2.2; omega) (HK.out.below (HS.out.below.trans (bA.mono HS.out.below.size))))
            have HQ := Lib.hid (And.intro q1 (And.intro q2 (And.intro q3 (And.intro bA kA))))
            have HW10 := Lib.hid hW10
            clear hx hr1 hr2 hr3 hrr q1 q2 q3 q4 bA kA hW10 hsz
            gi_wp2_with (first | (rw [HW10.out]))
            refine ⟨trivial, (CallsIn.inRound l (callsIn_wide.2 SJ2.out)).mono ?_⟩
            rintro e W11 ⟨rfl, hx⟩
            have hr1 := HQ.out.1.below hx HQ.out.1.lt
            have hr2 := HQ.out.2.1.below hx HQ.out.2.1.lt
            have hr3 := HQ.out.2.2.1.below hx HQ.out.2.2.1.lt
            have hk11 : W11.cell? ⟨n8 + 1, 0, none⟩ = some (.string ⟨o2.toArray⟩) := hr2.cell 0
            have hf11 := RowAt.free hr2 0
            have HX11 := Lib.hid (And.intro hx (And.intro hr1 (And.intro hr2 hr3)))
            clear hx hr1 hr2 hr3
            gi_wp2_with fail
            have hsz := HSZ.out
            refine ⟨(HQ.out.2.2.2.2.trans (KeepsOthers.of_grownBy (grown_of_below HX11.out.1 n8) (fun r o e ho => by cases e; rw [show W10.heap[n8]? = _ from HQ.out.1] at ho; cases ho; rfl))).trans (KeepsOthers.setCell W11 _ _), joinB (ys, true) o1, HX11.out.2.1.far (by simp) _, joinB (ys, true) o2, row_set HX11.out.2.2.1 _, HX11.out.2.2.2.far (by simp) _, joinB_len _ _, joinB_len _ _, HNX.out, (HQ.out.2.2.2.1.trans (HX11.out.1.mono HQ.out.2.2.2.1.size)).setCell (p := ⟨n8 + 1, 0, none⟩) (by have := hsz.1; simp; omega) _⟩
        case done =>
          rintro D W hD ⟨o1, o2, hr1, hr2, hr3, ho1, ho2, he, hb⟩ hKD
          rw [HDL.out, Nat.sub_self] at he
          have hsz := HSZ.out
          have he : (o1, o2) = acc.foldr join2 (old, old) := he
          have hc0 : W.cell? ⟨n8, 0, none⟩ = some (.string ⟨o1.toArray⟩) := hr1.cell 0
          have hc1 : W.cell? ⟨n8 + 1, 0, none⟩ = some (.string ⟨o2.toArray⟩) := hr2.cell 0
          have HBW := Lib.hid (HS.out.below.trans (hb.mono HS.out.below.size))
          have HKD := Lib.hid (And.intro hKD (And.intro hD (And.intro HS.out.below.size (And.intro hb.size hsz))))
          have HE := Lib.hid he
          clear hr1 hr2 hr3 hb hKD hD hsz ho1 ho2 he
          by_cases hq0 : q = 0
          · subst hq0
            have HEE : Hid ((V == some (old, root)) = ((o1 == old) && (o2 == root))) := Lib.hid (by
              have h := HEQ.out.1
              rw [List.length_eq_zero_iff.1 HEQ.out.2.2.1, List.reverse_nil, if_pos rfl] at h
              rw [← h, Option.map_some, ← HE.out]
              rfl)
            cases hh : (o1 == old) with
            | false =>
              go_wp2_with fail
              refine ⟨by simp, .inl ⟨_, _, rfl, run_takeDeferred HKD.out.1, ?_⟩⟩
              refine ⟨.bool (false), by simp [results, Tryd.results22, go_sem], ?_, ?_⟩
              · rw [HEE.out, hh]; rfl
              · exact HBW.out.grown (grownBy_putObj' W D _) (by have := HKD.out.2; omega) (fun r e => by cases e; have := HKD.out.2; omega)
            | true =>
              go_wp2_with fail
              refine ⟨by simp, .inl ⟨_, _, rfl, run_takeDeferred HKD.out.1, ?_⟩⟩
              refine ⟨.bool (o2 == root), by simp [results, Tryd.results22, go_sem], ?_, ?_⟩
              · rw [HEE.out, hh]; rfl
              · exact HBW.out.grown (grownBy_putObj' W D _) (by have := HKD.out.2; omega) (fun r e => by cases e; have := HKD.out.2; omega)
          · have hq0i : ((q : Int) == 0) = false := by rw [beq_eq_false_iff_ne]; omega
            have hV : (V == some (old, root)) = false := by
              have h := HEQ.out.1
              rw [if_neg (by
                intro e
                have := HEQ.out.2.2.1
                rw [List.reverse_eq_nil_iff.1 e] at this
                simp at this
                omega)] at h
              rw [← h]
              rfl
            have HV := Lib.hid hV
            clear hV
            go_wp2_with fail
            refine ⟨by simp, .inl ⟨_, _, rfl, run_takeDeferred HKD.out.1, ?_⟩⟩
            refine ⟨.bool (false), by simp [results, Tryd.results22, go_sem], ?_, ?_⟩
            · rw [HV.out]
            · exact HBW.out.grown (grownBy_putObj' W D _) (by have := HKD.out.2; omega) (fun r e => by cases e; have := HKD.out.2; omega)
      | false =>
        rw [HF.out, bothV_part (Nat.le_refl _)] at heq
        by_cases hq1 : q = 1
        · subst hq1
          obtain ⟨x0, rfl⟩ : ∃ x0, pr = [x0] := List.length_eq_one_iff.1 hlen
          replace heq : some (acc.foldr join2 (x0, x0)) = V := heq
          have hst : x0.length = 32 := HS.out.digs x0 (by simp)
          obtain ⟨b, o, hA, hlt, hcx⟩ := HS.out.sls.get (i := 0) (x := x0) rfl
          subst hA
          rw [Nat.add_zero] at hcx
          have HEQ := Lib.hid (And.intro heq (And.intro hm (And.intro hlen hsh)))
          obtain ⟨n8, hn8⟩ : ∃ z, wr.heap.size = z := ⟨_, rfl⟩
          obtain ⟨W2, hW2⟩ : ∃ z, (wr.alloc (.cells #[.string ⟨old.toArray⟩] 9)).alloc (.cells #[.string ⟨old.toArray⟩] 9) = z := ⟨_, rfl⟩
          have b2 : Below wr.heap.size wr W2 := by rw [← hW2]; exact (((Below.refl _ _).alloc (Nat.le_refl _) _).alloc (by simp) _)
          have kB0 : RowAt W2 n8 9 #[.string ⟨old.toArray⟩] := by rw [← hW2, ← hn8]; exact ((RowAt.new wr _ _).alloc _)
          have kB1 : RowAt W2 (n8 + 1) 9 #[.string ⟨old.toArray⟩] := by rw [← hW2, ← hn8]; exact (row_new1 wr _ _ _)
          have hs2 : W2.heap.size = n8 + 2 := by rw [← hW2, ← hn8]; simp
          have cx : W2.cell? ⟨b, o, none⟩ = some (.string ⟨x0.toArray⟩) := ((HS.out.below.trans (b2.mono HS.out.below.size)).cell (p := ⟨b, o, none⟩) hlt).trans hcx
          have kc0 : W2.cell? ⟨n8, 0, none⟩ = some (.string ⟨old.toArray⟩) := kB0.cell 0
          have kc1 : W2.cell? ⟨n8 + 1, 0, none⟩ = some (.string ⟨old.toArray⟩) := kB1.cell 0
          have f0 := RowAt.free kB0 0
          have f1 := RowAt.free kB1 0
          have hbn : b < n8 := by have := HS.out.below.size; omega
          have cs : ∀ p v, b ≠ p.block → (W2.setCell p v).cell? ⟨b, o, none⟩ = some (.string ⟨x0.toArray⟩) := by
            intro p v hp
            rw [← cx]
            unfold World.cell?
            rw [Below.heap_setCell W2 p v b hp]
          have g1 := cs ⟨n8, 0, none⟩ (.string ⟨x0.toArray⟩) (by simp; omega)
          have g2 := cs ⟨n8 + 1, 0, none⟩ (.string ⟨x0.toArray⟩) (by simp; omega)
          have r1 : RowAt (W2.setCell ⟨n8, 0, none⟩ (.string ⟨x0.toArray⟩)) (n8 + 1) 9 #[.string ⟨old.toArray⟩] := kB1.far (by simp) _
          have r2 : RowAt (W2.setCell ⟨n8 + 1, 0, none⟩ (.string ⟨x0.toArray⟩)) n8 9 #[.string ⟨old.toArray⟩] := kB0.far (by simp) _
          have e1 : (W2.setCell ⟨n8, 0, none⟩ (.string ⟨x0.toArray⟩)).cell? ⟨n8 + 1, 0, none⟩ = some (.string ⟨old.toArray⟩) := r1.cell 0
          have e2 : (W2.setCell ⟨n8 + 1, 0, none⟩ (.string ⟨x0.toArray⟩)).cell? ⟨n8, 0, none⟩ = some (.string ⟨old.toArray⟩) := r2.cell 0
          have e3 := RowAt.free r1 0
          have e4 := RowAt.free r2 0
          have H2 := Lib.hid (And.intro b2 (And.intro kB0 (And.intro kB1 (And.intro hs2 (And.intro hn8 hst)))))
          have HW2 := Lib.hid (And.intro hn8 hW2)
          clear heq hm hlen hsh hcx cs r1 r2 hbn b2 kB0 kB1 hs2 hn8 hst hW2
          go_wp2_with fail
          rw [HW2.out.1, HW2.out.2]
          go_region
          obtain ⟨W3, hW3⟩ : ∃ z, ((W2.setCell ⟨n8, 0, none⟩ (.string ⟨x0.toArray⟩)).setCell ⟨n8 + 1, 0, none⟩ (.string ⟨x0.toArray⟩)).drew = z := ⟨_, rfl⟩
          rw [hW3]
          have b3 : Below wr.heap.size wr W3 := by
            rw [← hW3]
            have hh := H2.out.2.2.2.2.1
            exact ((H2.out.1.setCell (p := ⟨n8, 0, none⟩) (by simp; omega) _).setCell (p := ⟨n8 + 1, 0, none⟩) (by simp; omega) _).drew
          have k30 : RowAt W3 n8 9 #[.string ⟨x0.toArray⟩] := by rw [← hW3]; exact ((row_set H2.out.2.1 _).far (by simp) _).drew
          have k31 : RowAt W3 (n8 + 1) 9 #[.string ⟨x0.toArray⟩] := by rw [← hW3]; exact (row_set (H2.out.2.2.1.far (by simp) _) _).drew
          have hs3 : W3.heap.size = n8 + 2 := by rw [← hW3, ← H2.out.2.2.2.1]; simp [World.setCell, World.drew]
          have H3 := Lib.hid (And.intro b3 (And.intro k30 (And.intro k31 hs3)))
          clear b3 k30 k31 hs3 hW3 kc0 kc1 f0 f1 g1 g2 e1 e2 e3 e4 cx
          go_wp2_with fail
          refine (backD_any A11 m c11 _).mono ?_
          rintro e w' ⟨rfl, rfl⟩
          go_wp2_with fail
          obtain ⟨W8, hW8⟩ : ∃ z, W3.alloc (.cells #[.slice A11 m c11] 53) = z := ⟨_, rfl⟩
          have b8 : Below wr.heap.size wr W8 := by rw [← hW8]; exact H3.out.1.alloc H3.out.1.size _
          have kB0 : RowAt W8 n8 9 #[.string ⟨x0.toArray⟩] := by rw [← hW8]; exact H3.out.2.1.alloc _
          have kB1 : RowAt W8 (n8 + 1) 9 #[.string ⟨x0.toArray⟩] := by rw [← hW8]; exact H3.out.2.2.1.alloc _
          have kB2 : RowAt W8 (n8 + 2) 53 #[.slice A11 m c11] := by rw [← hW8, ← H3.out.2.2.2]; exact RowAt.new W3 _ _
          have hs8 : W8.heap.size = n8 + 3 := by rw [← hW8, World.size_alloc, H3.out.2.2.2]
          have hn8 := H2.out.2.2.2.2.1
          have hst := H2.out.2.2.2.2.2
          rw [hW8, H3.out.2.2.2]
          have HB8 := Lib.hid b8
          have HSZ := Lib.hid (And.intro hn8 hs8)
          have HKB := Lib.hid (And.intro kB0 (And.intro kB1 kB2))
          have HDL : Hid (acc.length = m) := Lib.hid HEQ.out.2.1
          have HST : Hid ((x0 : List UInt8).length = 32) := Lib.hid hst
          clear b8 kB0 kB1 kB2 hn8 hs8 hW8 hst
          have hml : m ≤ 10000 := by have := HEQ.out.2.2.2; omega
          refine wpIn_wide.1 (range_backD2 (n := 9) (v := .slice A11 m c11) (xs := acc) (by omega) (by rw [HDL.out]; omega) rfl rfl
            (fun k W => ∃ o1 o2, RowAt W n8 9 #[.string ⟨o1.toArray⟩] ∧ RowAt W (n8 + 1) 9 #[.string ⟨o2.toArray⟩] ∧ RowAt W (n8 + 2) 53 #[.slice A11 m c11] ∧ o1.length = 32 ∧ o2.length = 32 ∧ (acc.take (m - k)).foldr join2 (o1, o2) = acc.foldr join2 (x0, x0) ∧ Below wr.heap.size wr W) ?calm ?mem ?start
            (fun j y r => { tmps := #[.string ⟨old.toArray⟩, .int .i64 i, .string ⟨root.toArray⟩, .int .i64 i, .slice none 0 0, undef, undef, undef, undef, undef, u10, .slice A11 m c11, .bool false, u13, u14, u15, u16, .pointer (some ⟨n8, 0, none⟩), .pointer (some ⟨n8 + 1, 0, none⟩), undef, .pointer (some ⟨r, 0, none⟩), .bool false, .int .i64 m0, .bool false, .bool false, .int .i64 m0, .int .i64 n0, .bool false, .bool false, .bool false, .slice A0 q0 c0, .bool true, .bool false, .bool false, .bool false, .string ⟨old.toArray⟩, .bool true, .bool false, .bool false, .bool false, .string ⟨root.toArray⟩, .bool true, .bool false, .bool false, .bool false, .int .i64 m0, .bool false, undef, undef, undef, undef, undef, undef, undef, undef, .bool false, .int .i64 m0, .int .i64 n0, .bool false, undef, undef, undef, undef, undef, undef, undef, undef, .int .i64 i, .int .i64 i, .bool false, u70, u71, u72, u73, u74, u75, u76, u77, u78, u79, u80, u81, u82, u83, u84, u85, u86, u87, u88, u89, u90, u91, u92, u93, u94, u95, u96, u97, u98, .string ⟨old.toArray⟩, .string ⟨old.toArray⟩, .bool false, .bool true, .slice (some ⟨b, o, none⟩) 1 c, .int .i64 1, .bool false, .slice (some ⟨b, o, none⟩) 1 c, .pointer (some ⟨b, o, none⟩), .string ⟨x0.toArray⟩, .slice (some ⟨b, o, none⟩) 1 c, .pointer (some ⟨b, o, none⟩), .string ⟨x0.toArray⟩, .slice A11 m c11, .func (.func 57) #[] #[.pointer (some ⟨n8 + 2, 0, none⟩)], .int .i64 (j : Int), .agg #[.string ⟨y.1.toArray⟩, .bool y.2], undef, undef, undef, undef, undef, undef, undef, undef, undef, undef, undef, undef, undef, undef, undef, undef, undef, undef, undef, undef, undef], defers := [] }) ?assign ?body ?done)
          case calm =>
            rintro k W W' row ⟨o1, o2, hr1, hr2, hr3, ho1, ho2, he, hb⟩ hg2 hrow
            have hsz := HSZ.out
            refine ⟨o1, o2, ?_, ?_, ?_, ho1, ho2, he, hb.grown hg2 hb.size (fun r e => by have := (hrow r e).1; omega)⟩
            · exact (hg2.block n8 hr1.lt (fun e => by have := (hrow _ e.symm).1; omega)).trans hr1
            · exact (hg2.block (n8 + 1) hr2.lt (fun e => by have := (hrow _ e.symm).1; omega)).trans hr2
            · exact (hg2.block (n8 + 2) hr3.lt (fun e => by have := (hrow _ e.symm).1; omega)).trans hr3
          case mem =>
            rintro k W ⟨o1, o2, hr1, hr2, hr3, ho1, ho2, he, hb⟩
            exact ⟨hr3.cell 0, HS.out.out.sld.below hb⟩
          case start => exact ⟨_, _, HKB.out.1, HKB.out.2.1, HKB.out.2.2, HST.out, HST.out, by rw [Nat.sub_zero, List.take_of_length_le (by rw [HDL.out]; exact Nat.le_refl _)], HB8.out⟩
          case assign =>
            intro l j y W K hK
            gi_wp2
            exact hK
          case body =>
            rintro l k j y r W hy hkj ⟨o1, o2, hr1, hr2, hr3, ho1, ho2, he, hb⟩ hrr hwr
            rw [HDL.out] at hkj
            have hsz := HSZ.out
            have hyl : y.1.length = 32 := HS.out.adigs y (List.mem_of_getElem? hy)
            have hnx : (acc.take (m - (k + 1))).foldr join2 (join2 y (o1, o2)) = acc.foldr join2 (x0, x0) := by
              rw [← he, show m - k = j + 1 by omega, show m - (k + 1) = j by omega, List.take_add_one, hy, List.foldr_append]
              rfl
            have hrn : n8 + 3 ≤ r := by omega
            have HRR := Lib.hid (And.intro hr1 (And.intro hr2 (And.intro hr3 hrr)))
            have HB := Lib.hid hb
            have hKW : KAt W := HK.out.below (HS.out.below.trans (hb.mono HS.out.below.size))
            have HKW := Lib.hid hKW
            have HNX := Lib.hid hnx
            have HSR := Lib.hid hrn
            have hc0 : W.cell? ⟨n8, 0, none⟩ = some (.string ⟨o1.toArray⟩) := hr1.cell 0
            have hc1 : W.cell? ⟨n8 + 1, 0, none⟩ = some (.string ⟨o2.toArray⟩) := hr2.cell 0
            have hc2 : W.cell? ⟨r, 0, none⟩ = some (.string ⟨y.1.toArray⟩) := hrr.cell 0
            have hc3 : W.cell? ⟨r, 1, none⟩ = some (.bool y.2) := hrr.cell 1
            have HLL := Lib.hid (And.intro hyl (And.intro ho1 ho2))
            clear hr1 hr2 hr3 hb he hy hkj hyl hnx hrr hwr hrn hKW ho1 ho2 hsz
            obtain ⟨ys, yb⟩ := y
            have hSJ : ∀ o W', Below W.heap.size W W' → o.length = 32 → Calls Tryd.prog 45 #[.agg #[.string ⟨ys.toArray⟩, .bool yb], .string ⟨o.toArray⟩] W' fun e w' => e = .returned (.string ⟨(joinB (ys, yb) o).toArray⟩) ∧ Below W'.heap.size W' w' := fun o W' hb ho => sidejoin_any (ys, yb) o W' (by have := HLL.out.1; omega) (by omega) (HKW.out.below hb)
            cases yb with
            | false =>
              have CC := Lib.hid (hSJ o2 W (Below.refl _ _) HLL.out.2.2)
              clear hSJ
              gi_wp2
              refine ⟨trivial, (CallsIn.inRound l (callsIn_wide.2 CC.out)).mono ?_⟩
              rintro e W9 ⟨rfl, hx⟩
              have hr1 := HRR.out.1.below hx HRR.out.1.lt
              have hr2 := HRR.out.2.1.below hx HRR.out.2.1.lt
              have hr3 := HRR.out.2.2.1.below hx HRR.out.2.2.1.lt
              have hk9 : W9.cell? ⟨n8 + 1, 0, none⟩ = some (.string ⟨o2.toArray⟩) := hr2.cell 0
              have hf9 := RowAt.free hr2 0
              have HX9 := Lib.hid (And.intro hx (And.intro hr1 (And.intro hr2 hr3)))
              clear hx hr1 hr2 hr3
              gi_wp2_with fail
              have hsz := HSZ.out
              refine ⟨(KeepsOthers.of_grownBy (grown_of_below HX9.out.1 n8) (fun r o e ho => by cases e; rw [show W.heap[n8]? = _ from HRR.out.1] at ho; cases ho; rfl)).trans (KeepsOthers.setCell W9 _ _), o1, HX9.out.2.1.far (by simp) _, joinB (ys, false) o2, row_set HX9.out.2.2.1 _, HX9.out.2.2.2.far (by simp) _, HLL.out.2.1, joinB_len _ _, HNX.out, ((HB.out.trans (HX9.out.1.mono HB.out.size))).setCell (p := ⟨n8 + 1, 0, none⟩) (by have := hsz.1; simp; omega) _⟩
            | true =>
              have CC := Lib.hid (hSJ o1 W (Below.refl _ _) HLL.out.2.1)
              have HJ := Lib.hid hSJ
              clear hSJ
              gi_wp2
              refine ⟨trivial, (CallsIn.inRound l (callsIn_wide.2 CC.out)).mono ?_⟩
              rintro e W9 ⟨rfl, hx⟩
              have hr1 := HRR.out.1.below hx HRR.out.1.lt
              have hr2 := HRR.out.2.1.below hx HRR.out.2.1.lt
              have hr3 := HRR.out.2.2.1.below hx HRR.out.2.2.1.lt
              have hrr := HRR.out.2.2.2.below hx HRR.out.2.2.2.lt
              have hk9 : W9.cell? ⟨n8, 0, none⟩ = some (.string ⟨o1.toArray⟩) := hr1.cell 0
              have hf9 := RowAt.free hr1 0
              obtain ⟨W10, hW10⟩ : ∃ z, W9.setCell ⟨n8, 0, none⟩ (.string ⟨(joinB (ys, true) o1).toArray⟩) = z := ⟨_, rfl⟩
              have q1 : RowAt W10 n8 9 #[.string ⟨(joinB (ys, true) o1).toArray⟩] := by rw [← hW10]; exact row_set hr1 _
              have q2 : RowAt W10 (n8 + 1) 9 #[.string ⟨o2.toArray⟩] := by rw [← hW10]; exact hr2.far (by simp) _
              have q3 : RowAt W10 (n8 + 2) 53 #[.slice A11 m c11] := by rw [← hW10]; exact hr3.far (by simp) _
              have q4 : RowAt W10 r 57 #[.string ⟨ys.toArray⟩, .bool true] := by rw [← hW10]; exact hrr.far (by have := HSR.out; simp; omega) _
              have hsz := HSZ.out
              have bA : Below wr.heap.size wr W10 := by rw [← hW10]; exact (HB.out.trans (hx.mono HB.out.size)).setCell (p := ⟨n8, 0, none⟩) (by have := hsz.1; simp; omega) _
              have kA : KeepsOthers W W10 := by rw [← hW10]; exact (KeepsOthers.of_grownBy (grown_of_below hx n8) (fun r o e ho => by cases e; rw [show W.heap[n8]? = _ from HRR.out.1] at ho; cases ho; rfl)).trans (KeepsOthers.setCell W9 _ _)
              have d1 : W10.cell? ⟨n8 + 1, 0, none⟩ = some (.string ⟨o2.toArray⟩) := q2.cell 0
              have d2 : W10.cell? ⟨r, 0, none⟩ = some (.string ⟨ys.toArray⟩) := q4.cell 0
              have d3 : W10.cell? ⟨r, 1, none⟩ = some (.bool true) := q4.cell 1
              have SJ2 := Lib.hid (sidejoin_any (ys, true) o2 W10 (by have := HLL.out.1; simp; omega) (by have := HLL.out.2.2; omega) (HK.out.below (HS.out.below.trans (bA.mono HS.out.below.size))))
              have HQ := Lib.hid (And.intro q1 (And.intro q2 (And.intro q3 (And.intro bA kA))))
              have HW10 := Lib.hid hW10
              clear hx hr1 hr2 hr3 hrr q1 q2 q3 q4 bA kA hW10 hsz
              gi_wp2_with (first | (rw [HW10.out]))
              refine ⟨trivial, (CallsIn.inRound l (callsIn_wide.2 SJ2.out)).mono ?_⟩
              rintro e W11 ⟨rfl, hx⟩
              have hr1 := HQ.out.1.below hx HQ.out.1.lt
              have hr2 := HQ.out.2.1.below hx HQ.out.2.1.lt
              have hr3 := HQ.out.2.2.1.below hx HQ.out.2.2.1.lt
              have hk11 : W11.cell? ⟨n8 + 1, 0, none⟩ = some (.string ⟨o2.toArray⟩) := hr2.cell 0
              have hf11 := RowAt.free hr2 0
              have HX11 := Lib.hid (And.intro hx (And.intro hr1 (And.intro hr2 hr3)))
              clear hx hr1 hr2 hr3
              gi_wp2_with fail
              have hsz := HSZ.out
              refine ⟨(HQ.out.2.2.2.2.trans (KeepsOthers.of_grownBy (grown_of_below HX11.out.1 n8) (fun r o e ho => by cases e; rw [show W10.heap[n8]? = _ from HQ.out.1] at ho; cases ho; rfl))).trans (KeepsOthers.setCell W11 _ _), joinB (ys, true) o1, HX11.out.2.1.far (by simp) _, joinB (ys, true) o2, row_set HX11.out.2.2.1 _, HX11.out.2.2.2.far (by simp) _, joinB_len _ _, joinB_len _ _, HNX.out, (HQ.out.2.2.2.1.trans (HX11.out.1.mono HQ.out.2.2.2.1.size)).setCell (p := ⟨n8 + 1, 0, none⟩) (by have := hsz.1; simp; omega) _⟩
          case done =>
            rintro D W hD ⟨o1, o2, hr1, hr2, hr3, ho1, ho2, he, hb⟩ hKD
            rw [HDL.out, Nat.sub_self] at he
            have hsz := HSZ.out
            have he : (o1, o2) = acc.foldr join2 (x0, x0) := he
            have hc0 : W.cell? ⟨n8, 0, none⟩ = some (.string ⟨o1.toArray⟩) := hr1.cell 0
            have hc1 : W.cell? ⟨n8 + 1, 0, none⟩ = some (.string ⟨o2.toArray⟩) := hr2.cell 0
            have HBW := Lib.hid (HS.out.below.trans (hb.mono HS.out.below.size))
            have HKD := Lib.hid (And.intro hKD (And.intro hD (And.intro HS.out.below.size (And.intro hb.size hsz))))
            have HE := Lib.hid he
            clear hr1 hr2 hr3 hb hKD hD hsz ho1 ho2 he
            have HEE : Hid ((V == some (old, root)) = ((o1 == old) && (o2 == root))) := Lib.hid (by
              rw [← HEQ.out.1, ← HE.out]
              rfl)
            cases hh : (o1 == old) with
            | false =>
              go_wp2_with fail
              refine ⟨by simp, .inl ⟨_, _, rfl, run_takeDeferred HKD.out.1, ?_⟩⟩
              refine ⟨.bool (false), by simp [results, Tryd.results22, go_sem], ?_, ?_⟩
              · rw [HEE.out, hh]; rfl
              · exact HBW.out.grown (grownBy_putObj' W D _) (by have := HKD.out.2; omega) (fun r e => by cases e; have := HKD.out.2; omega)
            | true =>
              go_wp2_with fail
              refine ⟨by simp, .inl ⟨_, _, rfl, run_takeDeferred HKD.out.1, ?_⟩⟩
              refine ⟨.bool (o2 == root), by simp [results, Tryd.results22, go_sem], ?_, ?_⟩
              · rw [HEE.out, hh]; rfl
              · exact HBW.out.grown (grownBy_putObj' W D _) (by have := HKD.out.2; omega) (fun r e => by cases e; have := HKD.out.2; omega)
        · have hq1i : ((q : Int) == 1) = false := by rw [beq_eq_false_iff_ne]; omega
          have hq2i : (q == 1) = false := by rw [beq_eq_false_iff_ne]; omega
          have hV : (V == some (old, root)) = false := by
            rw [← heq]
            match pr, hlen with
            | [], _ => rfl
            | [x], h => simp at h; omega
            | x :: y :: r, _ =>
              cases hrv : (x :: y :: r).reverse with
              | nil => rfl
              | cons z t =>
                cases t with
                | nil => have := congrArg List.length hrv; simp at this
                | cons _ _ => rfl
          have HV := Lib.hid hV
          clear hV heq hlen
          go_wp2_with fail
          refine ⟨.bool false, by simp [results, Tryd.results22, go_sem], by rw [HV.out], ?_⟩
          exact HS.out.below.trans ((((Below.refl wr.heap.size wr).alloc (Nat.le_refl _) _).alloc (by simp) _).mono HS.out.below.size)
end Go.Proofs.YtgmdjbhclihflaaDoor
