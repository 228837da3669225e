/- find and recoup of the reference. -/
import Derived.Test.YtejkgnlflhngbaaTmF
namespace Go.Proofs.Ytejkgnlflhngbaa
open Go Go.RowKit Go.Lib Go.Shelf Go.Maps

def findI (bs : List (Int × Int)) (a : Int) : Int := match findB bs a with | some i => (i : Int) | none => -1
theorem bal_cells {w : World} {v : Value} {bs : List (Int × Int)} (h : IRows 2 w v (bs.map p2)) {k : Nat} {b : Int × Int} (hk : bs[k]? = some b) : ∃ g o c, v = .slice (some ⟨g, o, none⟩) bs.length c ∧ g < w.heap.size ∧ w.cell? ⟨g, o + k * 2, none⟩ = some (.int .i64 b.1) ∧ w.cell? ⟨g, o + k * 2 + 1, none⟩ = some (.int .i64 b.2) := by
  rcases h.2 with ⟨h2, _⟩ | ⟨g, o, c, he, hlt, hc⟩
  · rw [List.map_eq_nil_iff] at h2; rw [h2] at hk; simp at hk
  · rw [List.length_map] at he
    have h3 := hc k (p2 b) (by rw [List.getElem?_map, hk]; rfl)
    exact ⟨g, o, c, he, hlt, h3 0 b.1 rfl, h3 1 b.2 rfl⟩
theorem findB_none_take {bs : List (Int × Int)} {a : Int} (h : ∀ b ∈ bs, b.1 ≠ a) : findB bs a = none := by
  unfold findB
  rw [List.findIdx?_eq_none_iff]
  intro b hb
  simpa using h b hb
theorem findB_some_at {bs : List (Int × Int)} {a : Int} {k : Nat} {b : Int × Int} (h : ∀ b ∈ bs.take k, b.1 ≠ a) (hk : bs[k]? = some b) (he : b.1 = a) : findB bs a = some k := by
  unfold findB
  rw [List.findIdx?_eq_some_iff_getElem]
  obtain ⟨hl, hb⟩ := List.getElem?_eq_some_iff.1 hk
  refine ⟨hl, by rw [hb]; simpa using he, fun j hj => ?_⟩
  have := h bs[j] (by rw [List.mem_iff_getElem?]; exact ⟨j, by rw [List.getElem?_take, if_pos hj]; exact List.getElem?_eq_getElem (by omega)⟩)
  simpa using this
theorem find15_any (v : Value) (bs : List (Int × Int)) (a : Int) (w : World) (hv : IRows 2 w v (bs.map p2)) (hl : bs.length ≤ 1000000) :
    Calls Try.prog 48 #[v, .int .i64 a] w fun e w' => e = .returned (.int .i64 (findI bs a)) ∧ w = w' := by
  obtain ⟨A, c, rfl⟩ := hv.slice
  rw [List.length_map] at *
  have HV := Lib.hid hv
  obtain ⟨n, hn⟩ : ∃ n, bs.length = n := ⟨_, rfl⟩
  rw [hn] at hl ⊢
  have HN := Lib.hid hn
  clear hv hn
  go_enter Try.func48, Try.ntmps48
  go_wp2_with fail
  go_loopw [5] (fun iv wr => ∃ k : Nat, k ≤ n ∧ iv = .int .i64 k ∧ Hid ((∀ b ∈ bs.take k, b.1 ≠ a) ∧ w = wr)) (fun i _ => n - (intOf i).toNat)
  case atStart => exact ⟨0, by omega, rfl, Lib.hid ⟨by simp, rfl⟩⟩
  case round =>
    obtain ⟨k, hk, rfl, HR⟩ := hrel
    obtain ⟨ha, rfl⟩ := HR.out
    clear HR
    by_cases hk2 : k < n
    · obtain ⟨b, hbk⟩ : ∃ b, bs[k]? = some b := ⟨_, List.getElem?_eq_getElem (by rw [HN.out]; exact hk2)⟩
      obtain ⟨g, o, c', he, hlt, c0, c1⟩ := bal_cells HV.out hbk
      simp only [Value.slice.injEq] at he
      obtain ⟨hA, _⟩ := he
      subst hA
      obtain ⟨x, hx⟩ : ∃ x, b.1 = x := ⟨_, rfl⟩
      rw [hx] at c0
      by_cases hxa : x = a
      · have q : (x == a) = true := by simpa using hxa
        have HY := Lib.hid (show findI bs a = (k : Int) from by unfold findI; rw [findB_some_at ha hbk (hx.trans hxa)])
        clear ha hbk hx hxa c1
        go_wp2_with fail
        go_ret
        exact ⟨by rw [HY.out]; rfl, rfl⟩
      · have q : (x == a) = false := by simpa using hxa
        have HA := Lib.hid (show ∀ b ∈ bs.take (k + 1), b.1 ≠ a from by
          rw [List.take_add_one, hbk]
          intro y hy
          rcases List.mem_append.1 hy with h | h
          · exact ha y h
          · simp at h; rw [h, hx]; exact hxa)
        clear ha hbk hx hxa c1
        go_wp2_with fail
        go_roundw
        case rel => exact ⟨k + 1, by omega, by go_num, Lib.hid ⟨HA.out, trivial⟩⟩
        case measure => simp [intOf]; omega
    · have hkn : k = n := by omega
      have HY := Lib.hid (show findI bs a = -1 from by
        rw [hkn, ← HN.out, List.take_length] at ha
        unfold findI; rw [findB_none_take ha])
      clear ha hkn
      go_wp2_with fail
      go_ret
      exact ⟨by rw [HY.out]; rfl, rfl⟩
/-- where a round of the reference's recoup stands -/
def RefRec (T : Int) (B : Nat) (w wr : World) (S Z : StV) (vb : Value) : Prop :=
  OwnI 46 2 wr B vb (Z.bs.map p2) ∧ GoodS T Z ∧ (∀ b ∈ Z.bs, (-9223372036854775808 ≤ b.1 ∧ b.1 ≤ 9223372036854775807) ∧ -9223372036854775808 ≤ b.2 ∧ b.2 ≤ 9223372036854775807) ∧ Z.bs.length = S.bs.length ∧ Z.left ≤ S.left ∧ wr.heap.size = w.heap.size ∧ w.grownBy wr vb.ownBlock
set_option maxHeartbeats 4000000 in
theorem recoup15_any {T : Int} (B : Nat) (S : StV) (va vb : Value) (acc : List Int) (w w0 : World) (hown : OwnI 46 2 w B vb (S.bs.map p2)) (hg : GoodS T S) (hT : T ≤ 1000000000000000000) (hw0 : w0.heap.size ≤ B) (hb0 : Below w0.heap.size w0 w) (hacc : IntsL w0 va acc) (hlen : acc.length ≤ 1000000) (hbl : S.bs.length ≤ 1000)
    (hab : ∀ a ∈ acc, -9223372036854775808 ≤ a ∧ a ≤ 9223372036854775807) (hbb : ∀ b ∈ S.bs, (-9223372036854775808 ≤ b.1 ∧ b.1 ≤ 9223372036854775807) ∧ -9223372036854775808 ≤ b.2 ∧ b.2 ≤ 9223372036854775807) (hBw : B ≤ w.heap.size) :
    Calls Try.prog 32 #[va, .int .i64 S.left, vb] w fun e w' => e = .returned (.int .i64 (S.left - (acc.foldl recStep S).left)) ∧ RefRec T B w w' S (acc.foldl recStep S) vb := by
  obtain ⟨AC, cc, rfl⟩ := hacc.slice
  obtain ⟨VA, vn, vc, rfl⟩ := hown.slice3
  obtain ⟨m, hm⟩ : ∃ m, acc.length = m := ⟨_, rfl⟩
  rw [hm] at hlen ⊢
  have H0 := Lib.hid (show RefRec T B w w S S (.slice VA vn vc) from ⟨hown, hg, hbb, rfl, Int.le_refl _, rfl, ⟨rfl, rfl, rfl, Nat.le_refl _, fun _ _ _ => rfl⟩⟩)
  have HACC := Lib.hid hacc
  have HM := Lib.hid hm
  have HAB := Lib.hid hab
  have HT := Lib.hid hT
  have HIN : Hid (∀ W', RefRec T B w W' S S (.slice VA vn vc) ∨ True → Below B w W' → Below w0.heap.size w0 W') := Lib.hid fun W' _ h => hb0.trans (h.mono hw0)
  have HBW := Lib.hid hBw
  have HG := Lib.hid hg
  obtain ⟨lf, hlf⟩ : ∃ z, S.left = z := ⟨_, rfl⟩
  have HLF := Lib.hid hlf
  have hlf0 : 0 ≤ lf ∧ lf ≤ 1000000000000000000 := by
    have := hg.l0; have := hg.p0; have := hg.t0; have := hg.r0; have := hg.o0; have := hg.c0; have := hg.sum
    omega
  have HVB : Hid (∀ g, (Value.slice VA vn vc).ownBlock = some g → B ≤ g) := Lib.hid fun g hg2 => (hown.lt g hg2).1
  rw [hlf]
  clear hlf hown hg hT hb0 hacc hab hbb hm hBw
  go_enter Try.func32, Try.ntmps32
  go_wp2_with fail
  go_loopw [7, 8] (fun av iv wr => ∃ (k : Nat) (al : Int), k ≤ m ∧ iv = .int .i64 k ∧ av = .int .i64 al ∧ 0 ≤ al ∧ al ≤ lf ∧ Hid (al = lf - ((acc.take k).foldl recStep S).left ∧ RefRec T B w wr S ((acc.take k).foldl recStep S) (.slice VA vn vc))) (fun _ i _ => m - (intOf i).toNat)
  case atStart => exact ⟨0, 0, by omega, rfl, rfl, by omega, by omega, Lib.hid ⟨by simp [HLF.out], H0.out⟩⟩
  case round =>
    obtain ⟨k, al, hk, rfl, rfl, ha1, ha2, HR⟩ := hrel
    obtain ⟨Z, hZ⟩ : ∃ z, (acc.take k).foldl recStep S = z := ⟨_, rfl⟩
    have hr := HR.out
    rw [hZ] at hr
    clear HR
    obtain ⟨hal, hown, hgz, hbz, hzl, hzs, hsz, hgr⟩ := hr
    have hbB : Below B w wr := (Below.refl B w).grown hgr HBW.out (fun j e => HVB.out j e)
    by_cases hk2 : k < m
    · obtain ⟨a, ha⟩ : ∃ a, acc[k]? = some a := ⟨_, List.getElem?_eq_getElem (by rw [HM.out]; exact hk2)⟩
      have hst : (acc.take (k + 1)).foldl recStep S = recStep Z a := by
        rw [List.take_add_one, ha, List.foldl_append, hZ]
        rfl
      obtain ⟨ab, ao, hA, hca⟩ : ∃ b o, AC = some ⟨b, o, none⟩ ∧ wr.cell? ⟨b, o + k, none⟩ = some (.int .i64 a) := by
        rcases (HACC.out.below (HIN.out wr (Or.inr trivial) hbB)) with ⟨hnil, _⟩ | ⟨b, o, c, he, hlt, hc⟩
        · rw [hnil] at ha; simp at ha
        · simp only [Value.slice.injEq] at he
          exact ⟨b, o, he.1, hc k a ha⟩
      subst hA
      have FD := Lib.hid (find15_any (.slice VA vn vc) Z.bs a wr hown.rows (by omega))
      have HST := Lib.hid hst
      clear ha hst hZ
      rcases hf : findB Z.bs a with _ | i
      · have hfi : findI Z.bs a = -1 := by unfold findI; rw [hf]
        rw [hfi] at FD
        have hrs : recStep Z a = Z := by unfold recStep; rw [hf]
        have HEND := Lib.hid (show al = lf - (recStep Z a).left ∧ RefRec T B w wr S (recStep Z a) (.slice VA vn vc) from by rw [hrs]; exact ⟨hal, hown, hgz, hbz, hzl, hzs, hsz, hgr⟩)
        clear hal hown hgz hbz hzl hzs hsz hgr hbB hf hrs hfi
        go_wp2_with fail
        refine FD.out.mono ?_
        rintro e w' ⟨rfl, rfl⟩
        go_wp2_with fail
        go_roundw
        case rel => exact ⟨k + 1, al, by omega, by go_num, rfl, by omega, by omega, Lib.hid (by rw [HST.out]; exact HEND.out)⟩
        case measure => simp [intOf]; omega
      · have hfi : findI Z.bs a = (i : Int) := by unfold findI; rw [hf]
        rw [hfi] at FD
        obtain ⟨⟨a', amt⟩, hbi, hb1⟩ := findB_at hf
        dsimp only at hb1
        subst hb1
        have hil := (List.getElem?_eq_some_iff.1 hbi).1
        obtain ⟨g, hA, hn, hcamt, hfamt, hgb⟩ : ∃ g, VA = some ⟨g, 0, none⟩ ∧ vn = Z.bs.length ∧ wr.cell? ⟨g, i * 2 + 1, none⟩ = some (.int .i64 amt) ∧ wr.frozen? ⟨g, i * 2 + 1, none⟩ = false ∧ g < wr.heap.size := by
          have h1 := hown.rows.2
          rcases hown.2.2 with ⟨e0, e1⟩ | ⟨g, cap, cur, e0, hB', hg, _⟩
          · rw [List.length_map] at e1; omega
          · simp only [Value.slice.injEq, List.length_map] at e0
            obtain ⟨rfl, rfl, rfl⟩ := e0
            refine ⟨g, rfl, rfl, ?_, frozen_of_row _ _ _ _ _ hg, (Array.getElem?_eq_some_iff.1 hg).1⟩
            rcases h1 with ⟨h2, _⟩ | ⟨b, o, c, he, hlt, hc⟩
            · rw [List.map_eq_nil_iff] at h2; rw [h2] at hil; simp at hil
            · simp only [Value.slice.injEq, Option.some.injEq, Addr.mk.injEq] at he
              obtain ⟨⟨rfl, rfl, _⟩, _⟩ := he
              have h3 := hc i [a', amt] (by rw [List.getElem?_map, hbi]; rfl) 1 amt rfl
              rw [Nat.zero_add] at h3
              exact h3
        subst hA
        have hiv : i < vn := by rw [hn]; exact hil
        have hbnd := hbz _ (List.mem_of_getElem? hbi)
        dsimp only at hbnd
        have g1 := hgz.l0
        have hrs : recStep Z a' = { Z with left := Z.left - min Z.left (max amt 0), ro := Z.ro + min Z.left (max amt 0), bs := Z.bs.set i (a', amt - min Z.left (max amt 0)) } := by
          unfold recStep
          rw [hf]
          dsimp only
          rw [hbi]
        have hg2 := hgz.recStep a'
        rw [hrs] at hg2
        obtain ⟨mx, hmx⟩ : ∃ z, max amt 0 = z := ⟨_, rfl⟩
        rw [hmx] at hrs hg2
        obtain ⟨x, hx⟩ : ∃ z, min Z.left mx = z := ⟨_, rfl⟩
        rw [hx] at hrs hg2
        have hxb : 0 ≤ x ∧ x ≤ Z.left ∧ x ≤ mx := by omega
        obtain ⟨am2, ham2⟩ : ∃ z, amt - x = z := ⟨_, rfl⟩
        rw [ham2] at hrs hg2
        have wam : IntKind.i64.wrap (amt - x) = am2 := by rw [ham2]; exact IntWalk.i64_in _ (by omega)
        have hk2b : ∀ b ∈ Z.bs.set i (a', am2), (-9223372036854775808 ≤ b.1 ∧ b.1 ≤ 9223372036854775807) ∧ -9223372036854775808 ≤ b.2 ∧ b.2 ≤ 9223372036854775807 := by
          intro b hb
          rcases List.mem_or_eq_of_mem_set hb with h | h
          · exact hbz b h
          · rw [h]
            exact ⟨hbnd.1, by dsimp only; omega⟩
        obtain ⟨l, hl⟩ : ∃ z, lf - al = z := ⟨_, rfl⟩
        have hzl2 : Z.left = l := by omega
        have wl : IntKind.i64.wrap (lf - al) = l := by rw [hl]; exact IntWalk.i64_in _ (by omega)
        have mx1 : (if amt < 0 then 0 else amt) = mx := by rw [← hmx]; split <;> omega
        have mn1 : (if mx < l then mx else l) = x := by rw [← hx, hzl2]; split <;> omega
        obtain ⟨al2, hal2⟩ : ∃ z, al + x = z := ⟨_, rfl⟩
        have wal : IntKind.i64.wrap (al + x) = al2 := by rw [hal2]; exact IntWalk.i64_in _ (by omega)
        have hown2 := hown.2
        rw [List.length_map, ← hn] at hown2
        have hst2 := hown2.stored (i * 2 + 1) (.int .i64 am2)
        have HA2 : Hid (0 ≤ al2 ∧ al2 ≤ lf) := Lib.hid (by omega)
        have HEND := Lib.hid (show al2 = lf - (recStep Z a').left ∧ RefRec T B w (wr.setCell ⟨g, i * 2 + 1, none⟩ (.int .i64 am2)) S (recStep Z a') (.slice (some ⟨g, 0, none⟩) vn vc) from by
          rw [hrs]
          refine ⟨by dsimp only; omega, ⟨?_, ?_⟩, hg2, hk2b, by simpa using hzl, by dsimp only; omega, by simpa [World.setCell] using hsz, ?_⟩
          · intro r hr
            obtain ⟨z, _, rfl⟩ := List.mem_map.1 hr
            rfl
          · dsimp only
            rw [List.length_map, List.length_set, ← iCells_set2 _ _ _ _ hbi, ← hn]
            exact hst2.1
          · exact ⟨hgr.os, hgr.tape, hgr.output, by simpa [World.setCell] using hgr.size, fun j hj hne => (Below.heap_setCell wr ⟨g, i * 2 + 1, none⟩ _ j (fun e => hne (by rw [e]; rfl))).trans (hgr.block j hj hne)⟩)
        have hno : ¬ ((i : Int) < 0) := by omega
        clear hal hown hgz hbz hzl hzs hsz hgr hbB hf hrs hg2 hk2b hbi hfi hl hzl2 hmx hx hxb hn hil g1 hbnd ham2 hst2 hal2 hown2
        go_wp2_with fail
        refine FD.out.mono ?_
        rintro e w' ⟨rfl, rfl⟩
        go_wp2_with fail
        go_roundw
        case rel => exact ⟨k + 1, al2, by omega, by go_num, rfl, HA2.out.1, HA2.out.2, Lib.hid (by rw [HST.out]; exact HEND.out)⟩
        case measure => simp [intOf]; omega
    · have hkm : k = m := by omega
      have HEND := Lib.hid (show al = lf - (acc.foldl recStep S).left ∧ RefRec T B w wr S (acc.foldl recStep S) (.slice VA vn vc) from by
        rw [hkm, ← HM.out, List.take_length] at hZ
        rw [hZ]; exact ⟨hal, hown, hgz, hbz, hzl, hzs, hsz, hgr⟩)
      clear hal hown hgz hbz hzl hzs hsz hgr hbB hZ hkm
      go_wp2_with fail
      go_ret
      exact ⟨by rw [← HEND.out.1]; rfl, HEND.out.2⟩
end Go.Proofs.Ytejkgnlflhngbaa
