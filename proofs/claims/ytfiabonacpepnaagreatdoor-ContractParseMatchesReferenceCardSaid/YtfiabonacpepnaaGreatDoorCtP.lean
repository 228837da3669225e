/- Parse. -/
import Derived.Test.YtfiabonacpepnaaGreatDoorCtO
import Derived.Test.YtfiabonacpepnaaGreatDoorCtD
import Derived.WalkMore
namespace Go.Proofs.YtfiabonacpepnaaGreatDoor
open Go Go.RowKit Go.Lib Go.Shelf Go.Maps

def errI (b : Bool) : Int := if b then 0 else 140
/-- what Parse returns -/
def ParseEnd (w : World) (p : List TermV × Nat × Bool) (e : Ending) (w' : World) : Prop :=
  ∃ v L, e = .returned (.tuple #[v, .int .i64 p.2.1, .int .i64 (errI p.2.2)]) ∧ L.map (·.1) = p.1 ∧ OwnT w' w.heap.size v L ∧ Below w.heap.size w w'
theorem OwnT.nil (w : World) (base : Nat) : OwnT w base (.slice none 0 0) [] := ⟨World.ownsRow_nil _ _ _ _, by simp⟩
theorem ignored_cases (l : List UInt8) : (ignoredL l = true ∧ (l = [] ∨ ∃ r, l = 35 :: r)) ∨ (ignoredL l = false ∧ ∃ c r, l = c :: r ∧ c ≠ 35) := by
  cases l with
  | nil => exact .inl ⟨rfl, .inl rfl⟩
  | cons c r =>
    by_cases h : c = 35
    · subst h; exact .inl ⟨rfl, .inr ⟨r, rfl⟩⟩
    · refine .inr ⟨?_, c, r, rfl, h⟩
      unfold ignoredL
      simp [h]
theorem run_str_head (t : TypeId) (ht : Tryz.prog.underlying t = some .string) (c : UInt8) (r : List UInt8) (w : World) :
    (Instr.index t (.string ⟨(c :: r).toArray⟩) (.int .i64 0)).run Tryz.prog w = .ok (.int .u8 (c.toNat : Int)) w := by
  rw [run_index_string w t _ .i64 _ ht, dif_pos ⟨by decide, by show (0 : Int) < ((c :: r).length : Int); simp⟩]
  rfl
theorem parse_step (l : List UInt8) (r : List (List UInt8)) (i : Nat) (out : List TermV) : parseGo (l :: r) i out = if ignoredL l = true then parseGo r (i + 1) out else if (termV l).2 = true ∧ out.length ≠ 20 then parseGo r (i + 1) (out ++ [(termV l).1]) else ([], i + 1, false) := by rw [parseGo]
set_option maxRecDepth 100000 in
set_option maxHeartbeats 8000000 in
theorem parse_any (s : List UInt8) (w : World) (hK : KAt w) (hl : s.length ≤ 9223372036854775807) :
    Calls Tryz.prog 20 #[strV s] w (ParseEnd w (parseV s)) := by
  have HP := Lib.hid (parseV.eq_1 s)
  obtain ⟨n0, hn0⟩ : ∃ n, s.length = n := ⟨_, rfl⟩
  by_cases h2 : 2000 < s.length
  · have HE : Hid (parseV s = ([], 0, false)) := Lib.hid (by rw [HP.out, if_neg (by omega)])
    obtain ⟨q, hq⟩ : ∃ q, parseV s = q := ⟨_, rfl⟩
    rw [hq] at HE ⊢
    have d0 : decide (2000 < (s.length : Int)) = true := by simp; omega
    clear HP hq hn0 h2
    unfold strV
    go_enter Tryz.func20, Tryz.ntmps20
    go_wp2_with fail
    refine wp_scope_straight ?_
    go_wp2_with fail
    rw [Exit.noGoto_ret]
    go_ret3
    exact ⟨.slice none 0 0, [], by rw [HE.out]; rfl, by rw [HE.out]; rfl, OwnT.nil _ _, Below.refl _ _⟩
  · have hl2 : s.length ≤ 2000 := by omega
    have HE := Lib.hid (HP.out.trans (if_pos hl2))
    obtain ⟨P0, hP0⟩ : ∃ q, parseV s = q := ⟨_, rfl⟩
    rw [hP0] at HE ⊢
    have hsl := split_len 10 s
    have HSP := Lib.hid (split_any 10 s w hK (by omega))
    have d0 : decide (2000 < (s.length : Int)) = false := by simp; omega
    obtain ⟨ls, hls⟩ : ∃ z, splitL 10 s = z := ⟨_, rfl⟩
    rw [hls] at HE HSP hsl
    obtain ⟨n, hn⟩ : ∃ z, ls.length = z := ⟨_, rfl⟩
    rw [hn] at HSP hsl
    have r1 := RowAt.new w 9 (partsC ls)
    have b1 : Below w.heap.size w (w.alloc (.cells (partsC ls) 9)) := (Below.refl _ _).alloc (Nat.le_refl _) _
    obtain ⟨W1, hW1⟩ : ∃ z, w.alloc (.cells (partsC ls) 9) = z := ⟨_, rfl⟩
    rw [hW1] at r1 b1 HSP
    obtain ⟨N, hN⟩ : ∃ z, w.heap.size = z := ⟨_, rfl⟩
    have h9N : 9 ≤ N := by rw [← hN]; exact hK.lt
    rw [hN] at r1 b1 HSP
    have HR1 := Lib.hid r1
    have HB1 := Lib.hid b1
    have HNN := Lib.hid hN
    have HLN := Lib.hid hn
    have HSL := Lib.hid hsl
    have HK := Lib.hid hK
    have HS2 := Lib.hid hl2
    have hn2 : n ≤ 2001 := by omega
    clear HP hP0 hn0 h2 hl2 hls hn r1 b1 hW1 hN hK hsl hl
    unfold strV at HSP ⊢
    go_enter Tryz.func20, Tryz.ntmps20
    go_wp2_with fail
    refine wp_scope_straight ?_
    go_wp2_with fail
    refine wp_label ?_
    go_wp2_with fail
    refine HSP.out.mono ?_
    rintro e w1 ⟨rfl, rfl⟩
    go_wp2_with fail
    go_loopw [5, 16] (fun ov iv wr => ∃ (k : Nat) (L : List (TermV × Value)), iv = .int .i64 k ∧ k ≤ n ∧ Hid (P0 = parseGo (ls.drop k) k (L.map (·.1)) ∧ L.length ≤ 20 ∧ OwnT wr N ov L ∧ RowAt wr N 9 (partsC ls) ∧ Below N w wr)) (fun _ iv _ => n - (intOf iv).toNat)
    case atStart => exact ⟨0, [], rfl, Nat.zero_le _, Lib.hid ⟨by rw [HE.out]; rfl, by simp, OwnT.nil _ _, HR1.out, HB1.out⟩⟩
    case round =>
      obtain ⟨k, L, rfl, hk, HR⟩ := hrel
      obtain ⟨hgo, hL20, how, hrow, hbw⟩ := HR.out
      have HGO := Lib.hid hgo
      have HOW := Lib.hid how
      have HROW := Lib.hid hrow
      have HBW := Lib.hid hbw
      have HKr := Lib.hid (HK.out.below hbw h9N)
      obtain ⟨A5, n5, c5, rfl⟩ := how.slice3
      obtain rfl : n5 = L.length := by
        rcases how.own.2 with ⟨h1, h2⟩ | ⟨g, cap, cur, h1, _⟩
        · cases h1; exact h2.symm
        · cases h1; rfl
      have hNr : N < wr.heap.size := hrow.lt
      clear HR hgo how hbw
      by_cases hkn : k < n
      · obtain ⟨l, hlk⟩ : ∃ l, ls[k]? = some l := ⟨_, List.getElem?_eq_getElem (by rw [HLN.out]; exact hkn)⟩
        have hcell := parts_cell hrow k l hlk
        unfold strV at hcell
        have hdrop : ls.drop k = l :: ls.drop (k + 1) := List.drop_eq_getElem?_toList_append.trans (by rw [hlk]; rfl)
        have HSTEP := Lib.hid (parse_step l (ls.drop (k + 1)) k (L.map (·.1)))
        rw [← hdrop, ← HGO.out] at HSTEP
        have hl3 : l.length ≤ 3000 := by have := HSL.out.2 l (List.mem_of_getElem? hlk); have := HS2.out; omega
        clear hlk hdrop hrow
        rcases ignored_cases l with ⟨hig, hc⟩ | ⟨hig, c, r, rfl, hc35⟩
        · have HNX := Lib.hid (HSTEP.out.trans (if_pos hig))
          rcases hc with rfl | ⟨r, rfl⟩
          · clear hig
            go_wp2_with fail
            go_roundw
            case rel => exact ⟨k + 1, L, by go_num, by omega, Lib.hid ⟨HNX.out, hL20, HOW.out, HROW.out, HBW.out⟩⟩
            case measure => simp [intOf]; omega
          · clear hig
            go_wp2_with fail
            go_roundw
            case rel => exact ⟨k + 1, L, by go_num, by omega, Lib.hid ⟨HNX.out, hL20, HOW.out, HROW.out, HBW.out⟩⟩
            case measure => simp [intOf]; omega
        · have HNX := Lib.hid (HSTEP.out.trans (if_neg (by rw [hig]; decide)))
          have HT := Lib.hid (term_any (c :: r) wr HKr.out hl3)
          obtain ⟨T, okk, htv⟩ : ∃ T o, termV (c :: r) = (T, o) := ⟨_, _, rfl⟩
          rw [htv] at HNX HT
          unfold strV at HT
          have n35 : ((c.toNat : Int) == 35) = false := by
            rw [beq_eq_false_iff_ne]
            intro e
            exact hc35 (by rw [← ofNat_toNat c, show c.toNat = 35 by omega]; rfl)
          have hix := fun W => run_str_head 9 Tryz.underlying9 c r W
          clear hig hc35 htv HSTEP
          go_wp2_with fail
          refine HT.out.mono ?_
          rintro e w2 ⟨va, rfl, ho2, hb2⟩
          obtain ⟨tk, tn, tm, tb, ta⟩ := T
          dsimp only at ho2
          obtain ⟨AV, nv, cv, rfl⟩ := ho2.slice3
          have HO2 := Lib.hid ho2
          have HOW2 := Lib.hid (HOW.out.kept fun g _ h2 => hb2.block g h2)
          have HROW2 := Lib.hid (HROW.out.below hb2 hNr)
          have HBW2 := Lib.hid (HBW.out.trans (hb2.mono (by omega)))
          have hN2 : N < w2.heap.size := HROW2.out.lt
          have hwr2 : wr.heap.size ≤ w2.heap.size := hb2.size
          have HC : Hid ((termC ⟨tk, tn, tm, tb, ta⟩ (.slice AV nv cv)).all (·.oneCell') = true) := Lib.hid (by kernel_rfl)
          have hr3 := RowAt.new w2 28 #[.int .i64 tk, .int .i64 tn, .int .i64 tm, .int .i64 tb, .slice AV nv cv]
          have b3 : Below w2.heap.size w2 (w2.alloc (.cells #[.int .i64 tk, .int .i64 tn, .int .i64 tm, .int .i64 tb, .slice AV nv cv] 28)) := (Below.refl _ _).alloc (Nat.le_refl _) _
          have HR3 := Lib.hid hr3
          have HR3t : Hid (RowAt (w2.alloc (.cells (termC ⟨tk, tn, tm, tb, ta⟩ (.slice AV nv cv)) 28)) w2.heap.size 28 #[.int .i64 tk, .int .i64 tn, .int .i64 tm, .int .i64 tb, .slice AV nv cv]) := Lib.hid hr3
          have HB3 := Lib.hid b3
          clear ho2 hb2 hr3 b3 hcell hix n35
          unfold termC
          by_cases hgood : okk = true ∧ L.length ≠ 20
          · obtain ⟨rfl, hL⟩ := hgood
            have HNX2 := Lib.hid (HNX.out.trans (if_pos ⟨rfl, by rw [List.length_map]; exact hL⟩))
            have d20 : ((L.length : Int) == 20) = false := by rw [beq_eq_false_iff_ne]; omega
            go_wp2_with (first | ((with_reducible refine store_term (o := ⟨none, .store _ _ _, _, _, _, _⟩) (.tmp 8) (.tmp 31) ⟨tk, tn, tm, tb, ta⟩ (.slice AV nv cv) _ HC.out ?_ ?_ ?_ ?_ ?_ ?_); rfl; rfl; rfl; rfl; rfl) | ((with_reducible refine load_trow (o := ⟨some 43, _, _, _, _, _⟩) (.tmp 8) w2.heap.size #[.int .i64 tk, .int .i64 tn, .int .i64 tm, .int .i64 tb, .slice AV nv cv] HR3.out rfl ?_ ?_ ?_ ?_); rfl; rfl; rfl) | ((with_reducible refine load_trow (o := ⟨some 43, _, _, _, _, _⟩) (.tmp 8) w2.heap.size #[.int .i64 tk, .int .i64 tn, .int .i64 tm, .int .i64 tb, .slice AV nv cv] HR3t.out rfl ?_ ?_ ?_ ?_); rfl; rfl; rfl) | ((with_reducible refine wpList_stop (o := ⟨some 45, _, _, _, _, _⟩) ?_)))
            unfold Stop
            obtain ⟨W3, hW3⟩ : ∃ z, w2.alloc (.cells (termC ⟨tk, tn, tm, tb, ta⟩ (.slice AV nv cv)) 28) = z := ⟨_, rfl⟩
            have HR3' := HR3t.out
            have HB3' : Below w2.heap.size w2 (w2.alloc (.cells (termC ⟨tk, tn, tm, tb, ta⟩ (.slice AV nv cv)) 28)) := HB3.out
            have e3 : W3.heap.size = w2.heap.size + 1 := by rw [← hW3]; simp
            rw [hW3] at HR3' HB3' ⊢
            clear hW3
            obtain ⟨i0, hi, hz0, hz1, hz2⟩ := info_parts term_info
            have b8 : Below W3.heap.size W3 (W3.alloc (.cells #[.int .i64 tk, .int .i64 tn, .int .i64 tm, .int .i64 tb, .slice AV nv cv] 28)) := (Below.refl _ _).alloc (Nat.le_refl _) _
            have h3s : w2.heap.size ≤ W3.heap.size := HB3'.size
            have ow8 : OwnT (W3.alloc (.cells #[.int .i64 tk, .int .i64 tn, .int .i64 tm, .int .i64 tb, .slice AV nv cv] 28)) N (.slice A5 L.length c5) L := (HOW2.out.kept fun g _ h2 => HB3'.block g h2).kept fun g _ h2 => b8.block g h2
            have o88 : OwnI 3 1 (W3.alloc (.cells #[.int .i64 tk, .int .i64 tn, .int .i64 tm, .int .i64 tb, .slice AV nv cv] 28)) N (.slice AV nv cv) (ta.map fun a => [a]) := ((HO2.out.below HB3').below b8).mono (by omega)
            refine wpList_append_own _ rfl (.tmp 42) (.tmp 44) 22 rfl N 28 i0 _ 5 56 Tryz.underlying22 hi hz0 hz1 hz2 rfl (by decide) (.slice A5 L.length c5) L.length (tCells L) rfl ow8.own ⟨w2.heap.size + 1, 0, none⟩ 1 1 (termC ⟨tk, tn, tm, tb, ta⟩ (.slice AV nv cv)).toList rfl rfl ?_ ?_ ?_ ?_ ?_ ?_
            · intro j u hj
              rw [addr_add, ← e3, (RowAt.new W3 28 _).cell j, ← hj]
              simp [termC]
            · intro u hu
              have := HC.out
              rw [← Array.all_toList, List.all_eq_true] at this
              exact this u hu
            · unfold maxLen; omega
            · omega
            · simp; omega
            intro v9 w9 hown9 hg9 _
            have HEND := Lib.hid (show (L ++ [((⟨tk, tn, tm, tb, ta⟩ : TermV), Value.slice AV nv cv)]).map (·.1) = L.map (·.1) ++ [⟨tk, tn, tm, tb, ta⟩] ∧ OwnT w9 N v9 (L ++ [((⟨tk, tn, tm, tb, ta⟩ : TermV), Value.slice AV nv cv)]) ∧ Below N w w9 ∧ RowAt w9 N 9 (partsC ls) from by
              refine ⟨by simp, ⟨?_, ?_⟩, ?_, ?_⟩
              · rw [tCells_app, List.length_append]
                exact hown9
              · intro p hp
                rcases List.mem_append.1 hp with h | h
                · exact acc_kept (ow8.acc p h) ow8.own hg9
                · rw [List.mem_singleton.1 h]
                  exact acc_kept o88 ow8.own hg9
              · exact ((HBW2.out.trans (HB3'.mono (by omega))).trans (b8.mono (by omega))).grown hg9 (by simp; omega) (fun j e => (World.ownsRow.lt ow8.own j e).1)
              · have hr8 : RowAt (W3.alloc (.cells #[.int .i64 tk, .int .i64 tn, .int .i64 tm, .int .i64 tb, .slice AV nv cv] 28)) N 9 (partsC ls) := (HROW2.out.below HB3' hN2).alloc _
                refine (hg9.block N hr8.lt fun e => ?_).trans hr8
                rcases ow8.own.2 with ⟨h1, _⟩ | ⟨g, cap, cur, h1, _, hh, _⟩
                · rw [h1] at e; simp [Value.ownBlock] at e
                · rw [h1] at e
                  simp [Value.ownBlock] at e
                  subst e
                  unfold RowAt at hr8
                  rw [hr8] at hh
                  simp at hh)
            clear hown9 hg9 ow8 o88 b8 hi hz0 hz1 hz2 HR3' HB3'
            go_wp2_with fail
            go_roundw
            case rel => exact ⟨k + 1, _, by go_num, by omega, Lib.hid ⟨by rw [HEND.out.1]; exact HNX2.out, by simp; omega, HEND.out.2.1, HEND.out.2.2.2, HEND.out.2.2.1⟩⟩
            case measure => simp [intOf]; omega
          · have HNX2 : Hid (P0 = ([], k + 1, false)) := Lib.hid (HNX.out.trans (if_neg (by rw [List.length_map]; exact hgood)))
            have hfin : Hid (ParseEnd w P0 (.returned (.tuple #[.slice none 0 0, .int .i64 ((k : Int) + 1), .int .i64 140])) (w2.alloc (.cells #[.int .i64 tk, .int .i64 tn, .int .i64 tm, .int .i64 tb, .slice AV nv cv] 28))) := Lib.hid (by
              rw [HNX2.out]
              exact ⟨.slice none 0 0, [], by simp [errI], rfl, OwnT.nil _ _, by rw [HNN.out]; exact HBW2.out.trans (HB3.out.mono (by omega))⟩)
            cases okk
            · clear hgood
              go_wp2_with ((with_reducible refine store_term (o := ⟨none, .store _ _ _, _, _, _, _⟩) (.tmp 8) (.tmp 31) ⟨tk, tn, tm, tb, ta⟩ (.slice AV nv cv) _ HC.out ?_ ?_ ?_ ?_ ?_ ?_); rfl; rfl; rfl; rfl; rfl)
              rw [Exit.noGoto_ret]
              go_ret3
              exact hfin.out
            · have d20 : ((L.length : Int) == 20) = true := by rw [beq_iff_eq]; simp at hgood; omega
              clear hgood
              go_wp2_with ((with_reducible refine store_term (o := ⟨none, .store _ _ _, _, _, _, _⟩) (.tmp 8) (.tmp 31) ⟨tk, tn, tm, tb, ta⟩ (.slice AV nv cv) _ HC.out ?_ ?_ ?_ ?_ ?_ ?_); rfl; rfl; rfl; rfl; rfl)
              rw [Exit.noGoto_ret]
              go_ret3
              exact hfin.out
      · obtain rfl : k = n := by omega
        have HFIN : Hid (P0 = (L.map (·.1), 0, true)) := Lib.hid (by rw [HGO.out, List.drop_eq_nil_of_le (by rw [HLN.out]; exact Nat.le_refl _)]; rfl)
        clear hrow
        go_wp2_with fail
        rw [Exit.noGoto_ret]
        go_ret3
        exact ⟨_, L, by rw [HFIN.out]; rfl, by rw [HFIN.out], by rw [HNN.out]; exact HOW.out, by rw [HNN.out]; exact HBW.out⟩
end Go.Proofs.YtfiabonacpepnaaGreatDoor
