/- ContractRoundTrip: the walk. -/
import Derived.Test.YtfiabonacpepnaaGreatDoorCtU
import Derived.Laws.DeepStrings4
namespace Go.Proofs.YtfiabonacpepnaaGreatDoor
open Go Go.RowKit Go.Lib Go.Shelf Go.Maps

theorem idrop_at {l : List Int} {j : Nat} {f : Int} (h : l[j]? = some f) : l.drop j = f :: l.drop (j + 1) := by
  have hj := (List.getElem?_eq_some_iff.1 h).1
  rw [List.drop_eq_getElem_cons hj, (List.getElem?_eq_some_iff.1 h).2]
set_option maxRecDepth 100000 in
set_option maxHeartbeats 4000000 in
theorem rsameTerm_any (t u : TermV) (va vb : Value) (w : World) (hv : IntsL w va t.acc) (hu : IntsL w vb u.acc) (hl : t.acc.length ≤ 1000000) (hm : u.acc.length ≤ 1000000) :
    Calls Tryz.prog 40 #[.agg (termC t va), .agg (termC u vb)] w fun e w' => e = .returned (.bool (sameT t u)) ∧ Below w.heap.size w w' := by
  obtain ⟨k, n, m, a, l⟩ := t
  obtain ⟨k', n', m', a', l'⟩ := u
  dsimp only at hv hu hl hm
  have HV := Lib.hid hv
  have HU := Lib.hid hu
  obtain ⟨A, c, rfl⟩ := hv.slice
  obtain ⟨B, d, rfl⟩ := hu.slice
  have HST : Hid (sameT ⟨k, n, m, a, l⟩ ⟨k', n', m', a', l'⟩ = (k == k' && (n == n' && (m == m' && (a == a' && l == l'))))) := Lib.hid rfl
  have HB := Lib.hid (show Below w.heap.size w ((w.alloc (.cells (termC ⟨k, n, m, a, l⟩ (.slice A l.length c)) 28)).alloc (.cells (termC ⟨k', n', m', a', l'⟩ (.slice B l'.length d)) 28)) from ((Below.refl _ _).alloc (Nat.le_refl _) _).alloc (by simp) _)
  have hr1 := (RowAt.new w 28 (termC ⟨k, n, m, a, l⟩ (.slice A l.length c))).alloc (.cells (termC ⟨k', n', m', a', l'⟩ (.slice B l'.length d)) 28)
  have hr2 := RowAt.new (w.alloc (.cells (termC ⟨k, n, m, a, l⟩ (.slice A l.length c)) 28)) 28 (termC ⟨k', n', m', a', l'⟩ (.slice B l'.length d))
  rw [World.size_alloc] at hr2
  obtain ⟨S, hS⟩ : ∃ S, sameT ⟨k, n, m, a, l⟩ ⟨k', n', m', a', l'⟩ = S := ⟨_, rfl⟩
  rw [hS] at HST ⊢
  obtain ⟨c1, h1⟩ : ∃ q, (k == k') = q := ⟨_, rfl⟩
  obtain ⟨c2, h2⟩ : ∃ q, (n == n') = q := ⟨_, rfl⟩
  obtain ⟨c3, h3⟩ : ∃ q, (m == m') = q := ⟨_, rfl⟩
  obtain ⟨c4, h4⟩ : ∃ q, (a == a') = q := ⟨_, rfl⟩
  have g1 : (k != k') = !c1 := by rw [← h1]; rfl
  have g2 : (n != n') = !c2 := by rw [← h2]; rfl
  have g3 : (m != m') = !c3 := by rw [← h3]; rfl
  have g4 : (a != a') = !c4 := by rw [← h4]; rfl
  rw [h1, h2, h3, h4] at HST
  obtain ⟨nl, hnl⟩ : ∃ z, l.length = z := ⟨_, rfl⟩
  obtain ⟨nl', hnl'⟩ : ∃ z, l'.length = z := ⟨_, rfl⟩
  rw [hnl] at HB hr1 hr2 hl HV ⊢
  rw [hnl'] at HB hr1 hr2 hm HU ⊢
  have HN := Lib.hid (And.intro hnl hnl')
  have HR := Lib.hid (And.intro hr1 hr2)
  clear hv hu hS hnl hnl' h1 h2 h3 h4 hr1 hr2
  unfold termC at HB HR ⊢
  dsimp only at HB HR ⊢
  by_cases hall : c1 = true ∧ c2 = true ∧ c3 = true ∧ c4 = true ∧ nl = nl'
  rotate_left
  · have HS0 : Hid (S = false) := Lib.hid (by
      rw [HST.out]
      cases c1 <;> cases c2 <;> cases c3 <;> cases c4 <;> simp at hall ⊢
      intro e
      exact hall (by rw [← HN.out.1, ← HN.out.2, e]))
    cases c1 with
    | false =>
      clear hall
      go_enter Tryz.func40, Tryz.ntmps40
      go_wp2_with fail
      go_ret
      exact ⟨by rw [HS0.out]; rfl, HB.out⟩
    | true =>
      cases c2 with
      | false =>
        clear hall
        go_enter Tryz.func40, Tryz.ntmps40
        go_wp2_with fail
        go_ret
        exact ⟨by rw [HS0.out]; rfl, HB.out⟩
      | true =>
        cases c3 with
        | false =>
          clear hall
          go_enter Tryz.func40, Tryz.ntmps40
          go_wp2_with fail
          go_ret
          exact ⟨by rw [HS0.out]; rfl, HB.out⟩
        | true =>
          cases c4 with
          | false =>
            clear hall
            go_enter Tryz.func40, Tryz.ntmps40
            go_wp2_with fail
            go_ret
            exact ⟨by rw [HS0.out]; rfl, HB.out⟩
          | true =>
            have g5 : ((nl : Int) != (nl' : Int)) = true := by simp at hall ⊢; omega
            have g6 : decide (nl = nl') = false := by simp at hall ⊢; omega
            have g7 : (nl != nl') = true := by simp at hall ⊢; omega
            clear hall
            go_enter Tryz.func40, Tryz.ntmps40
            go_wp2_with fail
            go_ret
            exact ⟨by rw [HS0.out]; rfl, HB.out⟩
  · obtain ⟨rfl, rfl, rfl, rfl, rfl⟩ := hall
    have HS1 : Hid (S = (l == l')) := Lib.hid (by rw [HST.out]; simp)
    have g5 : ((nl : Int) != (nl : Int)) = false := by simp
    go_enter Tryz.func40, Tryz.ntmps40
    go_wp2_with fail
    go_loopw [5] (fun iv wr => ∃ j : Nat, iv = .int .i64 j ∧ j ≤ nl ∧ Hid ((l == l') = (l.drop j == l'.drop j) ∧ Below (w.heap.size + 2) ((w.alloc (.cells #[.int .i64 k, .int .i64 n, .int .i64 m, .int .i64 a, .slice A nl c] 28)).alloc (.cells #[.int .i64 k', .int .i64 n', .int .i64 m', .int .i64 a', .slice B nl d] 28)) wr)) (fun iv _ => nl - (intOf iv).toNat)
    case atStart => exact ⟨0, rfl, Nat.zero_le _, Lib.hid ⟨by simp, Below.refl _ _⟩⟩
    case round =>
      obtain ⟨j, rfl, hj, HS⟩ := hrel
      have hbw := HS.out.2
      have HBW := Lib.hid (HB.out.trans (hbw.mono (by omega)))
      have cA : wr.cell? ⟨w.heap.size, 4, none⟩ = some (.slice A nl c) := (hbw.cell (p := ⟨w.heap.size, 4, none⟩) (by show w.heap.size < w.heap.size + 2; omega)).trans (HR.out.1.cell 4)
      have cB : wr.cell? ⟨w.heap.size + 1, 4, none⟩ = some (.slice B nl d) := (hbw.cell (p := ⟨w.heap.size + 1, 4, none⟩) (by show w.heap.size + 1 < w.heap.size + 2; omega)).trans (HR.out.2.cell 4)
      have HBE := Lib.hid hbw
      clear hbw
      by_cases hj2 : j < nl
      · obtain ⟨x, hx⟩ : ∃ x, l[j]? = some x := ⟨_, List.getElem?_eq_getElem (by have := HN.out.1; omega)⟩
        obtain ⟨y, hy⟩ : ∃ x, l'[j]? = some x := ⟨_, List.getElem?_eq_getElem (by have := HN.out.2; omega)⟩
        obtain ⟨b1, o1, rfl, cx⟩ : ∃ b o, A = some ⟨b, o, none⟩ ∧ wr.cell? ⟨b, o + j, none⟩ = some (.int .i64 x) := by
          rcases HV.out with ⟨h, _⟩ | ⟨b, o, c', he, hlt, hc⟩
          · rw [h] at hx; simp at hx
          · simp only [Value.slice.injEq] at he
            exact ⟨b, o, he.1, (HBW.out.cell (p := ⟨b, o + j, none⟩) hlt).trans (hc j x hx)⟩
        obtain ⟨b2, o2, rfl, cy⟩ : ∃ b o, B = some ⟨b, o, none⟩ ∧ wr.cell? ⟨b, o + j, none⟩ = some (.int .i64 y) := by
          rcases HU.out with ⟨h, _⟩ | ⟨b, o, c', he, hlt, hc⟩
          · rw [h] at hy; simp at hy
          · simp only [Value.slice.injEq] at he
            exact ⟨b, o, he.1, (HBW.out.cell (p := ⟨b, o + j, none⟩) hlt).trans (hc j y hy)⟩
        have HD : Hid ((l.drop j == l'.drop j) = (x == y && l.drop (j + 1) == l'.drop (j + 1))) := Lib.hid (by rw [idrop_at hx, idrop_at hy]; rfl)
        obtain ⟨q, hq⟩ : ∃ q, (x == y) = q := ⟨_, rfl⟩
        rw [hq] at HD
        have gq : (x != y) = !q := by rw [← hq]; rfl
        clear hx hy hq
        cases q
        · go_wp2_with fail
          go_quiet (fail)
          go_wp2_with fail
          go_ret
          exact ⟨by rw [HS1.out, HS.out.1, HD.out]; rfl, below_drewN HBW.out _⟩
        · go_wp2_with fail
          go_quiet (fail)
          go_wp2_with fail
          go_roundw
          case rel => exact ⟨j + 1, by go_num, by omega, Lib.hid ⟨by rw [HS.out.1, HD.out]; rfl, below_drewN HBE.out _⟩⟩
          case measure => simp [intOf]; omega
      · obtain rfl : j = nl := by omega
        go_wp2_with fail
        go_ret
        refine ⟨?_, HBW.out⟩
        rw [HS1.out, HS.out.1, List.drop_eq_nil_of_le (by have := HN.out.1; omega), List.drop_eq_nil_of_le (by have := HN.out.2; omega)]
        rfl
end Go.Proofs.YtfiabonacpepnaaGreatDoor
namespace Go.Proofs.YtfiabonacpepnaaGreatDoor
open Go Go.RowKit Go.Lib Go.Shelf Go.Maps

theorem yields_at {P : Program} {ops : Array Oper} {S : World → Prop} {o : Oper} {a : Act} (ty : TypeId) (x : Operand) (b off : Nat) (cs : Array Value) (d : TypeDesc) (hc : ∀ w, S w → ∀ j v, cs[j]? = some v → w.cell? ⟨b, off + j, none⟩ = some v)
    (hu : P.underlying ty = some d) (hw : Region.wanted o (yielded ops a.tmps) = true) (ho : o.op = .load ty x) (hx : a.eval x = .pointer (some ⟨b, off, none⟩)) (hd : (match d with | .struct _ | .array _ _ => true | _ => false) = true) (hi : (P.info? ty).map (·.size) = some cs.size) :
    YieldsIf P ops S o (.agg cs) a := by
  refine Or.inl ⟨hw, fun w h => ?_⟩
  simp only [execOp, ho, hx, Instr.loadAt, Instr.sureAddr, Sem.run_bind, Sem.run_pure, Result.andThen_ok, run_loadVar_at w b off ty cs d (hc w h) hu hd hi]
set_option maxRecDepth 100000 in
set_option maxHeartbeats 8000000 in
theorem rSame_any (la lb : List TermV) (va vb : Value) (w : World) (hn : la.length ≤ 1000000) (hm : lb.length ≤ 1000000) (ha : TermsAt w va la) (hb : TermsAt w vb lb) (hoa : ∀ t ∈ la, t.acc.length ≤ 1000000) (hob : ∀ t ∈ lb, t.acc.length ≤ 1000000) :
    Calls Tryz.prog 19 #[va, vb] w fun e w' => e = .returned (.bool (sameTs la lb)) ∧ Below w.heap.size w w' := by
  have HA := Lib.hid ha
  have HB := Lib.hid hb
  have HOA := Lib.hid (And.intro hoa hob)
  obtain ⟨A, ca, rfl⟩ := ha.slice
  obtain ⟨B, cb, rfl⟩ := hb.slice
  obtain ⟨n, hna⟩ : ∃ z, la.length = z := ⟨_, rfl⟩
  obtain ⟨m, hmb⟩ : ∃ z, lb.length = z := ⟨_, rfl⟩
  rw [hna] at HA hn ⊢
  rw [hmb] at HB hm ⊢
  have HN := Lib.hid (And.intro hna hmb)
  clear ha hb hna hmb hoa hob
  by_cases hnm : n = m
  · subst hnm
    have hd : ((n : Int) != (n : Int)) = false := by simp
    go_enter Tryz.func19, Tryz.ntmps19
    go_wp2_with fail
    go_loopw [5] (fun v5 wr => ∃ j : Nat, v5 = .int .i64 j ∧ j ≤ n ∧ Hid (sameTs la lb = sameTs (la.drop j) (lb.drop j) ∧ Below w.heap.size w wr)) (fun v5 _ => n - (RowKit.intOf v5).toNat)
    case atStart => exact ⟨0, rfl, by omega, Lib.hid ⟨by simp, Below.refl _ _⟩⟩
    case round =>
      obtain ⟨j, rfl, hj, HS⟩ := hrel
      by_cases hj2 : j < n
      · have hjd : decide (j < n) = true := by simpa using hj2
        obtain ⟨f, hf⟩ : ∃ x, la[j]? = some x := ⟨_, List.getElem?_eq_getElem (by have := HN.out.1; omega)⟩
        obtain ⟨g, hg⟩ : ∃ x, lb[j]? = some x := ⟨_, List.getElem?_eq_getElem (by have := HN.out.2; omega)⟩
        obtain ⟨b, o, v1, rfl, hlt, hi1, hcell⟩ := (HA.out.below HS.out.2).get hf
        obtain ⟨b2, o2, v2, rfl, hlt2, hi2, hcell2⟩ := (HB.out.below HS.out.2).get hg
        have HFG := Lib.hid (And.intro hf hg)
        have HC1 : Hid (∀ W, Below wr.heap.size wr W → ∀ (j2 : Nat) x, (termC f v1)[j2]? = some x → W.cell? ⟨b, o + j * 5 + j2, none⟩ = some x) := Lib.hid (fun W hW j2 x hx => (hW.cell (p := ⟨b, o + j * 5 + j2, none⟩) hlt).trans (hcell j2 x hx))
        have HC2 : Hid (∀ W, Below wr.heap.size wr W → ∀ (j2 : Nat) x, (termC g v2)[j2]? = some x → W.cell? ⟨b2, o2 + j * 5 + j2, none⟩ = some x) := Lib.hid (fun W hW j2 x hx => (hW.cell (p := ⟨b2, o2 + j * 5 + j2, none⟩) hlt2).trans (hcell2 j2 x hx))
        have HSM := Lib.hid (fun W (hW : Below wr.heap.size wr W) => rsameTerm_any f g v1 v2 W (hi1.below hW) (hi2.below hW) (by have := HOA.out.1 f (List.mem_of_getElem? hf); omega) (by have := HOA.out.2 g (List.mem_of_getElem? hg); omega))
        clear hf hg hcell hcell2 hlt hlt2 hi1 hi2
        obtain ⟨S, hS⟩ : ∃ S, sameT f g = S := ⟨_, rfl⟩
        rw [hS] at HSM
        have HSS := Lib.hid hS
        clear hS
        go_wp2_with fail
        refine wp_region_held_drew (S := fun W => Below wr.heap.size wr W) (by kernel_rfl) (Below.refl _ _).drew (fun hHeld => ?_)
        refine tk 0 (v := ?_) rfl (by kernel_rfl) (fun _ _ _ h => h) (by rfl) (by assumption) ?_ ?_
        rotate_left
        · intro w hSw
          go_simp
          all_goals with_reducible rfl
        simp only [Act.put, sa, s0, s1]
        refine tk 1 (v := ?_) rfl (by kernel_rfl) (fun _ _ _ h => h) (by rfl) (by assumption) ?_ ?_
        rotate_left
        · intro w hSw
          go_simp
          all_goals with_reducible rfl
        simp only [Act.put, sa, s0, s1]
        refine tk 2 (v := ?_) rfl (by kernel_rfl) (fun _ _ _ h => h) (by rfl) (by assumption) ?_ ?_
        rotate_left
        · intro w hSw
          go_simp
          all_goals with_reducible rfl
        simp only [Act.put, sa, s0, s1]
        refine wpAnyH_take (i := 3) (oi := ⟨_, _, _, _, _, _⟩) rfl (by kernel_rfl) (by kernel_rfl) (by kernel_rfl) (fun _ _ _ h => h) (yields_at 28 (.tmp 20) b (o + j * 5) (termC f v1) _ (fun W hW => HC1.out W hW) Tryz.underlying28 (by rfl) rfl rfl rfl term_size) (by assumption) ?_
        simp only [Act.put, sa, s0, s1]
        refine tk 4 (v := ?_) rfl (by kernel_rfl) (fun _ _ _ h => h) (by rfl) (by assumption) ?_ ?_
        rotate_left
        · intro w hSw
          go_simp
          all_goals with_reducible rfl
        simp only [Act.put, sa, s0, s1]
        refine tk 5 (v := ?_) rfl (by kernel_rfl) (fun _ _ _ h => h) (by rfl) (by assumption) ?_ ?_
        rotate_left
        · intro w hSw
          go_simp
          all_goals with_reducible rfl
        simp only [Act.put, sa, s0, s1]
        refine tk 6 (v := ?_) rfl (by kernel_rfl) (fun _ _ _ h => h) (by rfl) (by assumption) ?_ ?_
        rotate_left
        · intro w hSw
          go_simp
          all_goals with_reducible rfl
        simp only [Act.put, sa, s0, s1]
        refine wpAnyH_take (i := 7) (oi := ⟨_, _, _, _, _, _⟩) rfl (by kernel_rfl) (by kernel_rfl) (by kernel_rfl) (fun _ _ _ h => h) (yields_at 28 (.tmp 24) b2 (o2 + j * 5) (termC g v2) _ (fun W hW => HC2.out W hW) Tryz.underlying28 (by rfl) rfl rfl rfl term_size) (by assumption) ?_
        simp only [Act.put, sa, s0, s1]
        refine rd 8 (by kernel_rfl) rfl fun K hK => ?_
        go_simp
        go_at_call 40
        refine (HSM.out _ (Below.refl _ _).drew).mono ?_
        rintro e W5 ⟨rfl, hb5⟩
        have HB5 : Hid (Below wr.heap.size wr W5) := Lib.hid ((Below.refl wr.heap.size wr).drew.trans hb5)
        clear hb5
        go_wp2_with fail
        refine hK.out _ _ HB5.out (fun hHeld => ?_)
        clear hK K
        try simp only [Act.put, sa, s0, s1]
        refine tk 9 (v := ?_) rfl (by kernel_rfl) (fun _ _ _ h => h) (by rfl) (by assumption) ?_ ?_
        rotate_left
        · intro w hSw
          go_simp
          all_goals with_reducible rfl
        simp only [Act.put, sa, s0, s1]
        refine wpAnyH_done (by kernel_rfl) ?_ _
        have HBW : Hid (Below w.heap.size w W5) := Lib.hid (HS.out.2.trans (HB5.out.mono HS.out.2.size))
        cases S
        · go_wp2_with fail
          go_ret
          refine ⟨?_, HBW.out⟩
          rw [HS.out.1, tdrop_at HFG.out.1, tdrop_at HFG.out.2]
          simp [sameTs, HSS.out]
        · go_wp2_with fail
          go_roundw
          case rel =>
            refine ⟨j + 1, by go_num, by omega, Lib.hid ⟨?_, HBW.out⟩⟩
            rw [HS.out.1, tdrop_at HFG.out.1, tdrop_at HFG.out.2]
            simp [sameTs, HSS.out]
          case measure => simp [RowKit.intOf]; omega
      · obtain rfl : j = n := by omega
        have hjd : decide (j < j) = false := by simp
        go_wp2_with fail
        go_ret
        refine ⟨?_, HS.out.2⟩
        rw [HS.out.1, List.drop_eq_nil_of_le (by have := HN.out.1; omega), List.drop_eq_nil_of_le (by have := HN.out.2; omega)]
        rfl
  · have hd : ((n : Int) != (m : Int)) = true := by simp; omega
    have hd2 : decide (n = m) = false := by simpa using hnm
    have HNM := Lib.hid hnm
    clear hnm
    go_enter Tryz.func19, Tryz.ntmps19
    go_wp2_with fail
    go_ret
    exact ⟨by rw [sameTs_ne (by rw [HN.out.1, HN.out.2]; exact HNM.out)]; rfl, Below.refl _ _⟩
end Go.Proofs.YtfiabonacpepnaaGreatDoor
namespace Go.Proofs.YtfiabonacpepnaaGreatDoor
open Go Go.RowKit Go.Lib Go.Shelf Go.Maps

theorem run_str_sub (t : TypeId) (ht : Tryz.prog.underlying t = some .string) (s : List UInt8) (f i : Nat) (h1 : f ≤ i) (h2 : i ≤ s.length) (w : World) :
    (Instr.slice t (.string ⟨s.toArray⟩) (some (.int .i64 (f : Int))) (some (.int .i64 (i : Int))) none).run Tryz.prog w = .ok (.string ⟨((s.take i).drop f).toArray⟩) w := by
  have hz : (⟨s.toArray⟩ : ByteArray).size = s.length := rfl
  rw [run_slice_string_if w t _ .i64 .i64 _ _ ht, if_pos ⟨by omega, by rw [hz]; omega⟩, if_pos ⟨by omega, by omega⟩]
  have e : (⟨s.toArray⟩ : ByteArray).extract (f : Int).toNat (i : Int).toNat = ⟨((s.take i).drop f).toArray⟩ := by
    rw [extract_eq, Int.toNat_natCast, Int.toNat_natCast, List.drop_take]
  rw [e]
theorem run_str_at (t : TypeId) (ht : Tryz.prog.underlying t = some .string) (s : List UInt8) (i : Nat) (c : UInt8) (h : s[i]? = some c) (w : World) :
    (Instr.index t (.string ⟨s.toArray⟩) (.int .i64 (i : Int))).run Tryz.prog w = .ok (.int .u8 (c.toNat : Int)) w := by
  have hz : (⟨s.toArray⟩ : ByteArray).size = s.length := rfl
  obtain ⟨hlt, hc⟩ := List.getElem?_eq_some_iff.1 h
  have e2 : ∀ (i j : Nat) (hi : i < (⟨s.toArray⟩ : ByteArray).size) (hj : j < s.length), i = j → (⟨s.toArray⟩ : ByteArray)[i]'hi = s[j]'hj := by
    intro i j hi hj hij
    subst hij
    rfl
  rw [run_index_string w t _ .i64 _ ht, dif_pos ⟨by omega, by rw [hz]; omega⟩, e2 _ i _ hlt (by simp), hc]
/-- where Lines stands -/
def LinesAt (s : List UInt8) (k f : Nat) (O : List (List UInt8)) : Prop :=
  (k ≤ s.length ∧ f ≤ k ∧ splitL 10 s = O ++ splitL 10 (s.drop f) ∧ (10 : UInt8) ∉ (s.take k).drop f) ∨ (k = s.length + 1 ∧ splitL 10 s = O)
theorem LinesAt.skip {s : List UInt8} {k f : Nat} {O : List (List UInt8)} {c : UInt8} (h : LinesAt s k f O) (hc : s[k]? = some c) (h10 : c ≠ 10) : LinesAt s (k + 1) f O := by
  have hk := (List.getElem?_eq_some_iff.1 hc).1
  rcases h with ⟨h1, h2, h3, h4⟩ | ⟨h1, _⟩
  · refine .inl ⟨by omega, by omega, h3, ?_⟩
    rw [List.take_add_one, hc]
    show 10 ∉ (s.take k ++ [c]).drop f
    rw [List.drop_append_of_le_length (by rw [List.length_take]; omega)]
    simp only [List.mem_append, List.mem_singleton, not_or]
    exact ⟨h4, fun e => h10 e.symm⟩
  · omega
theorem LinesAt.cut {s : List UInt8} {k f : Nat} {O : List (List UInt8)} (h : LinesAt s k f O) (hc : s[k]? = some 10) : LinesAt s (k + 1) (k + 1) (O ++ [(s.take k).drop f]) := by
  have hk := (List.getElem?_eq_some_iff.1 hc).1
  rcases h with ⟨h1, h2, h3, h4⟩ | ⟨h1, _⟩
  · refine .inl ⟨by omega, Nat.le_refl _, ?_, by simp⟩
    have e : s.drop f = (s.take k).drop f ++ 10 :: s.drop (k + 1) := by
      have e1 : s = s.take k ++ 10 :: s.drop (k + 1) := by
        have := List.take_append_drop k s
        rw [List.drop_eq_getElem_cons hk, (List.getElem?_eq_some_iff.1 hc).2] at this
        exact this.symm
      have e2 := congrArg (List.drop f) e1
      rw [List.drop_append_of_le_length (by rw [List.length_take]; omega)] at e2
      exact e2
    rw [h3, e, split_app _ _ h4]
    simp
  · omega
theorem LinesAt.last {s : List UInt8} {f : Nat} {O : List (List UInt8)} (h : LinesAt s s.length f O) : LinesAt s (s.length + 1) (s.length + 1) (O ++ [(s.take s.length).drop f]) := by
  rcases h with ⟨h1, h2, h3, h4⟩ | ⟨h1, _⟩
  · refine .inr ⟨rfl, ?_⟩
    rw [List.take_length] at h4 ⊢
    rw [h3, split_word h4]
  · omega
theorem LinesAt.bd {s : List UInt8} {k f : Nat} {O : List (List UInt8)} (h : LinesAt s k f O) (hk : k ≤ s.length) : f ≤ k ∧ O.length ≤ s.length + 1 := by
  rcases h with ⟨h1, h2, h3, h4⟩ | ⟨h1, _⟩
  · refine ⟨h2, ?_⟩
    have := (split_len 10 s).1
    rw [h3, List.length_append] at this
    omega
  · omega
set_option maxRecDepth 100000 in
set_option maxHeartbeats 8000000 in
theorem lines_any (s : List UInt8) (w : World) (hl : s.length ≤ 1000000) :
    Calls Tryz.prog 22 #[strV s] w fun e w' => ∃ v, e = .returned v ∧ OwnS w' w.heap.size v (splitL 10 s) ∧ Below w.heap.size w w' := by
  obtain ⟨n, hn⟩ : ∃ n, s.length = n := ⟨_, rfl⟩
  have HN := Lib.hid hn
  obtain ⟨N, hN⟩ : ∃ z, w.heap.size = z := ⟨_, rfl⟩
  have HNN := Lib.hid hN
  have HLS := Lib.hid (show LinesAt s 0 0 [] from .inl ⟨Nat.zero_le _, Nat.le_refl _, by simp, by simp⟩)
  rw [hn] at hl
  obtain ⟨SP, hSP⟩ : ∃ z, splitL 10 s = z := ⟨_, rfl⟩
  have HSP := Lib.hid hSP
  rw [hSP, hN]
  clear hN hSP
  unfold strV
  go_enter Tryz.func22, Tryz.ntmps22
  go_wp2_with fail
  go_loopw [3, 4, 5] (fun ov fv iv wr => ∃ (k f : Nat) (O : List (List UInt8)), iv = .int .i64 k ∧ fv = .int .i64 f ∧ k ≤ n + 1 ∧ f ≤ n + 1 ∧ Hid (LinesAt s k f O ∧ OwnS wr N ov O ∧ Below N w wr ∧ N ≤ wr.heap.size)) (fun _ _ iv _ => n + 1 - (intOf iv).toNat)
  case atStart => exact ⟨0, 0, [], rfl, rfl, Nat.zero_le _, Nat.zero_le _, Lib.hid ⟨HLS.out, World.ownsRow_nil _ _ _ _, Below.refl _ _, by rw [HNN.out]; exact Nat.le_refl _⟩⟩
  case round =>
    obtain ⟨k, f, O, rfl, rfl, hk, hf, HR⟩ := hrel
    have HL := Lib.hid HR.out.1
    have HO := Lib.hid HR.out.2.1
    have HB := Lib.hid HR.out.2.2.1
    have hNr := HR.out.2.2.2
    clear HR
    by_cases hkn : k ≤ n
    · have hb := HL.out.bd (by rw [HN.out]; exact hkn)
      have hfk := hb.1
      have hOl : O.length ≤ 1000001 := by have := hb.2; have := HN.out; omega
      clear hb
      have cutEnd : ∀ P : List UInt8, P = (s.take k).drop f → Hid (∀ w5 v5, w5.ownsRow N 9 1 v5 (O.length + 1) (O.map strV ++ [strV P]) → OwnS w5 N v5 (O ++ [(s.take k).drop f])) := fun P hP => Lib.hid (fun w5 v5 h => by
        unfold OwnS
        rw [List.length_append, List.map_append, ← hP]
        exact h)
      by_cases hkl : k = n
      · subst hkl
        have q0 : ((k : Int) == (k : Int)) = true := by simp
        have hsub := fun W => run_str_sub 9 Tryz.underlying9 s f k hfk (by rw [HN.out]; exact Nat.le_refl _) W
        have HNX : Hid (LinesAt s (k + 1) (k + 1) (O ++ [(s.take k).drop f])) := Lib.hid (by have h := HL.out; have e := HN.out; rw [← e] at h ⊢; exact h.last)
        obtain ⟨P, hP⟩ : ∃ P, (s.take k).drop f = P := ⟨_, rfl⟩
        have HCE := cutEnd P hP.symm
        rw [hP] at hsub
        clear hP cutEnd
        go_wp2_with ((with_reducible refine wpList_stop (o := ⟨some 28, _, _, _, _, _⟩) ?_))
        unfold Stop
        obtain ⟨i0, hi, hz0, hz1, hz2⟩ := info_parts string_info
        have b8 : Below wr.heap.size wr (wr.alloc (.cells #[.string ⟨P.toArray⟩] 9)) := (Below.refl _ _).alloc (Nat.le_refl _) _
        have ow8 : OwnS (wr.alloc (.cells #[.string ⟨P.toArray⟩] 9)) N u3 O := HO.out.kept fun g _ h2 => b8.block g h2
        refine wpList_append_own _ rfl (.tmp 22) (.tmp 27) 37 rfl N 9 i0 _ 1 16 Tryz.underlying37 hi hz0 hz1 hz2 rfl (by decide) u3 _ _ rfl ow8 ⟨wr.heap.size, 0, none⟩ 1 1 [.string ⟨P.toArray⟩] rfl rfl ?_ ?_ ?_ ?_ ?_ ?_
        · intro j u hj
          rw [addr_add, (RowAt.new wr 9 #[.string ⟨P.toArray⟩]).cell j, ← hj]
          simp
        · intro u hu
          simp at hu
          subst hu
          rfl
        · unfold maxLen; omega
        · omega
        · simp; omega
        intro v9 w9 hown9 hg9 _
        have HEND := Lib.hid (show LinesAt s (k + 1) (k + 1) (O ++ [(s.take k).drop f]) ∧ OwnS w9 N v9 (O ++ [(s.take k).drop f]) ∧ Below N w w9 ∧ N ≤ w9.heap.size from ⟨HNX.out, HCE.out _ _ hown9, (HB.out.trans (b8.mono hNr)).grown hg9 (by simp; omega) (fun j e => (World.ownsRow.lt ow8 j e).1), by have := hg9.size; simp at this; omega⟩)
        clear hown9 hg9 ow8 b8 hi hz0 hz1 hz2 hsub
        go_wp2_with fail
        go_roundw
        case rel => exact ⟨k + 1, k + 1, _, by go_num, by go_num, by omega, by omega, HEND⟩
        case measure => first | (simp [intOf]; done) | (simp [intOf]; omega)
      · have q0 : ((k : Int) == (n : Int)) = false := by rw [beq_eq_false_iff_ne]; omega
        have q1 : decide (k = n) = false := by simpa using hkl
        have q2 : (k == n) = false := by simpa using hkl
        obtain ⟨c, hck⟩ : ∃ c, s[k]? = some c := ⟨_, List.getElem?_eq_getElem (by rw [HN.out]; omega)⟩
        have hix := fun W => run_str_at 9 Tryz.underlying9 s k c hck W
        by_cases h10 : c = 10
        · subst h10
          have hsub := fun W => run_str_sub 9 Tryz.underlying9 s f k hfk (by rw [HN.out]; omega) W
          have HNX := Lib.hid (HL.out.cut hck)
          obtain ⟨P, hP⟩ : ∃ P, (s.take k).drop f = P := ⟨_, rfl⟩
          have HCE := cutEnd P hP.symm
          rw [hP] at hsub
          clear hP cutEnd hck
          go_wp2_with ((with_reducible refine wpList_stop (o := ⟨some 28, _, _, _, _, _⟩) ?_))
          unfold Stop
          obtain ⟨i0, hi, hz0, hz1, hz2⟩ := info_parts string_info
          have b8 : Below wr.heap.size wr (wr.alloc (.cells #[.string ⟨P.toArray⟩] 9)) := (Below.refl _ _).alloc (Nat.le_refl _) _
          have ow8 : OwnS (wr.alloc (.cells #[.string ⟨P.toArray⟩] 9)) N u3 O := HO.out.kept fun g _ h2 => b8.block g h2
          refine wpList_append_own _ rfl (.tmp 22) (.tmp 27) 37 rfl N 9 i0 _ 1 16 Tryz.underlying37 hi hz0 hz1 hz2 rfl (by decide) u3 _ _ rfl ow8 ⟨wr.heap.size, 0, none⟩ 1 1 [.string ⟨P.toArray⟩] rfl rfl ?_ ?_ ?_ ?_ ?_ ?_
          · intro j u hj
            rw [addr_add, (RowAt.new wr 9 #[.string ⟨P.toArray⟩]).cell j, ← hj]
            simp
          · intro u hu
            simp at hu
            subst hu
            rfl
          · unfold maxLen; omega
          · omega
          · simp; omega
          intro v9 w9 hown9 hg9 _
          have HEND := Lib.hid (show LinesAt s (k + 1) (k + 1) (O ++ [(s.take k).drop f]) ∧ OwnS w9 N v9 (O ++ [(s.take k).drop f]) ∧ Below N w w9 ∧ N ≤ w9.heap.size from ⟨HNX.out, HCE.out _ _ hown9, (HB.out.trans (b8.mono hNr)).grown hg9 (by simp; omega) (fun j e => (World.ownsRow.lt ow8 j e).1), by have := hg9.size; simp at this; omega⟩)
          clear hown9 hg9 ow8 b8 hi hz0 hz1 hz2 hsub hix
          go_wp2_with fail
          go_roundw
          case rel => exact ⟨k + 1, k + 1, _, by go_num, by go_num, by omega, by omega, HEND⟩
          case measure => simp [intOf]; omega
        · have n10 : ((c.toNat : Int) == 10) = false := by
            rw [beq_eq_false_iff_ne]
            intro e
            exact h10 (by rw [← ofNat_toNat c, show c.toNat = 10 by omega]; rfl)
          have HNX := Lib.hid (HL.out.skip hck h10)
          clear hck h10 cutEnd
          go_wp2_with fail
          go_roundw
          case rel => exact ⟨k + 1, f, O, by go_num, by go_num, by omega, by omega, Lib.hid ⟨HNX.out, HO.out, HB.out, hNr⟩⟩
          case measure => simp [intOf]; omega
    · obtain rfl : k = n + 1 := by omega
      have HFIN : Hid (SP = O) := Lib.hid (by
        rcases HL.out with ⟨h1, _⟩ | ⟨_, h2⟩
        · have := HN.out; omega
        · rw [← HSP.out]; exact h2)
      have q0 : decide (((n + 1 : Nat) : Int) ≤ (n : Int)) = false := by simp; omega
      have q1 : decide (n + 1 ≤ n) = false := by simp
      go_wp2_with fail
      go_ret
      exact ⟨_, rfl, by rw [HFIN.out]; exact HO.out, HB.out⟩
def pickN (c n : Int) : Int := (if c < 0 then -(c + 1) else c) % n
theorem pickN_bd (c n : Int) (hn : 1 ≤ n) : 0 ≤ pickN c n ∧ pickN c n < n := by
  unfold pickN; exact ⟨Int.emod_nonneg _ (by omega), Int.emod_lt_of_pos _ (by omega)⟩
set_option maxHeartbeats 400000 in
theorem pick_any (c n : Int) (w : World) (h1 : -9223372036854775808 ≤ c) (h2 : c ≤ 9223372036854775807) (hn : 1 ≤ n) (hn2 : n ≤ 9223372036854775807) :
    Calls Tryz.prog 24 #[.int .i64 c, .int .i64 n] w fun e w' => e = .returned (.int .i64 (pickN c n)) ∧ w = w' := by
  by_cases hc : c < 0
  · have e : pickN c n = -(c + 1).tmod n := by
      unfold pickN; rw [if_pos hc, ← Int.neg_tmod, Int.tmod_eq_emod_of_nonneg (by omega)]
    have H := Lib.hid e; clear e
    go_enter Tryz.func24, Tryz.ntmps24
    go_wp2
    go_ret
    exact ⟨by rw [H.out]; rfl, rfl⟩
  · have e : pickN c n = c % n := by unfold pickN; rw [if_neg hc]
    have H := Lib.hid e; clear e
    go_enter Tryz.func24, Tryz.ntmps24
    go_wp2
    go_ret
    exact ⟨by rw [H.out]; rfl, rfl⟩
theorem ignored_any (l : List UInt8) (w : World) (hl : l.length ≤ 1000000) :
    Calls Tryz.prog 23 #[strV l] w fun e w' => e = .returned (.bool (ignoredL l)) ∧ w = w' := by
  rcases ignored_cases l with ⟨hig, rfl | ⟨r, rfl⟩⟩ | ⟨hig, c, r, rfl, hc35⟩
  · unfold strV
    rw [hig]
    clear hig
    go_enter Tryz.func23, Tryz.ntmps23
    go_wp2
    go_ret
    exact ⟨rfl, rfl⟩
  · unfold strV
    rw [hig]
    clear hig
    go_enter Tryz.func23, Tryz.ntmps23
    go_wp2
    go_ret
    exact ⟨rfl, rfl⟩
  · unfold strV
    rw [hig]
    have hix := fun W => run_str_head 9 Tryz.underlying9 c r W
    have n35 : ((c.toNat : Int) == 35) = false := by
      rw [beq_eq_false_iff_ne]
      intro e
      exact hc35 (by rw [← ofNat_toNat c, show c.toNat = 35 by omega]; rfl)
    clear hig hc35 hl
    go_enter Tryz.func23, Tryz.ntmps23
    go_wp2
    go_ret
    exact ⟨rfl, rfl⟩
end Go.Proofs.YtfiabonacpepnaaGreatDoor
namespace Go.Proofs.YtfiabonacpepnaaGreatDoor
open Go Go.RowKit Go.Lib Go.Shelf Go.Maps

def saneL : List TermV := [⟨1, 200000, 17, 0, []⟩, ⟨1, 52500, 17, 5000000, []⟩, ⟨2, 1, 0, 0, []⟩, ⟨3, 1000000, 24, 0, []⟩, ⟨4, 0, 0, 0, []⟩, ⟨5, 0, 0, 0, [4, 5]⟩]
def saneB : List (List UInt8) := [[112, 97, 115, 115, 32, 50, 48, 37, 32, 116, 111, 32, 49, 55],
  [112, 97, 115, 115, 32, 53, 46, 50, 53, 37, 32, 116, 111, 32, 49, 55, 32, 97, 98, 111, 118, 101, 32, 53, 48, 48, 48, 48, 48, 48],
  [116, 97, 120, 32, 48, 46, 48, 48, 48, 49, 37],
  [114, 101, 115, 101, 114, 118, 101, 32, 49, 48, 48, 37, 32, 102, 111, 114, 32, 50, 52],
  [99, 97, 112, 32, 48],
  [114, 101, 99, 111, 117, 112, 32, 52, 32, 53]]
def saneT : List UInt8 := saneB.flatMap fun l => l ++ [10]
def saneH : List UInt8 := [35, 32, 116, 101, 114, 109, 115, 10, 10]
def saneBad : List UInt8 := [116, 97, 120, 32, 49, 53, 37, 10, 116, 97, 120, 32, 49, 53, 46, 48, 37]
theorem sane_lines : saneL.map lineT = saneB := by
  have h : ∀ (l : List UInt8) (t : TermV), termV l = (t, true) → lineT t = l := fun l t h => ((termV_iff l t).1 h).2
  unfold saneL saneB
  simp only [List.map_cons, List.map_nil]
  rw [h _ _ (show termV [112, 97, 115, 115, 32, 50, 48, 37, 32, 116, 111, 32, 49, 55] = (⟨1, 200000, 17, 0, []⟩, true) by kernel_rfl),
    h _ _ (show termV [112, 97, 115, 115, 32, 53, 46, 50, 53, 37, 32, 116, 111, 32, 49, 55, 32, 97, 98, 111, 118, 101, 32, 53, 48, 48, 48, 48, 48, 48] = (⟨1, 52500, 17, 5000000, []⟩, true) by kernel_rfl),
    h _ _ (show termV [116, 97, 120, 32, 48, 46, 48, 48, 48, 49, 37] = (⟨2, 1, 0, 0, []⟩, true) by kernel_rfl),
    h _ _ (show termV [114, 101, 115, 101, 114, 118, 101, 32, 49, 48, 48, 37, 32, 102, 111, 114, 32, 50, 52] = (⟨3, 1000000, 24, 0, []⟩, true) by kernel_rfl),
    h _ _ (show termV [99, 97, 112, 32, 48] = (⟨4, 0, 0, 0, []⟩, true) by kernel_rfl),
    h _ _ (show termV [114, 101, 99, 111, 117, 112, 32, 52, 32, 53] = (⟨5, 0, 0, 0, [4, 5]⟩, true) by kernel_rfl)]
theorem sane_good : goodL saneL = true := by decide
theorem sane_print : printV saneL = saneT := by
  unfold printV
  rw [if_pos sane_good]
  unfold textT saneT
  rw [← sane_lines, List.flatMap_map]
theorem sane_parse : parseV (saneH ++ saneT) = (saneL, 0, true) := by
  refine ofSplit_mk (by decide) ?_ ((good_iff _).1 sane_good).2 (by decide)
  rw [sane_lines]
  decide
theorem sane_bad : parseV saneBad = ([], 2, false) := by kernel_rfl
theorem sane_zero : printV [zeroT] = [] ∧ goodL [zeroT] = false := by
  have h : goodL [zeroT] = false := by decide
  exact ⟨by unfold printV; rw [if_neg (by rw [h]; decide)], h⟩

theorem terms_of {W : World} {b : Nat} {L : List (TermV × Value)} (h : RowAt W b 28 (tCells L).toArray) (hacc : ∀ p ∈ L, IntsL W p.2 p.1.acc) (c : Nat) : TermsAt W (.slice (some ⟨b, 0, none⟩) L.length c) (L.map (·.1)) := by
  refine .inr ⟨b, 0, c, by rw [List.length_map], h.lt, fun i t hi => ?_⟩
  rw [List.getElem?_map] at hi
  cases hl : L[i]? with
  | none => rw [hl] at hi; cases hi
  | some p =>
    rw [hl] at hi
    simp at hi
    subst hi
    refine ⟨p.2, hacc p (List.mem_of_getElem? hl), fun j x hx => ?_⟩
    rw [h.cell, List.getElem?_toArray, Nat.zero_add]
    exact tCells_get L i p hl j x hx
/-- the fixed terms, their accounts in block b -/
def saneP (b : Nat) : List (TermV × Value) := [(⟨1, 200000, 17, 0, []⟩, .slice none 0 0), (⟨1, 52500, 17, 5000000, []⟩, .slice none 0 0), (⟨2, 1, 0, 0, []⟩, .slice none 0 0), (⟨3, 1000000, 24, 0, []⟩, .slice none 0 0), (⟨4, 0, 0, 0, []⟩, .slice none 0 0), (⟨5, 0, 0, 0, [4, 5]⟩, .slice (some ⟨b, 0, none⟩) 2 2)]
theorem sane_terms {W : World} {b b2 : Nat} (h1 : RowAt W b 3 #[.int .i64 4, .int .i64 5]) (h2 : RowAt W b2 28 (tCells (saneP b)).toArray) : TermsAt W (.slice (some ⟨b2, 0, none⟩) 6 6) saneL := by
  refine terms_of h2 (fun p hp => ?_) 6
  unfold saneP at hp
  simp only [List.mem_cons, List.not_mem_nil, or_false] at hp
  rcases hp with rfl | rfl | rfl | rfl | rfl | rfl
  · exact .inl ⟨rfl, none, 0, rfl⟩
  · exact .inl ⟨rfl, none, 0, rfl⟩
  · exact .inl ⟨rfl, none, 0, rfl⟩
  · exact .inl ⟨rfl, none, 0, rfl⟩
  · exact .inl ⟨rfl, none, 0, rfl⟩
  · refine .inr ⟨b, 0, 2, rfl, h1.lt, fun i x hx => ?_⟩
    rw [h1.cell, Nat.zero_add]
    match i, hx with
    | 0, hx => simp at hx; subst hx; rfl
    | 1, hx => simp at hx; subst hx; rfl
    | i + 2, hx => simp at hx
theorem sane_accs : ∀ t ∈ saneL, t.acc.length ≤ 1000000 ∧ ∀ a ∈ t.acc, -9223372036854775808 ≤ a ∧ a ≤ 9223372036854775807 := by
  intro t ht
  unfold saneL at ht
  simp only [List.mem_cons, List.not_mem_nil, or_false] at ht
  rcases ht with rfl | rfl | rfl | rfl | rfl | rfl <;> simp
set_option maxRecDepth 100000 in
set_option maxHeartbeats 8000000 in
theorem sane_any (w : World) (hK : KAt w) : Calls Tryz.prog 12 #[] w fun e w' => e = .returned (.bool true) ∧ Below w.heap.size w w' := by
  have er1 : errI true = 0 := rfl
  have er2 : errI false = 140 := rfl
  obtain ⟨N, hN⟩ : ∃ z, w.heap.size = z := ⟨_, rfl⟩
  have h9 : 9 ≤ N := by rw [← hN]; exact hK.lt
  have e0 : (w.alloc (.cells #[.int .i64 4, .int .i64 5] 3)).heap.size = N + 1 := by rw [← hN]; simp
  have r1 := RowAt.new w 3 #[.int .i64 4, .int .i64 5]
  have r2 := RowAt.new (w.alloc (.cells #[.int .i64 4, .int .i64 5] 3)) 28 (tCells (saneP N)).toArray
  have r1b := r1.alloc (.cells (tCells (saneP N)).toArray 28)
  have b1 : Below w.heap.size w ((w.alloc (.cells #[.int .i64 4, .int .i64 5] 3)).alloc (.cells (tCells (saneP N)).toArray 28)) := ((Below.refl _ _).alloc (Nat.le_refl _) _).alloc (by simp) _
  rw [e0] at r2
  rw [hN] at r1b b1
  have hT1 := sane_terms r1b r2
  have hsz : N < ((w.alloc (.cells #[.int .i64 4, .int .i64 5] 3)).alloc (.cells (tCells (saneP N)).toArray 28)).heap.size := r1b.lt
  have HK1 := Lib.hid (hK.mono (by rw [hN]; exact b1))
  have HT1 := Lib.hid hT1
  have HB1 := Lib.hid b1
  have HL1 := Lib.hid r2
  have HS1 := Lib.hid hsz
  have HP1 := Lib.hid (print_any saneL _ _ HK1.out hT1 (by decide) sane_accs)
  rw [sane_good, sane_print] at HP1
  have HNN := Lib.hid hN
  clear r1 r2 r1b b1 hT1 hsz e0 hK
  unfold saneP tCells termC at HP1 HT1 HK1 HB1 HS1 HL1
  simp only [List.flatMap_cons, List.flatMap_nil, List.append_nil, List.cons_append, List.nil_append] at HP1 HT1 HK1 HB1 HS1 HL1
  go_enter Tryz.func12, Tryz.ntmps12
  go_wp2_with fail
  refine HP1.out.mono ?_
  rintro e w2 ⟨rfl, hb2⟩
  have HK2 := Lib.hid (HK1.out.mono hb2)
  have HT2 := Lib.hid (HT1.out.below hb2)
  have HL2 := Lib.hid (HL1.out.below hb2 HL1.out.lt)
  have HB2 := Lib.hid (HB1.out.trans (hb2.mono (Nat.le_of_lt HS1.out)))
  have hs2 : N < w2.heap.size := Nat.lt_of_lt_of_le HS1.out hb2.size
  clear hb2 HP1 HK1 HT1 HB1 HS1 HL1
  have HP2 := Lib.hid (parse_any (saneH ++ saneT) w2 HK2.out (by decide))
  rw [sane_parse] at HP2
  unfold strV
  go_wp2_with fail
  refine HP2.out.mono ?_
  rintro e w3 ⟨v4, L4, rfl, hL4, ho4, hb3⟩
  dsimp only at hL4
  have ht4 := ho4.terms
  rw [hL4] at ht4
  obtain ⟨A4, c4, rfl⟩ := ht4.slice
  have HT3 := Lib.hid (And.intro (HT2.out.below hb3) ht4)
  have HK3 := Lib.hid (HK2.out.mono hb3)
  have HB3 := Lib.hid (HB2.out.trans (hb3.mono (Nat.le_of_lt hs2)))
  have hs3 : N < w3.heap.size := Nat.lt_of_lt_of_le hs2 hb3.size
  have HL3 := Lib.hid (HL2.out.below hb3 HL2.out.lt)
  have HP3 := Lib.hid (parse_any saneBad w3 HK3.out (by decide))
  rw [sane_bad] at HP3
  clear hb3 ho4 ht4 hL4 HP2 HK2 HT2 HB2 HL2
  go_wp2_with fail
  refine HP3.out.mono ?_
  rintro e w4 ⟨v7, L7, rfl, hL7, ho7, hb4⟩
  obtain ⟨A7, n7, c7, rfl⟩ := ho7.slice3
  have HT4 := Lib.hid (And.intro (HT3.out.1.below hb4) (HT3.out.2.below hb4))
  have HK4 := Lib.hid (HK3.out.mono hb4)
  have HB4 := Lib.hid (HB3.out.trans (hb4.mono (Nat.le_of_lt hs3)))
  have hs4 : N < w4.heap.size := Nat.lt_of_lt_of_le hs3 hb4.size
  have HL4 := Lib.hid (HL3.out.below hb4 HL3.out.lt)
  have b5 : Below w4.heap.size w4 (w4.alloc (.cells #[.int .i64 0, .int .i64 0, .int .i64 0, .int .i64 0, .slice none 0 0] 28)) := (Below.refl _ _).alloc (Nat.le_refl _) _
  have HT5 := Lib.hid (And.intro (HT4.out.1.below b5) (HT4.out.2.below b5))
  have HK5 := Lib.hid (HK4.out.mono b5)
  have HB5 := Lib.hid (HB4.out.trans (b5.mono (Nat.le_of_lt hs4)))
  have HL5 := Lib.hid (HL4.out.below b5 HL4.out.lt)
  have hz5 : TermsAt (w4.alloc (.cells #[.int .i64 0, .int .i64 0, .int .i64 0, .int .i64 0, .slice none 0 0] 28)) (.slice (some ⟨w4.heap.size, 0, none⟩) 1 1) [zeroT] :=
    terms_of (L := [(zeroT, .slice none 0 0)]) (RowAt.new w4 28 #[.int .i64 0, .int .i64 0, .int .i64 0, .int .i64 0, .slice none 0 0]) (fun p hp => by simp at hp; subst hp; exact .inl ⟨rfl, none, 0, rfl⟩) 1
  have HP5 := Lib.hid (print_any [zeroT] _ _ HK5.out hz5 (by decide) (fun t ht => by simp at ht; subst ht; simp [zeroT]))
  rw [sane_zero.1, sane_zero.2] at HP5
  clear hb4 ho7 hL7 HP3 HK3 HT3 HB3 HL3 b5 hz5
  unfold strV errI at HP5
  go_wp2_with fail
  refine HP5.out.mono ?_
  rintro e w6 ⟨rfl, hb6⟩
  have HT6 := Lib.hid (And.intro (HT5.out.1.below hb6) (HT5.out.2.below hb6))
  have HK6 := Lib.hid (HK5.out.mono hb6)
  have HB6 := Lib.hid (HB5.out.trans (hb6.mono (by simp; omega)))
  have hs6 : N < w6.heap.size := by have := hb6.size; simp at this; omega
  have HL6 := Lib.hid (HL5.out.below hb6 HL5.out.lt)
  clear hb6 HP5 HK5 HT5 HB5 HL5
  have hst : (saneT == [112, 97, 115, 115, 32, 50, 48, 37, 32, 116, 111, 32, 49, 55, 10, 112, 97, 115, 115, 32, 53, 46, 50, 53, 37, 32, 116, 111, 32, 49, 55, 32, 97, 98, 111, 118, 101, 32, 53, 48, 48, 48, 48, 48, 48, 10, 116, 97, 120, 32, 48, 46, 48, 48, 48, 49, 37, 10, 114, 101, 115, 101, 114, 118, 101, 32, 49, 48, 48, 37, 32, 102, 111, 114, 32, 50, 52, 10, 99, 97, 112, 32, 48, 10, 114, 101, 99, 111, 117, 112, 32, 52, 32, 53, 10]) = true := by decide
  have HSM := Lib.hid (rSame_any saneL saneL _ _ w6 (by decide) (by decide) HT6.out.1 HT6.out.2 (fun t h => (sane_accs t h).1) (fun t h => (sane_accs t h).1))
  rw [sameTs_iff.2 rfl] at HSM
  have HLR : Hid (RowAt w6 (N + 1) 28 (tCells (saneP N)).toArray) := Lib.hid HL6.out
  go_wp2_with fail
  refine HSM.out.mono ?_
  rintro e w7 ⟨rfl, hb7⟩
  have HT7 := Lib.hid (And.intro (HT6.out.1.below hb7) (HT6.out.2.below hb7))
  have HK7 := Lib.hid (HK6.out.mono hb7)
  have HB7 := Lib.hid (HB6.out.trans (hb7.mono (Nat.le_of_lt hs6)))
  have hs7 : N < w7.heap.size := Nat.lt_of_lt_of_le hs6 hb7.size
  have HL7 := Lib.hid (HLR.out.below hb7 HLR.out.lt)
  have q0 : w7.cell? ⟨N + 1, 0, none⟩ = some (.int .i64 1) := HL7.out.cell 0
  have q1 : w7.cell? ⟨N + 1, 1, none⟩ = some (.int .i64 200000) := HL7.out.cell 1
  have q2 : w7.cell? ⟨N + 1, 2, none⟩ = some (.int .i64 17) := HL7.out.cell 2
  have q3 : w7.cell? ⟨N + 1, 3, none⟩ = some (.int .i64 0) := HL7.out.cell 3
  have q4 : w7.cell? ⟨N + 1, 4, none⟩ = some (.slice none 0 0) := HL7.out.cell 4
  have HV1 : Hid (Calls Tryz.prog 14 #[.agg #[.int .i64 1, .int .i64 200000, .int .i64 17, .int .i64 0, .slice none 0 0]] w7 fun e w' => e = .returned (.bool true) ∧ Below w7.heap.size w7 w') := Lib.hid (validC_any ⟨1, 200000, 17, 0, []⟩ (.slice none 0 0) w7 (by decide) (.inl ⟨rfl, none, 0, rfl⟩) (by simp))
  clear hb7 HSM HT6 HK6 HB6 HL6 HLR
  go_wp2_with fail
  refine HV1.out.mono ?_
  rintro e w8 ⟨rfl, hb8⟩
  have HT8 := Lib.hid (And.intro (HT7.out.1.below hb8) (HT7.out.2.below hb8))
  have HB8 := Lib.hid (HB7.out.trans (hb8.mono (Nat.le_of_lt hs7)))
  have hs8 : N < w8.heap.size := Nat.lt_of_lt_of_le hs7 hb8.size
  have HV2 : Hid (Calls Tryz.prog 14 #[.agg #[.int .i64 2, .int .i64 0, .int .i64 0, .int .i64 0, .slice none 0 0]] w8 fun e w' => e = .returned (.bool false) ∧ Below w8.heap.size w8 w') := Lib.hid (validC_any ⟨2, 0, 0, 0, []⟩ (.slice none 0 0) w8 (by decide) (.inl ⟨rfl, none, 0, rfl⟩) (by simp))
  clear hb8 HV1 HT7 HK7 HB7 HL7 q0 q1 q2 q3 q4
  go_wp2_with fail
  refine HV2.out.mono ?_
  rintro e w9 ⟨rfl, hb9⟩
  have HT9 := Lib.hid (And.intro (HT8.out.1.below hb9) (HT8.out.2.below hb9))
  have HB9 := Lib.hid (HB8.out.trans (hb9.mono (Nat.le_of_lt hs8)))
  have hs9 : N < w9.heap.size := Nat.lt_of_lt_of_le hs8 hb9.size
  have HS9 := Lib.hid (Same_any saneL saneL _ _ w9 (by decide) (by decide) HT9.out.1 HT9.out.2 (fun t h => (sane_accs t h).1) (fun t h => (sane_accs t h).1))
  rw [sameTs_iff.2 rfl] at HS9
  clear hb9 HV2 HT8 HB8
  go_wp2_with fail
  refine HS9.out.mono ?_
  rintro e w10 ⟨rfl, hb10⟩
  have HT10 := Lib.hid (HT9.out.1.below hb10)
  have HB10 := Lib.hid (HB9.out.trans (hb10.mono (Nat.le_of_lt hs9)))
  have hs10 : N < w10.heap.size := Nat.lt_of_lt_of_le hs9 hb10.size
  have HS10 : Hid (Calls Tryz.prog 18 #[.slice (some ⟨N + 1, 0, none⟩) 6 6, .slice none 0 0] w10 fun e w' => e = .returned (.bool false) ∧ Below w10.heap.size w10 w') := Lib.hid (Same_any saneL [] _ _ w10 (by decide) (by decide) HT10.out (.inl ⟨rfl, none, 0, rfl⟩) (fun t h => (sane_accs t h).1) (by simp))
  clear hb10 HS9 HT9 HB9
  go_wp2_with fail
  refine HS10.out.mono ?_
  rintro e w11 ⟨rfl, hb11⟩
  have HB11 := Lib.hid (HB10.out.trans (hb11.mono (Nat.le_of_lt hs10)))
  clear hb11
  go_wp2_with fail
  go_ret
  exact ⟨rfl, by rw [HNN.out]; exact HB11.out⟩
end Go.Proofs.YtfiabonacpepnaaGreatDoor
namespace Go.Proofs.YtfiabonacpepnaaGreatDoor
open Go Go.RowKit Go.Lib Go.Shelf Go.Maps

/-- the numbers of a term are of 64 bits -/
def Ok64 (t : TermV) : Prop := ∀ a ∈ t.acc, -9223372036854775808 ≤ a ∧ a ≤ 9223372036854775807
theorem few_len (l : List TermV) : (fewT l).length ≤ 25 := by unfold fewT; rw [List.length_map, List.length_take]; omega
theorem few_acc {l : List TermV} (h : ∀ t ∈ l, Ok64 t) : ∀ t ∈ fewT l, t.acc.length ≤ 1000000 ∧ ∀ a ∈ t.acc, -9223372036854775808 ≤ a ∧ a ≤ 9223372036854775807 := by
  intro t ht
  unfold fewT at ht
  obtain ⟨u, hu, rfl⟩ := List.mem_map.1 ht
  have hu' := h u (List.mem_of_mem_take hu)
  unfold cutT
  dsimp only
  exact ⟨by rw [List.length_take]; omega, fun a ha => hu' a (List.mem_of_mem_take ha)⟩
theorem all_take {l : List TermV} {k : Nat} {t : TermV} (h : l[k]? = some t) : (l.take (k + 1)).all validT = ((l.take k).all validT && validT t) := by
  rw [List.take_add_one, h]
  simp
/-- a guarded load that is wanted -/
theorem load_termg {ops : Array Oper} {rest : List Oper} {o : Oper} {a : Act} {w : World} {Q : Exit → Act → World → Prop} (x : Operand) (b off : Nat) (t : TermV) (va : Value) (hc : ∀ j v, (termC t va)[j]? = some v → w.cell? ⟨b, off + j, none⟩ = some v)
    (hw : Region.wanted o (yielded ops a.tmps) = true) (ho : o.op = .load 28 x) (hx : a.eval x = .pointer (some ⟨b, off, none⟩)) (h : wpList Tryz.prog ops Q rest (a.put o.dst (.agg (termC t va))) w) : wpList Tryz.prog ops Q (o :: rest) a w := by
  refine wpList_step fun K hK => ?_
  rw [if_pos hw]
  exact wp_load_at _ x ho b off hx (termC t va) _ hc Tryz.underlying28 rfl term_size (hK _ _ h)
theorem TermsIn.below {w w' : World} {v : Value} {l : List TermV} (h : TermsIn w v l) (hb : Below w.heap.size w w') : TermsIn w' v l := by
  rcases h with h0 | ⟨b, o, c, hv, hlt, hc⟩
  · exact .inl h0
  · refine .inr ⟨b, o, c, hv, Nat.lt_of_lt_of_le hlt hb.size, fun i t ht => ?_⟩
    obtain ⟨A, ca, h1, h2, h3⟩ := hc i t ht
    exact ⟨A, ca, h1.below hb, h2, fun j x hx => (hb.cell (p := ⟨b, o + i * 5 + j, none⟩) hlt).trans (h3 j x hx)⟩
set_option maxRecDepth 100000 in
set_option maxHeartbeats 8000000 in
theorem roundTrip_yes (A : Option Addr) (n c : Nat) (l : List TermV) (w : World) (hK : KAt w) (ht : TermsIn w (.slice A n c) l) (hn : l.length = n) (hl : n ≤ 140737488351232) (hok : ∀ t ∈ l, t.acc.length ≤ 9223372036854775807) (h64 : ∀ t ∈ l, Ok64 t) :
    Calls Tryz.prog 5 #[.slice A n c] w fun e w' => e = .returned (.bool true) ∧ Below w.heap.size w w' := by
  have er1 : errI true = 0 := rfl
  have er2 : errI false = 140 := rfl
  have HF := Lib.hid (fun W (hb : Below w.heap.size w W) (h : TermsIn W (.slice A n c) l) => few_any A n c l W h hn hl hok)
  have HT := Lib.hid ht
  have HK := Lib.hid hK
  obtain ⟨F, hF⟩ : ∃ F, fewT l = F := ⟨_, rfl⟩
  have hacc := few_acc h64
  have hlen := few_len l
  rw [hF] at hacc hlen HF
  have HACC := Lib.hid hacc
  obtain ⟨m, hm⟩ : ∃ m, F.length = m := ⟨_, rfl⟩
  have HM := Lib.hid hm
  rw [hm] at hlen
  have HRT := Lib.hid (fun (h : goodL F = true) => round_trip h)
  obtain ⟨G, hG⟩ : ∃ G, goodL F = G := ⟨_, rfl⟩
  obtain ⟨PF, hPF⟩ : ∃ P, printV F = P := ⟨_, rfl⟩
  have HPR := Lib.hid (fun W v (h : KAt W) (h2 : TermsAt W v F) => print_any F v W h h2 (by rw [hm]; omega) hacc)
  rw [hG, hPF] at HPR
  rw [hG, hPF] at HRT
  have HG := Lib.hid hG
  have HGV : Hid (G = (decide (m ≤ 20) && F.all validT)) := Lib.hid (by rw [← hG, ← hm]; rfl)
  have HPL : Hid (PF.length ≤ 9223372036854775807) := Lib.hid (by
    rw [← hPF]
    unfold printV
    split
    · rename_i hg
      have := text_len ((good_iff F).1 hg).2
      have := ((good_iff F).1 hg).1
      omega
    · simp)
  have HPE : Hid (G = false → PF = []) := Lib.hid (fun h => by rw [← hPF]; unfold printV; rw [hG, h]; rfl)
  have h9 : 9 ≤ w.heap.size := hK.lt
  clear hF hG hPF hm hacc ht hK hn hl hok h64
  go_enter Tryz.func5, Tryz.ntmps5
  go_wp2_with fail
  refine (sane_any w HK.out).mono ?_
  rintro e w1 ⟨rfl, hb1⟩
  have HB1 := Lib.hid hb1
  have hs1 := hb1.size
  clear hb1
  go_wp2_with fail
  refine (HF.out w1 HB1.out (HT.out.below HB1.out)).mono ?_
  rintro e w2 ⟨v2, L2, rfl, hL2, ho2, hb2⟩
  have ht2 := ho2.terms
  rw [hL2] at ht2
  obtain ⟨A2, c2, rfl⟩ := ht2.slice
  rw [HM.out] at ht2 ⊢
  have HT2 := Lib.hid ht2
  have HB2 := Lib.hid (HB1.out.trans (hb2.mono hs1))
  have HK2 := Lib.hid (HK.out.mono HB2.out)
  have hs2 : w.heap.size ≤ w2.heap.size := HB2.out.size
  clear hb2 ho2 hL2 ht2
  go_wp2_with fail
  refine (HPR.out w2 _ HK2.out HT2.out).mono ?_
  rintro e w3 ⟨rfl, hb3⟩
  have HT3 := Lib.hid (HT2.out.below hb3)
  have HB3 := Lib.hid (HB2.out.trans (hb3.mono hs2))
  have HK3 := Lib.hid (HK.out.mono HB3.out)
  have hs3 : w.heap.size ≤ w3.heap.size := HB3.out.size
  clear hb3
  unfold strV
  obtain ⟨d20, hd20⟩ : ∃ q, decide (m ≤ 20) = q := ⟨_, rfl⟩
  have hd20i : decide ((m : Int) ≤ 20) = d20 := by rw [← hd20]; exact decide_eq_decide.2 (by omega)
  have HD20 := Lib.hid hd20
  go_wp2_with fail
  clear hd20 hd20i
  go_loopw [6, 7] (fun gv iv wr => ∃ k : Nat, iv = .int .i64 k ∧ k ≤ m ∧ gv = .bool (d20 && (F.take k).all validT) ∧ Hid (Below w.heap.size w wr ∧ TermsAt wr (.slice A2 m c2) F)) (fun _ iv _ => m - (intOf iv).toNat)
  case atStart => exact ⟨0, rfl, Nat.zero_le _, by simp, Lib.hid ⟨HB3.out, HT3.out⟩⟩
  case round =>
    obtain ⟨k, rfl, hk, rfl, HR⟩ := hrel
    have HBr := Lib.hid HR.out.1
    have HTr := Lib.hid HR.out.2
    have hsr : w.heap.size ≤ wr.heap.size := HR.out.1.size
    clear HR
    by_cases hkm : k < m
    · obtain ⟨t, htk⟩ : ∃ t, F[k]? = some t := ⟨_, List.getElem?_eq_getElem (by rw [HM.out]; exact hkm)⟩
      obtain ⟨b, o, va, rfl, hlt, hi, hcells⟩ := HTr.out.get htk
      have hat := all_take htk
      have hact := HACC.out t (List.mem_of_getElem? htk)
      have HV := Lib.hid (validC_any t va wr hact.1 hi hact.2)
      have HLD := Lib.hid hcells
      obtain ⟨q, hq⟩ : ∃ q, (d20 && (F.take k).all validT) = q := ⟨_, rfl⟩
      have HQ : Hid ((d20 && (F.take (k + 1)).all validT) = (q && validT t)) := Lib.hid (by rw [hat, ← Bool.and_assoc, hq])
      rw [hq]
      obtain ⟨vt, hvt⟩ : ∃ z, validT t = z := ⟨_, rfl⟩
      rw [hvt] at HV HQ
      clear htk hcells hat hact hi hq hvt hlt
      cases q
      · go_wp2_with fail
        go_roundw
        case rel => exact ⟨k + 1, by go_num, by omega, by rw [HQ.out]; rfl, Lib.hid ⟨HBr.out, HTr.out⟩⟩
        case measure => simp [intOf]; omega
      · go_wp2_with ((with_reducible refine load_termg (o := ⟨some 33, _, _, _, _, _⟩) (.tmp 32) b (o + k * 5) t va HLD.out ?_ ?_ ?_ ?_); rfl; rfl; rfl)
        refine HV.out.mono ?_
        rintro e w5 ⟨rfl, hb5⟩
        have HB5 := Lib.hid (HBr.out.trans (hb5.mono hsr))
        have HT5 := Lib.hid (HTr.out.below hb5)
        clear hb5
        go_wp2_with fail
        go_roundw
        case rel => exact ⟨k + 1, by go_num, by omega, by rw [HQ.out]; rfl, Lib.hid ⟨HB5.out, HT5.out⟩⟩
        case measure => simp [intOf]; omega
    · obtain rfl : k = m := by omega
      have hall : F.take k = F := List.take_of_length_le (by rw [HM.out]; exact Nat.le_refl _)
      have hgg : (d20 && (F.take k).all validT) = G := by rw [hall, HGV.out, HD20.out]
      rw [hgg]
      clear hall hgg
      cases G
      · have hpe := HPE.out rfl
        subst hpe
        go_wp2_with fail
        go_ret
        exact ⟨rfl, HBr.out⟩
      · have hrt := HRT.out rfl
        have HP := Lib.hid (parse_any PF wr (HK.out.mono HBr.out) HPL.out)
        rw [hrt] at HP
        unfold strV at HP
        clear hrt
        go_wp2_with fail
        refine HP.out.mono ?_
        rintro e w6 ⟨v6, L6, rfl, hL6, ho6, hb6⟩
        dsimp only at hL6
        have ht6 := ho6.terms
        rw [hL6] at ht6
        obtain ⟨A6, c6, rfl⟩ := ht6.slice
        have HB6 := Lib.hid (HBr.out.trans (hb6.mono hsr))
        have hs6 : w.heap.size ≤ w6.heap.size := HB6.out.size
        have HSM := Lib.hid (rSame_any F F _ _ w6 (by rw [HM.out]; omega) (by rw [HM.out]; omega) (HTr.out.below hb6) ht6 (fun t h => (HACC.out t h).1) (fun t h => (HACC.out t h).1))
        rw [sameTs_iff.2 rfl] at HSM
        clear ho6 hL6 ht6 hb6
        go_wp2_with fail
        refine HSM.out.mono ?_
        rintro e w7 ⟨rfl, hb7⟩
        have HB7 := Lib.hid (HB6.out.trans (hb7.mono hs6))
        clear hb7
        go_wp2_with fail
        go_ret
        exact ⟨rfl, HB7.out⟩
end Go.Proofs.YtfiabonacpepnaaGreatDoor
