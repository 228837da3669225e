/- The reference's Same (printed by gen_rsame.py). -/
import Derived.Test.YtfiabonacpepnaaGreatDoorCtV
namespace Go.Proofs.YtfiabonacpepnaaGreatDoor
open Go Go.RowKit Go.Lib Go.Shelf Go.Maps

theorem yields_at {P : Program} {ops : Array Oper} {S : World → Prop} {o : Oper} {a : Act} (ty : TypeId) (x : Operand) (b off : Nat) (cs : Array Value) (d : TypeDesc) (hc : ∀ w, S w → ∀ j v, cs[j]? = some v → w.cell? ⟨b, off + j, none⟩ = some v)
    (hu : P.underlying ty = some d) (hw : Region.wanted o (yielded ops a.tmps) = true) (ho : o.op = .load ty x) (hx : a.eval x = .pointer (some ⟨b, off, none⟩)) (hd : (match d with | .struct _ | .array _ _ => true | _ => false) = true) (hi : (P.info? ty).map (·.size) = some cs.size) :
    YieldsIf P ops S o (.agg cs) a := by
  refine Or.inl ⟨hw, fun w h => ?_⟩
  simp only [execOp, ho, hx, Instr.loadAt, Instr.sureAddr, Sem.run_bind, Sem.run_pure, Result.andThen_ok, run_loadVar_at w b off ty cs d (hc w h) hu hd hi]
set_option maxRecDepth 100000 in
set_option maxHeartbeats 8000000 in
theorem rSame_any (la lb : List TermV) (va vb : Value) (w : World) (hn : la.length ≤ 1000000) (hm : lb.length ≤ 1000000) (ha : TermsAt w va la) (hb : TermsAt w vb lb) (hoa : ∀ t ∈ la, t.acc.length ≤ 1000000) (hob : ∀ t ∈ lb, t.acc.length ≤ 1000000) :
    Calls Tryz.prog 19 #[va, vb] w fun e w' => e = .returned (.bool (sameTs la lb)) ∧ Below w.heap.size w w' := by
  have HA := Lib.hid ha
  have HB := Lib.hid hb
  have HOA := Lib.hid (And.intro hoa hob)
  obtain ⟨A, ca, rfl⟩ := ha.slice
  obtain ⟨B, cb, rfl⟩ := hb.slice
  obtain ⟨n, hna⟩ : ∃ z, la.length = z := ⟨_, rfl⟩
  obtain ⟨m, hmb⟩ : ∃ z, lb.length = z := ⟨_, rfl⟩
  rw [hna] at HA hn ⊢
  rw [hmb] at HB hm ⊢
  have HN := Lib.hid (And.intro hna hmb)
  clear ha hb hna hmb hoa hob
  by_cases hnm : n = m
  · subst hnm
    have hd : ((n : Int) != (n : Int)) = false := by simp
    go_enter Tryz.func19, Tryz.ntmps19
    go_wp2_with fail
    go_loopw [5] (fun v5 wr => ∃ j : Nat, v5 = .int .i64 j ∧ j ≤ n ∧ Hid (sameTs la lb = sameTs (la.drop j) (lb.drop j) ∧ Below w.heap.size w wr)) (fun v5 _ => n - (RowKit.intOf v5).toNat)
    case atStart => exact ⟨0, rfl, by omega, Lib.hid ⟨by simp, Below.refl _ _⟩⟩
    case round =>
      obtain ⟨j, rfl, hj, HS⟩ := hrel
      by_cases hj2 : j < n
      · have hjd : decide (j < n) = true := by simpa using hj2
        obtain ⟨f, hf⟩ : ∃ x, la[j]? = some x := ⟨_, List.getElem?_eq_getElem (by have := HN.out.1; omega)⟩
        obtain ⟨g, hg⟩ : ∃ x, lb[j]? = some x := ⟨_, List.getElem?_eq_getElem (by have := HN.out.2; omega)⟩
        obtain ⟨b, o, v1, rfl, hlt, hi1, hcell⟩ := (HA.out.below HS.out.2).get hf
        obtain ⟨b2, o2, v2, rfl, hlt2, hi2, hcell2⟩ := (HB.out.below HS.out.2).get hg
        have HFG := Lib.hid (And.intro hf hg)
        have HC1 : Hid (∀ W, Below wr.heap.size wr W → ∀ (j2 : Nat) x, (termC f v1)[j2]? = some x → W.cell? ⟨b, o + j * 5 + j2, none⟩ = some x) := Lib.hid (fun W hW j2 x hx => (hW.cell (p := ⟨b, o + j * 5 + j2, none⟩) hlt).trans (hcell j2 x hx))
        have HC2 : Hid (∀ W, Below wr.heap.size wr W → ∀ (j2 : Nat) x, (termC g v2)[j2]? = some x → W.cell? ⟨b2, o2 + j * 5 + j2, none⟩ = some x) := Lib.hid (fun W hW j2 x hx => (hW.cell (p := ⟨b2, o2 + j * 5 + j2, none⟩) hlt2).trans (hcell2 j2 x hx))
        have HSM := Lib.hid (fun W (hW : Below wr.heap.size wr W) => rsameTerm_any f g v1 v2 W (hi1.below hW) (hi2.below hW) (by have := HOA.out.1 f (List.mem_of_getElem? hf); omega) (by have := HOA.out.2 g (List.mem_of_getElem? hg); omega))
        clear hf hg hcell hcell2 hlt hlt2 hi1 hi2
        obtain ⟨S, hS⟩ : ∃ S, sameT f g = S := ⟨_, rfl⟩
        rw [hS] at HSM
        have HSS := Lib.hid hS
        clear hS
        go_wp2_with fail
        refine wp_region_held_drew (S := fun W => Below wr.heap.size wr W) (by kernel_rfl) (Below.refl _ _).drew (fun hHeld => ?_)
        refine tk 0 (v := ?_) rfl (by kernel_rfl) (fun _ _ _ h => h) (by rfl) (by assumption) ?_ ?_
        rotate_left
        · intro w hSw
          go_simp
          all_goals with_reducible rfl
        simp only [Act.put, sa, s0, s1]
        refine tk 1 (v := ?_) rfl (by kernel_rfl) (fun _ _ _ h => h) (by rfl) (by assumption) ?_ ?_
        rotate_left
        · intro w hSw
          go_simp
          all_goals with_reducible rfl
        simp only [Act.put, sa, s0, s1]
        refine tk 2 (v := ?_) rfl (by kernel_rfl) (fun _ _ _ h => h) (by rfl) (by assumption) ?_ ?_
        rotate_left
        · intro w hSw
          go_simp
          all_goals with_reducible rfl
        simp only [Act.put, sa, s0, s1]
        refine wpAnyH_take (i := 3) (oi := ⟨_, _, _, _, _, _⟩) rfl (by kernel_rfl) (by kernel_rfl) (by kernel_rfl) (fun _ _ _ h => h) (yields_at 28 (.tmp 20) b (o + j * 5) (termC f v1) _ (fun W hW => HC1.out W hW) Tryz.underlying28 (by rfl) rfl rfl rfl term_size) (by assumption) ?_
        simp only [Act.put, sa, s0, s1]
        refine tk 4 (v := ?_) rfl (by kernel_rfl) (fun _ _ _ h => h) (by rfl) (by assumption) ?_ ?_
        rotate_left
        · intro w hSw
          go_simp
          all_goals with_reducible rfl
        simp only [Act.put, sa, s0, s1]
        refine tk 5 (v := ?_) rfl (by kernel_rfl) (fun _ _ _ h => h) (by rfl) (by assumption) ?_ ?_
        rotate_left
        · intro w hSw
          go_simp
          all_goals with_reducible rfl
        simp only [Act.put, sa, s0, s1]
        refine tk 6 (v := ?_) rfl (by kernel_rfl) (fun _ _ _ h => h) (by rfl) (by assumption) ?_ ?_
        rotate_left
        · intro w hSw
          go_simp
          all_goals with_reducible rfl
        simp only [Act.put, sa, s0, s1]
        refine wpAnyH_take (i := 7) (oi := ⟨_, _, _, _, _, _⟩) rfl (by kernel_rfl) (by kernel_rfl) (by kernel_rfl) (fun _ _ _ h => h) (yields_at 28 (.tmp 24) b2 (o2 + j * 5) (termC g v2) _ (fun W hW => HC2.out W hW) Tryz.underlying28 (by rfl) rfl rfl rfl term_size) (by assumption) ?_
        simp only [Act.put, sa, s0, s1]
        refine rd 8 (by kernel_rfl) rfl fun K hK => ?_
        go_simp
        go_at_call 40
        refine (HSM.out _ (Below.refl _ _).drew).mono ?_
        rintro e W5 ⟨rfl, hb5⟩
        have HB5 : Hid (Below wr.heap.size wr W5) := Lib.hid ((Below.refl wr.heap.size wr).drew.trans hb5)
        clear hb5
        go_wp2_with fail
        refine hK.out _ _ HB5.out (fun hHeld => ?_)
        clear hK K
        try simp only [Act.put, sa, s0, s1]
        refine tk 9 (v := ?_) rfl (by kernel_rfl) (fun _ _ _ h => h) (by rfl) (by assumption) ?_ ?_
        rotate_left
        · intro w hSw
          go_simp
          all_goals with_reducible rfl
        simp only [Act.put, sa, s0, s1]
        refine wpAnyH_done (by kernel_rfl) ?_ _
        have HBW : Hid (Below w.heap.size w W5) := Lib.hid (HS.out.2.trans (HB5.out.mono HS.out.2.size))
        cases S
        · go_wp2_with fail
          go_ret
          refine ⟨?_, HBW.out⟩
          rw [HS.out.1, tdrop_at HFG.out.1, tdrop_at HFG.out.2]
          simp [sameTs, HSS.out]
        · go_wp2_with fail
          go_roundw
          case rel =>
            refine ⟨j + 1, by go_num, by omega, Lib.hid ⟨?_, HBW.out⟩⟩
            rw [HS.out.1, tdrop_at HFG.out.1, tdrop_at HFG.out.2]
            simp [sameTs, HSS.out]
          case measure => simp [RowKit.intOf]; omega
      · obtain rfl : j = n := by omega
        have hjd : decide (j < j) = false := by simp
        go_wp2_with fail
        go_ret
        refine ⟨?_, HS.out.2⟩
        rw [HS.out.1, List.drop_eq_nil_of_le (by have := HN.out.1; omega), List.drop_eq_nil_of_le (by have := HN.out.2; omega)]
        rfl
  · have hd : ((n : Int) != (m : Int)) = true := by simp; omega
    have hd2 : decide (n = m) = false := by simpa using hnm
    have HNM := Lib.hid hnm
    clear hnm
    go_enter Tryz.func19, Tryz.ntmps19
    go_wp2_with fail
    go_ret
    exact ⟨by rw [sameTs_ne (by rw [HN.out.1, HN.out.2]; exact HNM.out)]; rfl, Below.refl _ _⟩
end Go.Proofs.YtfiabonacpepnaaGreatDoor
