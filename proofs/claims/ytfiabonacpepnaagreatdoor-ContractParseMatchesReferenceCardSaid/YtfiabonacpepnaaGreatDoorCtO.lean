/- term (printed by gen_term.py). -/
import Derived.Test.YtfiabonacpepnaaGreatDoorCtN
import Derived.Test.YtfiabonacpepnaaGreatDoorTmJ
namespace Go.Proofs.YtfiabonacpepnaaGreatDoor
open Go Go.RowKit Go.Lib Go.Shelf Go.Maps

theorem yields_row {P : Program} {ops : Array Oper} {S : World → Prop} {o : Oper} {a : Act} (ty : TypeId) (x : Operand) (b : Nat) (cs : Array Value) (d : TypeDesc) (hr : ∀ w, S w → RowAt w b ty cs)
    (hu : P.underlying ty = some d) (hw : Region.wanted o (yielded ops a.tmps) = true) (ho : o.op = .load ty x) (hx : a.eval x = .pointer (some ⟨b, 0, none⟩)) (hd : (match d with | .struct _ | .array _ _ => true | _ => false) = true) (hi : (P.info? ty).map (·.size) = some cs.size) :
    YieldsIf P ops S o (.agg cs) a := by
  refine Or.inl ⟨hw, fun w h => ?_⟩
  have hc : ∀ j v, cs[j]? = some v → w.cell? ⟨b, 0 + j, none⟩ = some v := fun j v hv => by rw [Nat.zero_add, (hr w h).cell]; exact hv
  simp only [execOp, ho, hx, Instr.loadAt, Instr.sureAddr, Sem.run_bind, Sem.run_pure, Result.andThen_ok, run_loadVar_at w b 0 ty cs d hc hu hd hi]
/-- what package contract's term returns -/
def TermEnd (w : World) (p : TermV × Bool) (e : Ending) (w' : World) : Prop :=
  ∃ va, e = .returned (.tuple #[.agg (termC p.1 va), .bool p.2]) ∧ OwnI 3 1 w' w.heap.size va (p.1.acc.map fun a => [a]) ∧ Below w.heap.size w w'
theorem form_any {x : List UInt8} {t : List (List UInt8)} {f : Nat} (h : formF x = some f) : ∃ p, formV x t = some p ∧ (∀ args W, (callFunc f args).run Tryz.prog W = .ok (.enter f args) W) ∧
    ∀ b W, RdAt W b ⟨t, false⟩ → KAt W → Calls Tryz.prog f #[.pointer (some ⟨b, 0, none⟩)] W (FormEnd W b p) := by
  unfold formF at h
  unfold formV
  by_cases h1 : x = kPass
  · rw [if_pos h1] at h ⊢
    cases h
    exact ⟨_, rfl, fun args W => by kernel_rfl, fun b W h1 h2 => pass_any b _ W h1 h2⟩
  rw [if_neg h1] at h ⊢
  by_cases h2 : x = kTax
  · rw [if_pos h2] at h ⊢
    cases h
    exact ⟨_, rfl, fun args W => by kernel_rfl, fun b W h1 h2 => tax_any b _ W h1 h2⟩
  rw [if_neg h2] at h ⊢
  by_cases h3 : x = kReserve
  · rw [if_pos h3] at h ⊢
    cases h
    exact ⟨_, rfl, fun args W => by kernel_rfl, fun b W h1 h2 => reserve_any b _ W h1 h2⟩
  rw [if_neg h3] at h ⊢
  by_cases h4 : x = kCap
  · rw [if_pos h4] at h ⊢
    cases h
    exact ⟨_, rfl, fun args W => by kernel_rfl, fun b W h1 h2 => cap_any b _ W h1 h2⟩
  rw [if_neg h4] at h ⊢
  by_cases h5 : x = kRecoup
  · rw [if_pos h5] at h ⊢
    cases h
    exact ⟨_, rfl, fun args W => by kernel_rfl, fun b W h1 h2 => recoup_any b t W h1 h2⟩
  · rw [if_neg h5] at h; cases h
theorem form_none {x : List UInt8} {t : List (List UInt8)} (h : formF x = none) : formV x t = none := by
  unfold formF at h
  unfold formV
  by_cases h1 : x = kPass
  · rw [if_pos h1] at h; cases h
  by_cases h2 : x = kTax
  · rw [if_neg h1, if_pos h2] at h; cases h
  by_cases h3 : x = kReserve
  · rw [if_neg h1, if_neg h2, if_pos h3] at h; cases h
  by_cases h4 : x = kCap
  · rw [if_neg h1, if_neg h2, if_neg h3, if_pos h4] at h; cases h
  by_cases h5 : x = kRecoup
  · rw [if_neg h1, if_neg h2, if_neg h3, if_neg h4, if_pos h5] at h; cases h
  rw [if_neg h1, if_neg h2, if_neg h3, if_neg h4, if_neg h5]

set_option linter.unusedSimpArgs false in
set_option maxRecDepth 100000 in
set_option maxHeartbeats 8000000 in
theorem term_any (s : List UInt8) (w : World) (hK : KAt w) (hl : s.length ≤ 3000) :
    Calls Tryz.prog 42 #[strV s] w (TermEnd w (termV s)) := by
  unfold termV
  have hsl := split_len 32 s
  have HSP := Lib.hid (split_any 32 s (w.alloc (.cells zC 28)) (hK.alloc _) hl)
  obtain ⟨x, t, hxt⟩ : ∃ x t, splitL 32 s = x :: t := by
    cases h : splitL 32 s with
    | nil => exact absurd h (splitL_ne 32 s)
    | cons x t => exact ⟨x, t, rfl⟩
  rw [hxt] at hsl HSP ⊢
  have hr := RowAt.new w 28 zC
  obtain ⟨N, hN⟩ : ∃ z, w.heap.size = z := ⟨_, rfl⟩
  have h9N : 9 ≤ N := by rw [← hN]; exact hK.lt
  have e0 : (w.alloc (.cells zC 28)).heap.size = N + 1 := by rw [← hN]; simp
  have r1 := RowAt.new (w.alloc (.cells zC 28)) 9 (partsC (x :: t))
  have b1 : Below w.heap.size w ((w.alloc (.cells zC 28)).alloc (.cells (partsC (x :: t)) 9)) := ((Below.refl _ _).alloc (Nat.le_refl _) _).alloc (by simp) _
  have r1n := hr.alloc (.cells (partsC (x :: t)) 9)
  rw [e0] at r1
  obtain ⟨W1, hW1⟩ : ∃ z, (w.alloc (.cells zC 28)).alloc (.cells (partsC (x :: t)) 9) = z := ⟨_, rfl⟩
  have e1 : W1.heap.size = N + 2 := by rw [← hW1, ← hN]; simp
  rw [hW1] at r1 b1 HSP r1n
  rw [e0] at HSP
  rw [hN] at r1n b1
  obtain ⟨L, hL⟩ : ∃ z, (x :: t).length = z := ⟨_, rfl⟩
  rw [hL] at HSP hsl
  have r2 := RowAt.new W1 109 #[.slice (some ⟨N + 1, 0, none⟩) L L, .bool false]
  have b2 := b1.alloc (by omega) (.cells #[.slice (some ⟨N + 1, 0, none⟩) L L, .bool false] 109)
  have r1b := r1.alloc (.cells #[.slice (some ⟨N + 1, 0, none⟩) L L, .bool false] 109)
  have r1c := r1n.alloc (.cells #[.slice (some ⟨N + 1, 0, none⟩) L L, .bool false] 109)
  rw [e1] at r2
  obtain ⟨W2, hW2⟩ : ∃ z, W1.alloc (.cells #[.slice (some ⟨N + 1, 0, none⟩) L L, .bool false] 109) = z := ⟨_, rfl⟩
  have e2 : W2.heap.size = N + 3 := by rw [← hW2]; simp [e1]
  rw [hW2] at r2 b2 r1b r1c
  have HR2 : Hid (RdAt W2 (N + 2) ⟨x :: t, false⟩) := Lib.hid ⟨by omega, fun y hy => by have := hsl.2 y hy; omega, by show (x :: t).length ≤ 3001; omega, some ⟨N + 1, 0, none⟩, L, by rw [hL]; exact r2, by rw [hL]; exact Nat.le_refl _, by omega, .inr ⟨N + 1, 0, rfl, by omega, fun j y hy => by rw [Nat.zero_add]; exact parts_cell r1b j y hy⟩⟩
  have HB2 := Lib.hid b2
  have HN2 := Lib.hid r1c
  have HE2 := Lib.hid e2
  have HW1 := Lib.hid hW1
  have HW2 := Lib.hid hW2
  have HNN := Lib.hid hN
  have HK2 := Lib.hid (hK.mono (by rw [hN]; exact b2))
  have HSL := Lib.hid hsl
  have HL := Lib.hid hL
  have hx3 : x.length ≤ 3000 := by have := hsl.2 x (by simp); omega
  have hend : termW (x :: t) = match formV x t with | none => (zeroT, false) | some p => (p.1, !p.2.bad && p.2.ws.isEmpty && validT p.1) := rfl
  have HT := Lib.hid hend
  obtain ⟨TV, hTV⟩ : ∃ z, termW (x :: t) = z := ⟨_, rfl⟩
  rw [hTV] at HT ⊢
  have hfm := Lib.hid (fun f (h : formF x = some f) => form_any (t := t) h)
  clear hxt hr r1 r1n b1 r2 b2 r1b r1c e2 hW1 hW2 hK hsl hL hend hTV e0
  unfold strV at HSP ⊢
  unfold zC at HSP
  go_enter Tryz.func42, Tryz.ntmps42
  go_wp2_with fail
  refine HSP.out.mono ?_
  rintro e w1 ⟨rfl, rfl⟩
  go_upto_region 2 with fail
  rw [HW2.out]
  clear e1
  go_wp2_with fail
  refine (forms_any W2).mono ?_
  rintro e w3 ⟨rfl, hf3, hb3⟩
  rw [HE2.out] at hf3 hb3 ⊢
  have HF3 := Lib.hid hf3
  have HR3 := Lib.hid (HR2.out.below hb3 (by omega))
  have HB3 := Lib.hid (HB2.out.trans (hb3.mono (by omega)))
  have HN3 := Lib.hid (HN2.out.below hb3 (by omega))
  have HK3 := Lib.hid (HK2.out.below hb3 (by omega))
  clear hf3 hb3
  go_wp2_with fail
  have HNX := Lib.hid (next_any (N + 2) ⟨x :: t, false⟩ w3 HR3.out)
  rw [next_cons] at HNX
  unfold strV at HNX
  refine HNX.out.mono ?_
  rintro e w4 ⟨rfl, h4, hg4⟩
  have HR4 := Lib.hid h4
  have HF4 := Lib.hid (HF3.out.kept (hg4.block (N + 3) (World.ownsMap.lt HF3.out) (by intro e; cases e)))
  have HB4 := Lib.hid (HB3.out.trans (below_grown hg4 (by have := HR3.out.lt; omega) |>.mono (by omega)))
  have HN4 := Lib.hid (HN3.out.grown hg4 (by omega))
  have HK4 := Lib.hid (HK3.out.grown hg4 (by omega))
  obtain ⟨v, hlook, hv⟩ := form_look HF4.out x hx3
  unfold strV at hlook
  have HV := Lib.hid hv
  clear h4 hg4 hv HNX
  cases hf : formF x with
  | none =>
    have HTT : Hid (TV = (zeroT, false)) := Lib.hid (by rw [HT.out, form_none hf])
    rw [hf] at hlook
    dsimp only [Option.isSome] at hlook
    have HEND : Hid (TermEnd w TV (.returned (.tuple #[.agg zC, .bool false])) (w4.setRow N zC)) := Lib.hid (by
      rw [HTT.out]
      refine ⟨.slice none 0 0, rfl, OwnI.nil _ _ _ _, ?_⟩
      exact ⟨HB4.out.os, HB4.out.tape, HB4.out.output, by rw [setRow_size]; exact HB4.out.size, fun k hk => (setRow_far (by have := HNN.out; omega)).trans (HB4.out.block k (by have := HNN.out; omega))⟩)
    have HZ : Hid (zC.all (·.oneCell') = true) := Lib.hid (by kernel_rfl)
    unfold zC at HEND HZ
    clear hf
    go_wp2_with ((with_reducible refine store_trow (o := ⟨none, .store _ _ _, _, _, _, _⟩) (.tmp 2) (.tmp 21) N #[.int .i64 0, .int .i64 0, .int .i64 0, .int .i64 0, .slice none 0 0] _ HN4.out rfl rfl HZ.out ?_ ?_ ?_ ?_ ?_); rfl; rfl; rfl; rfl)
    refine bodyPost_ret (results_cell_tmp rfl _ _ N _ _ _ _ rfl (setRow_at HN4.out) Tryz.underlying28 rfl term_size) rfl ?_
    exact HEND.out
  | some f =>
    obtain ⟨pr, hfv, hcf, hcall⟩ := hfm.out f hf
    obtain ⟨p, r5⟩ := pr
    have HTT := Lib.hid (show TV = (p, !r5.bad && r5.ws.isEmpty && validT p) by rw [HT.out, hfv])
    obtain rfl := HV.out f hf
    rw [hf] at hlook
    dsimp only [Option.isSome] at hlook
    have HCALL := Lib.hid (hcall (N + 2) w4 HR4.out HK4.out)
    have HBD := Lib.hid (form_bd hfv)
    clear hf hfv hcall
    go_wp2_with fail
    refine HCALL.out.mono ?_
    rintro e w5 ⟨va, rfl, ho5, h5, hg5⟩
    dsimp only at ho5 h5
    obtain ⟨B4, hB4⟩ : ∃ z, w4.heap.size = z := ⟨_, rfl⟩
    have hNB4 : N < B4 := by rw [← hB4]; exact HN4.out.lt
    rw [hB4] at ho5
    have HN5 := Lib.hid (HN4.out.grown hg5 (by omega))
    have HW5 := Lib.hid (HB4.out.trans (below_grown hg5 (by have := HR4.out.lt; omega) |>.mono (by omega)))
    have h5s : N < w5.heap.size := HN5.out.lt
    have HI5 := Lib.hid (ints_of_rows ho5.rows)
    have HO5 := Lib.hid ho5
    have HR5 := Lib.hid h5
    have hONE : (termC p va).all (·.oneCell') = true := termC_one p HI5.out
    have HONE := Lib.hid hONE
    clear ho5 h5 hg5 hlook hONE hB4
    have r6 := RowAt.new w5 28 (termC p va)
    have b6 : Below w5.heap.size w5 (w5.alloc (.cells (termC p va) 28)) := (Below.refl _ _).alloc (Nat.le_refl _) _
    obtain ⟨W6, hW6⟩ : ∃ z, w5.alloc (.cells (termC p va) 28) = z := ⟨_, rfl⟩
    rw [hW6] at r6 b6
    have HM6 := Lib.hid r6
    have HI6 : Hid (IntsL W6.drew va p.acc) := Lib.hid ((HI5.out.below b6).below (Below.refl _ _).drew)
    have HO6 : Hid (OwnI 3 1 W6 B4 va (p.acc.map fun a => [a])) := Lib.hid (HO5.out.below b6)
    have HR6 := Lib.hid (HR5.out.below b6 HR5.out.lt)
    have HN6 := Lib.hid (HN5.out.below b6 HN5.out.lt)
    have HW6 : Hid (Below N w W6) := Lib.hid (HW5.out.trans (b6.mono (by omega)))
    have hW6e := Lib.hid hW6
    obtain ⟨ws5, bad⟩ := r5
    obtain ⟨A, c, hrw, _⟩ := HR6.out.row
    dsimp only at hrw HTT
    obtain ⟨n, hn⟩ : ∃ n, ws5.length = n := ⟨_, rfl⟩
    rw [hn] at hrw
    have HRW := Lib.hid hrw
    have hbM : N + 2 < w5.heap.size := HR5.out.lt
    have HVAL : Hid (∀ W, IntsL W va p.acc → Calls Tryz.prog 14 #[.agg (termC p va)] W fun e w' => e = .returned (.bool (validT p)) ∧ Below W.heap.size W w') := Lib.hid (fun W hW => validC_any p va W (by have := HBD.out.1; have := HL.out; have h2 := HSL.out.1; simp at this; omega) hW (fun a ha => by have := HBD.out.2 a ha; omega))
    have HEN : Hid (∀ q, TV = (p, q) → ∀ W, OwnI 3 1 W B4 va (p.acc.map fun a => [a]) → RowAt W N 28 zC → Below N w W → TermEnd w TV (.returned (.tuple #[.agg (termC p va), .bool q])) (W.setRow N (termC p va))) := Lib.hid (fun q hq W ho hrN hbW => by
      rw [hq]
      refine ⟨va, rfl, ?_, ?_⟩
      · rw [HNN.out]
        exact (ho.kept fun g hg => setRow_far (ho.ne_row (by decide) hrN g hg)).mono (by omega)
      · rw [HNN.out]
        exact ⟨hbW.os, hbW.tape, hbW.output, by rw [setRow_size]; exact hbW.size, fun k hk => (setRow_far (by omega)).trans (hbW.block k hk)⟩)
    clear r6 b6 hrw hW6
    go_upto_region 6 with ((with_reducible refine store_term (o := ⟨none, .store _ _ _, _, _, _, _⟩) (.tmp 7) (.tmp 24) p va _ HONE.out ?_ ?_ ?_ ?_ ?_ ?_); rfl; rfl; rfl; rfl; rfl)
    rw [hW6e.out]
    by_cases hbad : bad = true
    · subst hbad
      have HM6' := HM6
      have HB6 := HRW
      have HEND := Lib.hid (HEN.out false (by rw [HTT.out]; rfl))
      refine wp_region_held_drew (S := fun W' => RowAt W' (w5.heap.size) 28 (termC p va) ∧ RowAt W' (N + 2) 109 #[.slice A n c, .bool true]) (by kernel_rfl) ⟨HM6.out.drew, HB6.out.drew⟩ (fun hHeld => ?_)
      refine wpAnyH_take (i := 0) (oi := ⟨_, _, _, _, _, _⟩) rfl (by kernel_rfl) (by kernel_rfl) (by kernel_rfl) (fun _ _ _ h => h) (yields_row 28 (.tmp 7) (w5.heap.size) (termC p va) _ (fun w h => h.1) Tryz.underlying28 (by rfl) rfl rfl rfl term_size) (by assumption) ?_
      simp only [Act.put, sa, s0, s1]
      refine tk 1 (v := ?_) rfl (by kernel_rfl) (fun _ _ _ h => h) (by rfl) (by assumption) ?_ ?_
      rotate_left
      · intro w hSw
        go_simp
        all_goals with_reducible rfl
      simp only [Act.put, sa, s0, s1]
      refine tk 2 (v := ?_) rfl (by kernel_rfl) (fun _ _ _ h => h) (by rfl) (by assumption) ?_ ?_
      rotate_left
      · intro w hSw
        go_simp
        all_goals with_reducible rfl
      simp only [Act.put, sa, s0, s1]
      refine tk 3 (v := ?_) rfl (by kernel_rfl) (fun _ _ _ h => h) (by rfl) (by assumption) ?_ ?_
      rotate_left
      · intro w hSw
        go_simp
        all_goals with_reducible rfl
      simp only [Act.put, sa, s0, s1]
      refine tk 4 (v := ?_) rfl (by kernel_rfl) (fun _ _ _ h => h) (by rfl) (by assumption) ?_ ?_
      rotate_left
      · intro w hSw
        have hc := hSw.2.cell 1
        simp only [sg, g1, g0] at hc
        go_simp
        all_goals with_reducible rfl
      simp only [Act.put, sa, s0, s1]
      refine tk 5 (v := ?_) rfl (by kernel_rfl) (fun _ _ _ h => h) (by rfl) (by assumption) ?_ ?_
      rotate_left
      · intro w hSw
        go_simp
        all_goals with_reducible rfl
      simp only [Act.put, sa, s0, s1]
      refine tk 6 (v := ?_) rfl (by kernel_rfl) (fun _ _ _ h => h) (by rfl) (by assumption) ?_ ?_
      rotate_left
      · intro w hSw
        go_simp
        all_goals with_reducible rfl
      simp only [Act.put, sa, s0, s1]
      refine tu 7 rfl (by kernel_rfl) (fun _ _ _ h => h) (by rfl) (by assumption) ?_
      simp only [Act.put, sa, s0, s1]
      refine tu 8 rfl (by kernel_rfl) (fun _ _ _ h => h) (by rfl) (by assumption) ?_
      simp only [Act.put, sa, s0, s1]
      refine tu 9 rfl (by kernel_rfl) (fun _ _ _ h => h) (by rfl) (by assumption) ?_
      simp only [Act.put, sa, s0, s1]
      refine tu 10 rfl (by kernel_rfl) (fun _ _ _ h => h) (by rfl) (by assumption) ?_
      simp only [Act.put, sa, s0, s1]
      refine tu 11 rfl (by kernel_rfl) (fun _ _ _ h => h) (by rfl) (by assumption) ?_
      simp only [Act.put, sa, s0, s1]
      refine tu 12 rfl (by kernel_rfl) (fun _ _ _ h => h) (by rfl) (by assumption) ?_
      simp only [Act.put, sa, s0, s1]
      refine tk 13 (v := ?_) rfl (by kernel_rfl) (fun _ _ _ h => h) (by rfl) (by assumption) ?_ ?_
      rotate_left
      · intro w hSw
        go_simp
        all_goals with_reducible rfl
      simp only [Act.put, sa, s0, s1]
      refine tk 14 (v := ?_) rfl (by kernel_rfl) (fun _ _ _ h => h) (by rfl) (by assumption) ?_ ?_
      rotate_left
      · intro w hSw
        go_simp
        all_goals with_reducible rfl
      simp only [Act.put, sa, s0, s1]
      refine tu 15 rfl (by kernel_rfl) (fun _ _ _ h => h) (by rfl) (by assumption) ?_
      simp only [Act.put, sa, s0, s1]
      refine tu 16 rfl (by kernel_rfl) (fun _ _ _ h => h) (by rfl) (by assumption) ?_
      simp only [Act.put, sa, s0, s1]
      have HN6d := Lib.hid HN6.out.drew
      have HO6d : Hid (OwnI 3 1 W6.drew B4 va (p.acc.map fun a => [a])) := Lib.hid (HO6.out.kept fun _ _ => rfl)
      have HW6d : Hid (Below N w W6.drew) := Lib.hid HW6.out.drew
      have HM6d := Lib.hid HM6.out.drew
      have HB6d := Lib.hid HB6.out.drew
      refine tk 17 (v := ?_) rfl (by kernel_rfl) (fun _ _ _ h => h) (by rfl) (by assumption) ?_ ?_
      rotate_left
      · intro w hSw
        go_simp
        all_goals with_reducible rfl
      simp only [Act.put, sa, s0, s1]
      refine rd 18 (by kernel_rfl) rfl fun K hK => ?_
      rw [if_pos (by rfl)]
      refine wp_store_row _ _ _ rfl N (termC p va) rfl rfl _ zC HN6d.out term_size rfl HONE.out ?_
      refine hK.out _ _ ⟨(setRow_far (by omega)).trans HM6d.out, (setRow_far (by omega)).trans HB6d.out⟩ (fun hHeld => ?_)
      clear hK K
      try simp only [Act.put, sa, s0, s1]
      refine tk 19 (v := ?_) rfl (by kernel_rfl) (fun _ _ _ h => h) (by rfl) (by assumption) ?_ ?_
      rotate_left
      · intro w hSw
        go_simp
        all_goals with_reducible rfl
      simp only [Act.put, sa, s0, s1]
      refine wpAnyH_done (by kernel_rfl) ?_ _
      go_wp2_with fail
      refine bodyPost_ret (results_cell_tmp rfl _ _ N _ _ _ _ rfl (setRow_at HN6d.out) Tryz.underlying28 rfl term_size) rfl ?_
      exact HEND.out _ HO6d.out HN6d.out HW6d.out
    · obtain rfl : bad = false := by simpa using hbad
      clear hbad
      by_cases hn0 : n = 0
      · subst hn0
        have HB6 := HRW
        have HEND := Lib.hid (HEN.out (validT p) (by rw [HTT.out, List.length_eq_zero_iff.1 hn]; rfl))
        obtain ⟨q, hq⟩ : ∃ q, validT p = q := ⟨_, rfl⟩
        rw [hq] at HEND HVAL
        clear hn hq
        refine wp_region_held_drew (S := fun W' => RowAt W' (w5.heap.size) 28 (termC p va) ∧ RowAt W' (N + 2) 109 #[.slice A 0 c, .bool false]) (by kernel_rfl) ⟨HM6.out.drew, HB6.out.drew⟩ (fun hHeld => ?_)
        refine wpAnyH_take (i := 0) (oi := ⟨_, _, _, _, _, _⟩) rfl (by kernel_rfl) (by kernel_rfl) (by kernel_rfl) (fun _ _ _ h => h) (yields_row 28 (.tmp 7) (w5.heap.size) (termC p va) _ (fun w h => h.1) Tryz.underlying28 (by rfl) rfl rfl rfl term_size) (by assumption) ?_
        simp only [Act.put, sa, s0, s1]
        refine tk 1 (v := ?_) rfl (by kernel_rfl) (fun _ _ _ h => h) (by rfl) (by assumption) ?_ ?_
        rotate_left
        · intro w hSw
          go_simp
          all_goals with_reducible rfl
        simp only [Act.put, sa, s0, s1]
        refine tk 2 (v := ?_) rfl (by kernel_rfl) (fun _ _ _ h => h) (by rfl) (by assumption) ?_ ?_
        rotate_left
        · intro w hSw
          go_simp
          all_goals with_reducible rfl
        simp only [Act.put, sa, s0, s1]
        refine tk 3 (v := ?_) rfl (by kernel_rfl) (fun _ _ _ h => h) (by rfl) (by assumption) ?_ ?_
        rotate_left
        · intro w hSw
          go_simp
          all_goals with_reducible rfl
        simp only [Act.put, sa, s0, s1]
        refine tk 4 (v := ?_) rfl (by kernel_rfl) (fun _ _ _ h => h) (by rfl) (by assumption) ?_ ?_
        rotate_left
        · intro w hSw
          have hc := hSw.2.cell 1
          simp only [sg, g1, g0] at hc
          go_simp
          all_goals with_reducible rfl
        simp only [Act.put, sa, s0, s1]
        refine tk 5 (v := ?_) rfl (by kernel_rfl) (fun _ _ _ h => h) (by rfl) (by assumption) ?_ ?_
        rotate_left
        · intro w hSw
          go_simp
          all_goals with_reducible rfl
        simp only [Act.put, sa, s0, s1]
        refine tk 6 (v := ?_) rfl (by kernel_rfl) (fun _ _ _ h => h) (by rfl) (by assumption) ?_ ?_
        rotate_left
        · intro w hSw
          go_simp
          all_goals with_reducible rfl
        simp only [Act.put, sa, s0, s1]
        refine tk 7 (v := ?_) rfl (by kernel_rfl) (fun _ _ _ h => h) (by rfl) (by assumption) ?_ ?_
        rotate_left
        · intro w hSw
          go_simp
          all_goals with_reducible rfl
        simp only [Act.put, sa, s0, s1]
        refine tk 8 (v := ?_) rfl (by kernel_rfl) (fun _ _ _ h => h) (by rfl) (by assumption) ?_ ?_
        rotate_left
        · intro w hSw
          go_simp
          all_goals with_reducible rfl
        simp only [Act.put, sa, s0, s1]
        refine tk 9 (v := ?_) rfl (by kernel_rfl) (fun _ _ _ h => h) (by rfl) (by assumption) ?_ ?_
        rotate_left
        · intro w hSw
          go_simp
          all_goals with_reducible rfl
        simp only [Act.put, sa, s0, s1]
        refine tk 10 (v := ?_) rfl (by kernel_rfl) (fun _ _ _ h => h) (by rfl) (by assumption) ?_ ?_
        rotate_left
        · intro w hSw
          have hc := hSw.2.cell 0
          simp only [sg, g1, g0] at hc
          go_simp
          all_goals with_reducible rfl
        simp only [Act.put, sa, s0, s1]
        refine tk 11 (v := ?_) rfl (by kernel_rfl) (fun _ _ _ h => h) (by rfl) (by assumption) ?_ ?_
        rotate_left
        · intro w hSw
          go_simp
          all_goals with_reducible rfl
        simp only [Act.put, sa, s0, s1]
        refine tk 12 (v := ?_) rfl (by kernel_rfl) (fun _ _ _ h => h) (by rfl) (by assumption) ?_ ?_
        rotate_left
        · intro w hSw
          go_simp
          all_goals with_reducible rfl
        simp only [Act.put, sa, s0, s1]
        refine tk 13 (v := ?_) rfl (by kernel_rfl) (fun _ _ _ h => h) (by rfl) (by assumption) ?_ ?_
        rotate_left
        · intro w hSw
          go_simp
          all_goals with_reducible rfl
        simp only [Act.put, sa, s0, s1]
        refine tk 14 (v := ?_) rfl (by kernel_rfl) (fun _ _ _ h => h) (by rfl) (by assumption) ?_ ?_
        rotate_left
        · intro w hSw
          go_simp
          all_goals with_reducible rfl
        simp only [Act.put, sa, s0, s1]
        refine wpAnyH_take (i := 15) (oi := ⟨_, _, _, _, _, _⟩) rfl (by kernel_rfl) (by kernel_rfl) (by kernel_rfl) (fun _ _ _ h => h) (yields_row 28 (.tmp 7) (w5.heap.size) (termC p va) _ (fun w h => h.1) Tryz.underlying28 (by rfl) rfl rfl rfl term_size) (by assumption) ?_
        simp only [Act.put, sa, s0, s1]
        refine rd 16 (by kernel_rfl) rfl fun K hK => ?_
        go_simp
        go_at_call 14
        refine (HVAL.out W6.drew HI6.out).mono ?_
        rintro e w7 ⟨rfl, hb7⟩
        have HM7 := Lib.hid (HM6.out.drew.below hb7 HM6.out.lt)
        have HN7 := Lib.hid (HN6.out.drew.below hb7 HN6.out.lt)
        have HB7 := Lib.hid (HB6.out.drew.below hb7 HB6.out.lt)
        have HO7 := Lib.hid (HO6.out.kept fun g hg => hb7.block g (HO6.out.lt g hg).2)
        have HW7 := Lib.hid (HW6.out.drew.trans (hb7.mono (by show N ≤ W6.heap.size; have := HN6.out.lt; omega)))
        clear hb7
        go_wp2_with fail
        refine hK.out _ _ ⟨HM7.out, HB7.out⟩ (fun hHeld => ?_)
        clear hK K
        try simp only [Act.put, sa, s0, s1]
        refine tk 17 (v := ?_) rfl (by kernel_rfl) (fun _ _ _ h => h) (by rfl) (by assumption) ?_ ?_
        rotate_left
        · intro w hSw
          go_simp
          all_goals with_reducible rfl
        simp only [Act.put, sa, s0, s1]
        refine rd 18 (by kernel_rfl) rfl fun K hK => ?_
        rw [if_pos (by rfl)]
        refine wp_store_row _ _ _ rfl N (termC p va) rfl rfl _ zC HN7.out term_size rfl HONE.out ?_
        refine hK.out _ _ ⟨(setRow_far (by omega)).trans HM7.out, (setRow_far (by omega)).trans HB7.out⟩ (fun hHeld => ?_)
        clear hK K
        try simp only [Act.put, sa, s0, s1]
        refine tk 19 (v := ?_) rfl (by kernel_rfl) (fun _ _ _ h => h) (by rfl) (by assumption) ?_ ?_
        rotate_left
        · intro w hSw
          go_simp
          all_goals with_reducible rfl
        simp only [Act.put, sa, s0, s1]
        refine wpAnyH_done (by kernel_rfl) ?_ _
        go_wp2_with fail
        refine bodyPost_ret (results_cell_tmp rfl _ _ N _ _ _ _ rfl (setRow_at HN7.out) Tryz.underlying28 rfl term_size) rfl ?_
        exact HEND.out _ HO7.out HN7.out HW7.out
      · have HB6 := HRW
        have HEND := Lib.hid (HEN.out false (by
          rw [HTT.out]
          have : ws5.isEmpty = false := by rw [List.isEmpty_eq_false_iff]; intro e; rw [e] at hn; exact hn0 hn.symm
          rw [this]; rfl))
        have d0 : (((n : Nat) : Int) == 0) = false := by rw [beq_eq_false_iff_ne]; omega
        clear hn hn0
        refine wp_region_held_drew (S := fun W' => RowAt W' (w5.heap.size) 28 (termC p va) ∧ RowAt W' (N + 2) 109 #[.slice A n c, .bool false]) (by kernel_rfl) ⟨HM6.out.drew, HB6.out.drew⟩ (fun hHeld => ?_)
        refine wpAnyH_take (i := 0) (oi := ⟨_, _, _, _, _, _⟩) rfl (by kernel_rfl) (by kernel_rfl) (by kernel_rfl) (fun _ _ _ h => h) (yields_row 28 (.tmp 7) (w5.heap.size) (termC p va) _ (fun w h => h.1) Tryz.underlying28 (by rfl) rfl rfl rfl term_size) (by assumption) ?_
        simp only [Act.put, sa, s0, s1]
        refine tk 1 (v := ?_) rfl (by kernel_rfl) (fun _ _ _ h => h) (by rfl) (by assumption) ?_ ?_
        rotate_left
        · intro w hSw
          go_simp
          all_goals with_reducible rfl
        simp only [Act.put, sa, s0, s1]
        refine tk 2 (v := ?_) rfl (by kernel_rfl) (fun _ _ _ h => h) (by rfl) (by assumption) ?_ ?_
        rotate_left
        · intro w hSw
          go_simp
          all_goals with_reducible rfl
        simp only [Act.put, sa, s0, s1]
        refine tk 3 (v := ?_) rfl (by kernel_rfl) (fun _ _ _ h => h) (by rfl) (by assumption) ?_ ?_
        rotate_left
        · intro w hSw
          go_simp
          all_goals with_reducible rfl
        simp only [Act.put, sa, s0, s1]
        refine tk 4 (v := ?_) rfl (by kernel_rfl) (fun _ _ _ h => h) (by rfl) (by assumption) ?_ ?_
        rotate_left
        · intro w hSw
          have hc := hSw.2.cell 1
          simp only [sg, g1, g0] at hc
          go_simp
          all_goals with_reducible rfl
        simp only [Act.put, sa, s0, s1]
        refine tk 5 (v := ?_) rfl (by kernel_rfl) (fun _ _ _ h => h) (by rfl) (by assumption) ?_ ?_
        rotate_left
        · intro w hSw
          go_simp
          all_goals with_reducible rfl
        simp only [Act.put, sa, s0, s1]
        refine tk 6 (v := ?_) rfl (by kernel_rfl) (fun _ _ _ h => h) (by rfl) (by assumption) ?_ ?_
        rotate_left
        · intro w hSw
          go_simp
          all_goals with_reducible rfl
        simp only [Act.put, sa, s0, s1]
        refine tk 7 (v := ?_) rfl (by kernel_rfl) (fun _ _ _ h => h) (by rfl) (by assumption) ?_ ?_
        rotate_left
        · intro w hSw
          go_simp
          all_goals with_reducible rfl
        simp only [Act.put, sa, s0, s1]
        refine tk 8 (v := ?_) rfl (by kernel_rfl) (fun _ _ _ h => h) (by rfl) (by assumption) ?_ ?_
        rotate_left
        · intro w hSw
          go_simp
          all_goals with_reducible rfl
        simp only [Act.put, sa, s0, s1]
        refine tk 9 (v := ?_) rfl (by kernel_rfl) (fun _ _ _ h => h) (by rfl) (by assumption) ?_ ?_
        rotate_left
        · intro w hSw
          go_simp
          all_goals with_reducible rfl
        simp only [Act.put, sa, s0, s1]
        refine tk 10 (v := ?_) rfl (by kernel_rfl) (fun _ _ _ h => h) (by rfl) (by assumption) ?_ ?_
        rotate_left
        · intro w hSw
          have hc := hSw.2.cell 0
          simp only [sg, g1, g0] at hc
          go_simp
          all_goals with_reducible rfl
        simp only [Act.put, sa, s0, s1]
        refine tk 11 (v := ?_) rfl (by kernel_rfl) (fun _ _ _ h => h) (by rfl) (by assumption) ?_ ?_
        rotate_left
        · intro w hSw
          go_simp
          all_goals with_reducible rfl
        simp only [Act.put, sa, s0, s1]
        refine tk 12 (v := ?_) rfl (by kernel_rfl) (fun _ _ _ h => h) (by rfl) (by assumption) ?_ ?_
        rotate_left
        · intro w hSw
          go_simp
          all_goals with_reducible rfl
        simp only [Act.put, sa, s0, s1]
        refine tk 13 (v := ?_) rfl (by kernel_rfl) (fun _ _ _ h => h) (by rfl) (by assumption) ?_ ?_
        rotate_left
        · intro w hSw
          go_simp
          all_goals with_reducible rfl
        simp only [Act.put, sa, s0, s1]
        refine tk 14 (v := ?_) rfl (by kernel_rfl) (fun _ _ _ h => h) (by rfl) (by assumption) ?_ ?_
        rotate_left
        · intro w hSw
          go_simp
          all_goals with_reducible rfl
        simp only [Act.put, sa, s0, s1]
        refine tu 15 rfl (by kernel_rfl) (fun _ _ _ h => h) (by rfl) (by assumption) ?_
        simp only [Act.put, sa, s0, s1]
        refine tu 16 rfl (by kernel_rfl) (fun _ _ _ h => h) (by rfl) (by assumption) ?_
        simp only [Act.put, sa, s0, s1]
        have HN6d := Lib.hid HN6.out.drew
        have HO6d : Hid (OwnI 3 1 W6.drew B4 va (p.acc.map fun a => [a])) := Lib.hid (HO6.out.kept fun _ _ => rfl)
        have HW6d : Hid (Below N w W6.drew) := Lib.hid HW6.out.drew
        have HM6d := Lib.hid HM6.out.drew
        have HB6d := Lib.hid HB6.out.drew
        refine tk 17 (v := ?_) rfl (by kernel_rfl) (fun _ _ _ h => h) (by rfl) (by assumption) ?_ ?_
        rotate_left
        · intro w hSw
          go_simp
          all_goals with_reducible rfl
        simp only [Act.put, sa, s0, s1]
        refine rd 18 (by kernel_rfl) rfl fun K hK => ?_
        rw [if_pos (by rfl)]
        refine wp_store_row _ _ _ rfl N (termC p va) rfl rfl _ zC HN6d.out term_size rfl HONE.out ?_
        refine hK.out _ _ ⟨(setRow_far (by omega)).trans HM6d.out, (setRow_far (by omega)).trans HB6d.out⟩ (fun hHeld => ?_)
        clear hK K
        try simp only [Act.put, sa, s0, s1]
        refine tk 19 (v := ?_) rfl (by kernel_rfl) (fun _ _ _ h => h) (by rfl) (by assumption) ?_ ?_
        rotate_left
        · intro w hSw
          go_simp
          all_goals with_reducible rfl
        simp only [Act.put, sa, s0, s1]
        refine wpAnyH_done (by kernel_rfl) ?_ _
        go_wp2_with fail
        refine bodyPost_ret (results_cell_tmp rfl _ _ N _ _ _ _ rfl (setRow_at HN6d.out) Tryz.underlying28 rfl term_size) rfl ?_
        exact HEND.out _ HO6d.out HN6d.out HW6d.out
end Go.Proofs.YtfiabonacpepnaaGreatDoor
