/- Itoa, percent. -/
import Derived.Test.YtfiabonacpepnaaGreatDoorCtN
import Derived.Test.YtfiabonacpepnaaGreatDoorTmJ
import Derived.Test.YtfiabonacpepnaaGreatDoorCtD
import Derived.WalkMore
import Derived.Test.YtfiabonacpepnaaGreatDoorCtShelf
import Derived.Lib.AppendIntMem
namespace Go.Proofs.YtfiabonacpepnaaGreatDoor
open Go Go.RowKit Go.Lib Go.Shelf Go.Maps

theorem yields_row {P : Program} {ops : Array Oper} {S : World → Prop} {o : Oper} {a : Act} (ty : TypeId) (x : Operand) (b : Nat) (cs : Array Value) (d : TypeDesc) (hr : ∀ w, S w → RowAt w b ty cs)
    (hu : P.underlying ty = some d) (hw : Region.wanted o (yielded ops a.tmps) = true) (ho : o.op = .load ty x) (hx : a.eval x = .pointer (some ⟨b, 0, none⟩)) (hd : (match d with | .struct _ | .array _ _ => true | _ => false) = true) (hi : (P.info? ty).map (·.size) = some cs.size) :
    YieldsIf P ops S o (.agg cs) a := by
  refine Or.inl ⟨hw, fun w h => ?_⟩
  have hc : ∀ j v, cs[j]? = some v → w.cell? ⟨b, 0 + j, none⟩ = some v := fun j v hv => by rw [Nat.zero_add, (hr w h).cell]; exact hv
  simp only [execOp, ho, hx, Instr.loadAt, Instr.sureAddr, Sem.run_bind, Sem.run_pure, Result.andThen_ok, run_loadVar_at w b 0 ty cs d hc hu hd hi]
/-- what package contract's term returns -/
def TermEnd (w : World) (p : TermV × Bool) (e : Ending) (w' : World) : Prop :=
  ∃ va, e = .returned (.tuple #[.agg (termC p.1 va), .bool p.2]) ∧ OwnI 3 1 w' w.heap.size va (p.1.acc.map fun a => [a]) ∧ Below w.heap.size w w'
theorem form_any {x : List UInt8} {t : List (List UInt8)} {f : Nat} (h : formF x = some f) : ∃ p, formV x t = some p ∧ (∀ args W, (callFunc f args).run Tryz.prog W = .ok (.enter f args) W) ∧
    ∀ b W, RdAt W b ⟨t, false⟩ → KAt W → Calls Tryz.prog f #[.pointer (some ⟨b, 0, none⟩)] W (FormEnd W b p) := by
  unfold formF at h
  unfold formV
  by_cases h1 : x = kPass
  · rw [if_pos h1] at h ⊢
    cases h
    exact ⟨_, rfl, fun args W => by kernel_rfl, fun b W h1 h2 => pass_any b _ W h1 h2⟩
  rw [if_neg h1] at h ⊢
  by_cases h2 : x = kTax
  · rw [if_pos h2] at h ⊢
    cases h
    exact ⟨_, rfl, fun args W => by kernel_rfl, fun b W h1 h2 => tax_any b _ W h1 h2⟩
  rw [if_neg h2] at h ⊢
  by_cases h3 : x = kReserve
  · rw [if_pos h3] at h ⊢
    cases h
    exact ⟨_, rfl, fun args W => by kernel_rfl, fun b W h1 h2 => reserve_any b _ W h1 h2⟩
  rw [if_neg h3] at h ⊢
  by_cases h4 : x = kCap
  · rw [if_pos h4] at h ⊢
    cases h
    exact ⟨_, rfl, fun args W => by kernel_rfl, fun b W h1 h2 => cap_any b _ W h1 h2⟩
  rw [if_neg h4] at h ⊢
  by_cases h5 : x = kRecoup
  · rw [if_pos h5] at h ⊢
    cases h
    exact ⟨_, rfl, fun args W => by kernel_rfl, fun b W h1 h2 => recoup_any b t W h1 h2⟩
  · rw [if_neg h5] at h; cases h
theorem form_none {x : List UInt8} {t : List (List UInt8)} (h : formF x = none) : formV x t = none := by
  unfold formF at h
  unfold formV
  by_cases h1 : x = kPass
  · rw [if_pos h1] at h; cases h
  by_cases h2 : x = kTax
  · rw [if_neg h1, if_pos h2] at h; cases h
  by_cases h3 : x = kReserve
  · rw [if_neg h1, if_neg h2, if_pos h3] at h; cases h
  by_cases h4 : x = kCap
  · rw [if_neg h1, if_neg h2, if_neg h3, if_pos h4] at h; cases h
  by_cases h5 : x = kRecoup
  · rw [if_neg h1, if_neg h2, if_neg h3, if_neg h4, if_pos h5] at h; cases h
  rw [if_neg h1, if_neg h2, if_neg h3, if_neg h4, if_neg h5]

set_option linter.unusedSimpArgs false in
set_option maxRecDepth 100000 in
set_option maxHeartbeats 8000000 in
theorem term_any (s : List UInt8) (w : World) (hK : KAt w) (hl : s.length ≤ 3000) :
    Calls Tryz.prog 42 #[strV s] w (TermEnd w (termV s)) := by
  unfold termV
  have hsl := split_len 32 s
  have HSP := Lib.hid (split_any 32 s (w.alloc (.cells zC 28)) (hK.alloc _) hl)
  obtain ⟨x, t, hxt⟩ : ∃ x t, splitL 32 s = x :: t := by
    cases h : splitL 32 s with
    | nil => exact absurd h (splitL_ne 32 s)
    | cons x t => exact ⟨x, t, rfl⟩
  rw [hxt] at hsl HSP ⊢
  have hr := RowAt.new w 28 zC
  obtain ⟨N, hN⟩ : ∃ z, w.heap.size = z := ⟨_, rfl⟩
  have h9N : 9 ≤ N := by rw [← hN]; exact hK.lt
  have e0 : (w.alloc (.cells zC 28)).heap.size = N + 1 := by rw [← hN]; simp
  have r1 := RowAt.new (w.alloc (.cells zC 28)) 9 (partsC (x :: t))
  have b1 : Below w.heap.size w ((w.alloc (.cells zC 28)).alloc (.cells (partsC (x :: t)) 9)) := ((Below.refl _ _).alloc (Nat.le_refl _) _).alloc (by simp) _
  have r1n := hr.alloc (.cells (partsC (x :: t)) 9)
  rw [e0] at r1
  obtain ⟨W1, hW1⟩ : ∃ z, (w.alloc (.cells zC 28)).alloc (.cells (partsC (x :: t)) 9) = z := ⟨_, rfl⟩
  have e1 : W1.heap.size = N + 2 := by rw [← hW1, ← hN]; simp
  rw [hW1] at r1 b1 HSP r1n
  rw [e0] at HSP
  rw [hN] at r1n b1
  obtain ⟨L, hL⟩ : ∃ z, (x :: t).length = z := ⟨_, rfl⟩
  rw [hL] at HSP hsl
  have r2 := RowAt.new W1 109 #[.slice (some ⟨N + 1, 0, none⟩) L L, .bool false]
  have b2 := b1.alloc (by omega) (.cells #[.slice (some ⟨N + 1, 0, none⟩) L L, .bool false] 109)
  have r1b := r1.alloc (.cells #[.slice (some ⟨N + 1, 0, none⟩) L L, .bool false] 109)
  have r1c := r1n.alloc (.cells #[.slice (some ⟨N + 1, 0, none⟩) L L, .bool false] 109)
  rw [e1] at r2
  obtain ⟨W2, hW2⟩ : ∃ z, W1.alloc (.cells #[.slice (some ⟨N + 1, 0, none⟩) L L, .bool false] 109) = z := ⟨_, rfl⟩
  have e2 : W2.heap.size = N + 3 := by rw [← hW2]; simp [e1]
  rw [hW2] at r2 b2 r1b r1c
  have HR2 : Hid (RdAt W2 (N + 2) ⟨x :: t, false⟩) := Lib.hid ⟨by omega, fun y hy => by have := hsl.2 y hy; omega, by show (x :: t).length ≤ 3001; omega, some ⟨N + 1, 0, none⟩, L, by rw [hL]; exact r2, by rw [hL]; exact Nat.le_refl _, by omega, .inr ⟨N + 1, 0, rfl, by omega, fun j y hy => by rw [Nat.zero_add]; exact parts_cell r1b j y hy⟩⟩
  have HB2 := Lib.hid b2
  have HN2 := Lib.hid r1c
  have HE2 := Lib.hid e2
  have HW1 := Lib.hid hW1
  have HW2 := Lib.hid hW2
  have HNN := Lib.hid hN
  have HK2 := Lib.hid (hK.mono (by rw [hN]; exact b2))
  have HSL := Lib.hid hsl
  have HL := Lib.hid hL
  have hx3 : x.length ≤ 3000 := by have := hsl.2 x (by simp); omega
  have hend : termW (x :: t) = match formV x t with | none => (zeroT, false) | some p => (p.1, !p.2.bad && p.2.ws.isEmpty && validT p.1) := rfl
  have HT := Lib.hid hend
  obtain ⟨TV, hTV⟩ : ∃ z, termW (x :: t) = z := ⟨_, rfl⟩
  rw [hTV] at HT ⊢
  have hfm := Lib.hid (fun f (h : formF x = some f) => form_any (t := t) h)
  clear hxt hr r1 r1n b1 r2 b2 r1b r1c e2 hW1 hW2 hK hsl hL hend hTV e0
  unfold strV at HSP ⊢
  unfold zC at HSP
  go_enter Tryz.func42, Tryz.ntmps42
  go_wp2_with fail
  refine HSP.out.mono ?_
  rintro e w1 ⟨rfl, rfl⟩
  go_upto_region 2 with fail
  rw [HW2.out]
  clear e1
  go_wp2_with fail
  refine (forms_any W2).mono ?_
  rintro e w3 ⟨rfl, hf3, hb3⟩
  rw [HE2.out] at hf3 hb3 ⊢
  have HF3 := Lib.hid hf3
  have HR3 := Lib.hid (HR2.out.below hb3 (by omega))
  have HB3 := Lib.hid (HB2.out.trans (hb3.mono (by omega)))
  have HN3 := Lib.hid (HN2.out.below hb3 (by omega))
  have HK3 := Lib.hid (HK2.out.below hb3 (by omega))
  clear hf3 hb3
  go_wp2_with fail
  have HNX := Lib.hid (next_any (N + 2) ⟨x :: t, false⟩ w3 HR3.out)
  rw [next_cons] at HNX
  unfold strV at HNX
  refine HNX.out.mono ?_
  rintro e w4 ⟨rfl, h4, hg4⟩
  have HR4 := Lib.hid h4
  have HF4 := Lib.hid (HF3.out.kept (hg4.block (N + 3) (World.ownsMap.lt HF3.out) (by intro e; cases e)))
  have HB4 := Lib.hid (HB3.out.trans (below_grown hg4 (by have := HR3.out.lt; omega) |>.mono (by omega)))
  have HN4 := Lib.hid (HN3.out.grown hg4 (by omega))
  have HK4 := Lib.hid (HK3.out.grown hg4 (by omega))
  obtain ⟨v, hlook, hv⟩ := form_look HF4.out x hx3
  unfold strV at hlook
  have HV := Lib.hid hv
  clear h4 hg4 hv HNX
  cases hf : formF x with
  | none =>
    have HTT : Hid (TV = (zeroT, false)) := Lib.hid (by rw [HT.out, form_none hf])
    rw [hf] at hlook
    dsimp only [Option.isSome] at hlook
    have HEND : Hid (TermEnd w TV (.returned (.tuple #[.agg zC, .bool false])) (w4.setRow N zC)) := Lib.hid (by
      rw [HTT.out]
      refine ⟨.slice none 0 0, rfl, OwnI.nil _ _ _ _, ?_⟩
      exact ⟨HB4.out.os, HB4.out.tape, HB4.out.output, by rw [setRow_size]; exact HB4.out.size, fun k hk => (setRow_far (by have := HNN.out; omega)).trans (HB4.out.block k (by have := HNN.out; omega))⟩)
    have HZ : Hid (zC.all (·.oneCell') = true) := Lib.hid (by kernel_rfl)
    unfold zC at HEND HZ
    clear hf
    go_wp2_with ((with_reducible refine store_trow (o := ⟨none, .store _ _ _, _, _, _, _⟩) (.tmp 2) (.tmp 21) N #[.int .i64 0, .int .i64 0, .int .i64 0, .int .i64 0, .slice none 0 0] _ HN4.out rfl rfl HZ.out ?_ ?_ ?_ ?_ ?_); rfl; rfl; rfl; rfl)
    refine bodyPost_ret (results_cell_tmp rfl _ _ N _ _ _ _ rfl (setRow_at HN4.out) Tryz.underlying28 rfl term_size) rfl ?_
    exact HEND.out
  | some f =>
    obtain ⟨pr, hfv, hcf, hcall⟩ := hfm.out f hf
    obtain ⟨p, r5⟩ := pr
    have HTT := Lib.hid (show TV = (p, !r5.bad && r5.ws.isEmpty && validT p) by rw [HT.out, hfv])
    obtain rfl := HV.out f hf
    rw [hf] at hlook
    dsimp only [Option.isSome] at hlook
    have HCALL := Lib.hid (hcall (N + 2) w4 HR4.out HK4.out)
    have HBD := Lib.hid (form_bd hfv)
    clear hf hfv hcall
    go_wp2_with fail
    refine HCALL.out.mono ?_
    rintro e w5 ⟨va, rfl, ho5, h5, hg5⟩
    dsimp only at ho5 h5
    obtain ⟨B4, hB4⟩ : ∃ z, w4.heap.size = z := ⟨_, rfl⟩
    have hNB4 : N < B4 := by rw [← hB4]; exact HN4.out.lt
    rw [hB4] at ho5
    have HN5 := Lib.hid (HN4.out.grown hg5 (by omega))
    have HW5 := Lib.hid (HB4.out.trans (below_grown hg5 (by have := HR4.out.lt; omega) |>.mono (by omega)))
    have h5s : N < w5.heap.size := HN5.out.lt
    have HI5 := Lib.hid (ints_of_rows ho5.rows)
    have HO5 := Lib.hid ho5
    have HR5 := Lib.hid h5
    have hONE : (termC p va).all (·.oneCell') = true := termC_one p HI5.out
    have HONE := Lib.hid hONE
    clear ho5 h5 hg5 hlook hONE hB4
    have r6 := RowAt.new w5 28 (termC p va)
    have b6 : Below w5.heap.size w5 (w5.alloc (.cells (termC p va) 28)) := (Below.refl _ _).alloc (Nat.le_refl _) _
    obtain ⟨W6, hW6⟩ : ∃ z, w5.alloc (.cells (termC p va) 28) = z := ⟨_, rfl⟩
    rw [hW6] at r6 b6
    have HM6 := Lib.hid r6
    have HI6 : Hid (IntsL W6.drew va p.acc) := Lib.hid ((HI5.out.below b6).below (Below.refl _ _).drew)
    have HO6 : Hid (OwnI 3 1 W6 B4 va (p.acc.map fun a => [a])) := Lib.hid (HO5.out.below b6)
    have HR6 := Lib.hid (HR5.out.below b6 HR5.out.lt)
    have HN6 := Lib.hid (HN5.out.below b6 HN5.out.lt)
    have HW6 : Hid (Below N w W6) := Lib.hid (HW5.out.trans (b6.mono (by omega)))
    have hW6e := Lib.hid hW6
    obtain ⟨ws5, bad⟩ := r5
    obtain ⟨A, c, hrw, _⟩ := HR6.out.row
    dsimp only at hrw HTT
    obtain ⟨n, hn⟩ : ∃ n, ws5.length = n := ⟨_, rfl⟩
    rw [hn] at hrw
    have HRW := Lib.hid hrw
    have hbM : N + 2 < w5.heap.size := HR5.out.lt
    have HVAL : Hid (∀ W, IntsL W va p.acc → Calls Tryz.prog 14 #[.agg (termC p va)] W fun e w' => e = .returned (.bool (validT p)) ∧ Below W.heap.size W w') := Lib.hid (fun W hW => validC_any p va W (by have := HBD.out.1; have := HL.out; have h2 := HSL.out.1; simp at this; omega) hW (fun a ha => by have := HBD.out.2 a ha; omega))
    have HEN : Hid (∀ q, TV = (p, q) → ∀ W, OwnI 3 1 W B4 va (p.acc.map fun a => [a]) → RowAt W N 28 zC → Below N w W → TermEnd w TV (.returned (.tuple #[.agg (termC p va), .bool q])) (W.setRow N (termC p va))) := Lib.hid (fun q hq W ho hrN hbW => by
      rw [hq]
      refine ⟨va, rfl, ?_, ?_⟩
      · rw [HNN.out]
        exact (ho.kept fun g hg => setRow_far (ho.ne_row (by decide) hrN g hg)).mono (by omega)
      · rw [HNN.out]
        exact ⟨hbW.os, hbW.tape, hbW.output, by rw [setRow_size]; exact hbW.size, fun k hk => (setRow_far (by omega)).trans (hbW.block k hk)⟩)
    clear r6 b6 hrw hW6
    go_upto_region 6 with ((with_reducible refine store_term (o := ⟨none, .store _ _ _, _, _, _, _⟩) (.tmp 7) (.tmp 24) p va _ HONE.out ?_ ?_ ?_ ?_ ?_ ?_); rfl; rfl; rfl; rfl; rfl)
    rw [hW6e.out]
    by_cases hbad : bad = true
    · subst hbad
      have HM6' := HM6
      have HB6 := HRW
      have HEND := Lib.hid (HEN.out false (by rw [HTT.out]; rfl))
      refine wp_region_held_drew (S := fun W' => RowAt W' (w5.heap.size) 28 (termC p va) ∧ RowAt W' (N + 2) 109 #[.slice A n c, .bool true]) (by kernel_rfl) ⟨HM6.out.drew, HB6.out.drew⟩ (fun hHeld => ?_)
      refine wpAnyH_take (i := 0) (oi := ⟨_, _, _, _, _, _⟩) rfl (by kernel_rfl) (by kernel_rfl) (by kernel_rfl) (fun _ _ _ h => h) (yields_row 28 (.tmp 7) (w5.heap.size) (termC p va) _ (fun w h => h.1) Tryz.underlying28 (by rfl) rfl rfl rfl term_size) (by assumption) ?_
      simp only [Act.put, sa, s0, s1]
      refine tk 1 (v := ?_) rfl (by kernel_rfl) (fun _ _ _ h => h) (by rfl) (by assumption) ?_ ?_
      rotate_left
      · intro w hSw
        go_simp
        all_goals with_reducible rfl
      simp only [Act.put, sa, s0, s1]
      refine tk 2 (v := ?_) rfl (by kernel_rfl) (fun _ _ _ h => h) (by rfl) (by assumption) ?_ ?_
      rotate_left
      · intro w hSw
        go_simp
        all_goals with_reducible rfl
      simp only [Act.put, sa, s0, s1]
      refine tk 3 (v := ?_) rfl (by kernel_rfl) (fun _ _ _ h => h) (by rfl) (by assumption) ?_ ?_
      rotate_left
      · intro w hSw
        go_simp
        all_goals with_reducible rfl
      simp only [Act.put, sa, s0, s1]
      refine tk 4 (v := ?_) rfl (by kernel_rfl) (fun _ _ _ h => h) (by rfl) (by assumption) ?_ ?_
      rotate_left
      · intro w hSw
        have hc := hSw.2.cell 1
        simp only [sg, g1, g0] at hc
        go_simp
        all_goals with_reducible rfl
      simp only [Act.put, sa, s0, s1]
      refine tk 5 (v := ?_) rfl (by kernel_rfl) (fun _ _ _ h => h) (by rfl) (by assumption) ?_ ?_
      rotate_left
      · intro w hSw
        go_simp
        all_goals with_reducible rfl
      simp only [Act.put, sa, s0, s1]
      refine tk 6 (v := ?_) rfl (by kernel_rfl) (fun _ _ _ h => h) (by rfl) (by assumption) ?_ ?_
      rotate_left
      · intro w hSw
        go_simp
        all_goals with_reducible rfl
      simp only [Act.put, sa, s0, s1]
      refine tu 7 rfl (by kernel_rfl) (fun _ _ _ h => h) (by rfl) (by assumption) ?_
      simp only [Act.put, sa, s0, s1]
      refine tu 8 rfl (by kernel_rfl) (fun _ _ _ h => h) (by rfl) (by assumption) ?_
      simp only [Act.put, sa, s0, s1]
      refine tu 9 rfl (by kernel_rfl) (fun _ _ _ h => h) (by rfl) (by assumption) ?_
      simp only [Act.put, sa, s0, s1]
      refine tu 10 rfl (by kernel_rfl) (fun _ _ _ h => h) (by rfl) (by assumption) ?_
      simp only [Act.put, sa, s0, s1]
      refine tu 11 rfl (by kernel_rfl) (fun _ _ _ h => h) (by rfl) (by assumption) ?_
      simp only [Act.put, sa, s0, s1]
      refine tu 12 rfl (by kernel_rfl) (fun _ _ _ h => h) (by rfl) (by assumption) ?_
      simp only [Act.put, sa, s0, s1]
      refine tk 13 (v := ?_) rfl (by kernel_rfl) (fun _ _ _ h => h) (by rfl) (by assumption) ?_ ?_
      rotate_left
      · intro w hSw
        go_simp
        all_goals with_reducible rfl
      simp only [Act.put, sa, s0, s1]
      refine tk 14 (v := ?_) rfl (by kernel_rfl) (fun _ _ _ h => h) (by rfl) (by assumption) ?_ ?_
      rotate_left
      · intro w hSw
        go_simp
        all_goals with_reducible rfl
      simp only [Act.put, sa, s0, s1]
      refine tu 15 rfl (by kernel_rfl) (fun _ _ _ h => h) (by rfl) (by assumption) ?_
      simp only [Act.put, sa, s0, s1]
      refine tu 16 rfl (by kernel_rfl) (fun _ _ _ h => h) (by rfl) (by assumption) ?_
      simp only [Act.put, sa, s0, s1]
      have HN6d := Lib.hid HN6.out.drew
      have HO6d : Hid (OwnI 3 1 W6.drew B4 va (p.acc.map fun a => [a])) := Lib.hid (HO6.out.kept fun _ _ => rfl)
      have HW6d : Hid (Below N w W6.drew) := Lib.hid HW6.out.drew
      have HM6d := Lib.hid HM6.out.drew
      have HB6d := Lib.hid HB6.out.drew
      refine tk 17 (v := ?_) rfl (by kernel_rfl) (fun _ _ _ h => h) (by rfl) (by assumption) ?_ ?_
      rotate_left
      · intro w hSw
        go_simp
        all_goals with_reducible rfl
      simp only [Act.put, sa, s0, s1]
      refine rd 18 (by kernel_rfl) rfl fun K hK => ?_
      rw [if_pos (by rfl)]
      refine wp_store_row _ _ _ rfl N (termC p va) rfl rfl _ zC HN6d.out term_size rfl HONE.out ?_
      refine hK.out _ _ ⟨(setRow_far (by omega)).trans HM6d.out, (setRow_far (by omega)).trans HB6d.out⟩ (fun hHeld => ?_)
      clear hK K
      try simp only [Act.put, sa, s0, s1]
      refine tk 19 (v := ?_) rfl (by kernel_rfl) (fun _ _ _ h => h) (by rfl) (by assumption) ?_ ?_
      rotate_left
      · intro w hSw
        go_simp
        all_goals with_reducible rfl
      simp only [Act.put, sa, s0, s1]
      refine wpAnyH_done (by kernel_rfl) ?_ _
      go_wp2_with fail
      refine bodyPost_ret (results_cell_tmp rfl _ _ N _ _ _ _ rfl (setRow_at HN6d.out) Tryz.underlying28 rfl term_size) rfl ?_
      exact HEND.out _ HO6d.out HN6d.out HW6d.out
    · obtain rfl : bad = false := by simpa using hbad
      clear hbad
      by_cases hn0 : n = 0
      · subst hn0
        have HB6 := HRW
        have HEND := Lib.hid (HEN.out (validT p) (by rw [HTT.out, List.length_eq_zero_iff.1 hn]; rfl))
        obtain ⟨q, hq⟩ : ∃ q, validT p = q := ⟨_, rfl⟩
        rw [hq] at HEND HVAL
        clear hn hq
        refine wp_region_held_drew (S := fun W' => RowAt W' (w5.heap.size) 28 (termC p va) ∧ RowAt W' (N + 2) 109 #[.slice A 0 c, .bool false]) (by kernel_rfl) ⟨HM6.out.drew, HB6.out.drew⟩ (fun hHeld => ?_)
        refine wpAnyH_take (i := 0) (oi := ⟨_, _, _, _, _, _⟩) rfl (by kernel_rfl) (by kernel_rfl) (by kernel_rfl) (fun _ _ _ h => h) (yields_row 28 (.tmp 7) (w5.heap.size) (termC p va) _ (fun w h => h.1) Tryz.underlying28 (by rfl) rfl rfl rfl term_size) (by assumption) ?_
        simp only [Act.put, sa, s0, s1]
        refine tk 1 (v := ?_) rfl (by kernel_rfl) (fun _ _ _ h => h) (by rfl) (by assumption) ?_ ?_
        rotate_left
        · intro w hSw
          go_simp
          all_goals with_reducible rfl
        simp only [Act.put, sa, s0, s1]
        refine tk 2 (v := ?_) rfl (by kernel_rfl) (fun _ _ _ h => h) (by rfl) (by assumption) ?_ ?_
        rotate_left
        · intro w hSw
          go_simp
          all_goals with_reducible rfl
        simp only [Act.put, sa, s0, s1]
        refine tk 3 (v := ?_) rfl (by kernel_rfl) (fun _ _ _ h => h) (by rfl) (by assumption) ?_ ?_
        rotate_left
        · intro w hSw
          go_simp
          all_goals with_reducible rfl
        simp only [Act.put, sa, s0, s1]
        refine tk 4 (v := ?_) rfl (by kernel_rfl) (fun _ _ _ h => h) (by rfl) (by assumption) ?_ ?_
        rotate_left
        · intro w hSw
          have hc := hSw.2.cell 1
          simp only [sg, g1, g0] at hc
          go_simp
          all_goals with_reducible rfl
        simp only [Act.put, sa, s0, s1]
        refine tk 5 (v := ?_) rfl (by kernel_rfl) (fun _ _ _ h => h) (by rfl) (by assumption) ?_ ?_
        rotate_left
        · intro w hSw
          go_simp
          all_goals with_reducible rfl
        simp only [Act.put, sa, s0, s1]
        refine tk 6 (v := ?_) rfl (by kernel_rfl) (fun _ _ _ h => h) (by rfl) (by assumption) ?_ ?_
        rotate_left
        · intro w hSw
          go_simp
          all_goals with_reducible rfl
        simp only [Act.put, sa, s0, s1]
        refine tk 7 (v := ?_) rfl (by kernel_rfl) (fun _ _ _ h => h) (by rfl) (by assumption) ?_ ?_
        rotate_left
        · intro w hSw
          go_simp
          all_goals with_reducible rfl
        simp only [Act.put, sa, s0, s1]
        refine tk 8 (v := ?_) rfl (by kernel_rfl) (fun _ _ _ h => h) (by rfl) (by assumption) ?_ ?_
        rotate_left
        · intro w hSw
          go_simp
          all_goals with_reducible rfl
        simp only [Act.put, sa, s0, s1]
        refine tk 9 (v := ?_) rfl (by kernel_rfl) (fun _ _ _ h => h) (by rfl) (by assumption) ?_ ?_
        rotate_left
        · intro w hSw
          go_simp
          all_goals with_reducible rfl
        simp only [Act.put, sa, s0, s1]
        refine tk 10 (v := ?_) rfl (by kernel_rfl) (fun _ _ _ h => h) (by rfl) (by assumption) ?_ ?_
        rotate_left
        · intro w hSw
          have hc := hSw.2.cell 0
          simp only [sg, g1, g0] at hc
          go_simp
          all_goals with_reducible rfl
        simp only [Act.put, sa, s0, s1]
        refine tk 11 (v := ?_) rfl (by kernel_rfl) (fun _ _ _ h => h) (by rfl) (by assumption) ?_ ?_
        rotate_left
        · intro w hSw
          go_simp
          all_goals with_reducible rfl
        simp only [Act.put, sa, s0, s1]
        refine tk 12 (v := ?_) rfl (by kernel_rfl) (fun _ _ _ h => h) (by rfl) (by assumption) ?_ ?_
        rotate_left
        · intro w hSw
          go_simp
          all_goals with_reducible rfl
        simp only [Act.put, sa, s0, s1]
        refine tk 13 (v := ?_) rfl (by kernel_rfl) (fun _ _ _ h => h) (by rfl) (by assumption) ?_ ?_
        rotate_left
        · intro w hSw
          go_simp
          all_goals with_reducible rfl
        simp only [Act.put, sa, s0, s1]
        refine tk 14 (v := ?_) rfl (by kernel_rfl) (fun _ _ _ h => h) (by rfl) (by assumption) ?_ ?_
        rotate_left
        · intro w hSw
          go_simp
          all_goals with_reducible rfl
        simp only [Act.put, sa, s0, s1]
        refine wpAnyH_take (i := 15) (oi := ⟨_, _, _, _, _, _⟩) rfl (by kernel_rfl) (by kernel_rfl) (by kernel_rfl) (fun _ _ _ h => h) (yields_row 28 (.tmp 7) (w5.heap.size) (termC p va) _ (fun w h => h.1) Tryz.underlying28 (by rfl) rfl rfl rfl term_size) (by assumption) ?_
        simp only [Act.put, sa, s0, s1]
        refine rd 16 (by kernel_rfl) rfl fun K hK => ?_
        go_simp
        go_at_call 14
        refine (HVAL.out W6.drew HI6.out).mono ?_
        rintro e w7 ⟨rfl, hb7⟩
        have HM7 := Lib.hid (HM6.out.drew.below hb7 HM6.out.lt)
        have HN7 := Lib.hid (HN6.out.drew.below hb7 HN6.out.lt)
        have HB7 := Lib.hid (HB6.out.drew.below hb7 HB6.out.lt)
        have HO7 := Lib.hid (HO6.out.kept fun g hg => hb7.block g (HO6.out.lt g hg).2)
        have HW7 := Lib.hid (HW6.out.drew.trans (hb7.mono (by show N ≤ W6.heap.size; have := HN6.out.lt; omega)))
        clear hb7
        go_wp2_with fail
        refine hK.out _ _ ⟨HM7.out, HB7.out⟩ (fun hHeld => ?_)
        clear hK K
        try simp only [Act.put, sa, s0, s1]
        refine tk 17 (v := ?_) rfl (by kernel_rfl) (fun _ _ _ h => h) (by rfl) (by assumption) ?_ ?_
        rotate_left
        · intro w hSw
          go_simp
          all_goals with_reducible rfl
        simp only [Act.put, sa, s0, s1]
        refine rd 18 (by kernel_rfl) rfl fun K hK => ?_
        rw [if_pos (by rfl)]
        refine wp_store_row _ _ _ rfl N (termC p va) rfl rfl _ zC HN7.out term_size rfl HONE.out ?_
        refine hK.out _ _ ⟨(setRow_far (by omega)).trans HM7.out, (setRow_far (by omega)).trans HB7.out⟩ (fun hHeld => ?_)
        clear hK K
        try simp only [Act.put, sa, s0, s1]
        refine tk 19 (v := ?_) rfl (by kernel_rfl) (fun _ _ _ h => h) (by rfl) (by assumption) ?_ ?_
        rotate_left
        · intro w hSw
          go_simp
          all_goals with_reducible rfl
        simp only [Act.put, sa, s0, s1]
        refine wpAnyH_done (by kernel_rfl) ?_ _
        go_wp2_with fail
        refine bodyPost_ret (results_cell_tmp rfl _ _ N _ _ _ _ rfl (setRow_at HN7.out) Tryz.underlying28 rfl term_size) rfl ?_
        exact HEND.out _ HO7.out HN7.out HW7.out
      · have HB6 := HRW
        have HEND := Lib.hid (HEN.out false (by
          rw [HTT.out]
          have : ws5.isEmpty = false := by rw [List.isEmpty_eq_false_iff]; intro e; rw [e] at hn; exact hn0 hn.symm
          rw [this]; rfl))
        have d0 : (((n : Nat) : Int) == 0) = false := by rw [beq_eq_false_iff_ne]; omega
        clear hn hn0
        refine wp_region_held_drew (S := fun W' => RowAt W' (w5.heap.size) 28 (termC p va) ∧ RowAt W' (N + 2) 109 #[.slice A n c, .bool false]) (by kernel_rfl) ⟨HM6.out.drew, HB6.out.drew⟩ (fun hHeld => ?_)
        refine wpAnyH_take (i := 0) (oi := ⟨_, _, _, _, _, _⟩) rfl (by kernel_rfl) (by kernel_rfl) (by kernel_rfl) (fun _ _ _ h => h) (yields_row 28 (.tmp 7) (w5.heap.size) (termC p va) _ (fun w h => h.1) Tryz.underlying28 (by rfl) rfl rfl rfl term_size) (by assumption) ?_
        simp only [Act.put, sa, s0, s1]
        refine tk 1 (v := ?_) rfl (by kernel_rfl) (fun _ _ _ h => h) (by rfl) (by assumption) ?_ ?_
        rotate_left
        · intro w hSw
          go_simp
          all_goals with_reducible rfl
        simp only [Act.put, sa, s0, s1]
        refine tk 2 (v := ?_) rfl (by kernel_rfl) (fun _ _ _ h => h) (by rfl) (by assumption) ?_ ?_
        rotate_left
        · intro w hSw
          go_simp
          all_goals with_reducible rfl
        simp only [Act.put, sa, s0, s1]
        refine tk 3 (v := ?_) rfl (by kernel_rfl) (fun _ _ _ h => h) (by rfl) (by assumption) ?_ ?_
        rotate_left
        · intro w hSw
          go_simp
          all_goals with_reducible rfl
        simp only [Act.put, sa, s0, s1]
        refine tk 4 (v := ?_) rfl (by kernel_rfl) (fun _ _ _ h => h) (by rfl) (by assumption) ?_ ?_
        rotate_left
        · intro w hSw
          have hc := hSw.2.cell 1
          simp only [sg, g1, g0] at hc
          go_simp
          all_goals with_reducible rfl
        simp only [Act.put, sa, s0, s1]
        refine tk 5 (v := ?_) rfl (by kernel_rfl) (fun _ _ _ h => h) (by rfl) (by assumption) ?_ ?_
        rotate_left
        · intro w hSw
          go_simp
          all_goals with_reducible rfl
        simp only [Act.put, sa, s0, s1]
        refine tk 6 (v := ?_) rfl (by kernel_rfl) (fun _ _ _ h => h) (by rfl) (by assumption) ?_ ?_
        rotate_left
        · intro w hSw
          go_simp
          all_goals with_reducible rfl
        simp only [Act.put, sa, s0, s1]
        refine tk 7 (v := ?_) rfl (by kernel_rfl) (fun _ _ _ h => h) (by rfl) (by assumption) ?_ ?_
        rotate_left
        · intro w hSw
          go_simp
          all_goals with_reducible rfl
        simp only [Act.put, sa, s0, s1]
        refine tk 8 (v := ?_) rfl (by kernel_rfl) (fun _ _ _ h => h) (by rfl) (by assumption) ?_ ?_
        rotate_left
        · intro w hSw
          go_simp
          all_goals with_reducible rfl
        simp only [Act.put, sa, s0, s1]
        refine tk 9 (v := ?_) rfl (by kernel_rfl) (fun _ _ _ h => h) (by rfl) (by assumption) ?_ ?_
        rotate_left
        · intro w hSw
          go_simp
          all_goals with_reducible rfl
        simp only [Act.put, sa, s0, s1]
        refine tk 10 (v := ?_) rfl (by kernel_rfl) (fun _ _ _ h => h) (by rfl) (by assumption) ?_ ?_
        rotate_left
        · intro w hSw
          have hc := hSw.2.cell 0
          simp only [sg, g1, g0] at hc
          go_simp
          all_goals with_reducible rfl
        simp only [Act.put, sa, s0, s1]
        refine tk 11 (v := ?_) rfl (by kernel_rfl) (fun _ _ _ h => h) (by rfl) (by assumption) ?_ ?_
        rotate_left
        · intro w hSw
          go_simp
          all_goals with_reducible rfl
        simp only [Act.put, sa, s0, s1]
        refine tk 12 (v := ?_) rfl (by kernel_rfl) (fun _ _ _ h => h) (by rfl) (by assumption) ?_ ?_
        rotate_left
        · intro w hSw
          go_simp
          all_goals with_reducible rfl
        simp only [Act.put, sa, s0, s1]
        refine tk 13 (v := ?_) rfl (by kernel_rfl) (fun _ _ _ h => h) (by rfl) (by assumption) ?_ ?_
        rotate_left
        · intro w hSw
          go_simp
          all_goals with_reducible rfl
        simp only [Act.put, sa, s0, s1]
        refine tk 14 (v := ?_) rfl (by kernel_rfl) (fun _ _ _ h => h) (by rfl) (by assumption) ?_ ?_
        rotate_left
        · intro w hSw
          go_simp
          all_goals with_reducible rfl
        simp only [Act.put, sa, s0, s1]
        refine tu 15 rfl (by kernel_rfl) (fun _ _ _ h => h) (by rfl) (by assumption) ?_
        simp only [Act.put, sa, s0, s1]
        refine tu 16 rfl (by kernel_rfl) (fun _ _ _ h => h) (by rfl) (by assumption) ?_
        simp only [Act.put, sa, s0, s1]
        have HN6d := Lib.hid HN6.out.drew
        have HO6d : Hid (OwnI 3 1 W6.drew B4 va (p.acc.map fun a => [a])) := Lib.hid (HO6.out.kept fun _ _ => rfl)
        have HW6d : Hid (Below N w W6.drew) := Lib.hid HW6.out.drew
        have HM6d := Lib.hid HM6.out.drew
        have HB6d := Lib.hid HB6.out.drew
        refine tk 17 (v := ?_) rfl (by kernel_rfl) (fun _ _ _ h => h) (by rfl) (by assumption) ?_ ?_
        rotate_left
        · intro w hSw
          go_simp
          all_goals with_reducible rfl
        simp only [Act.put, sa, s0, s1]
        refine rd 18 (by kernel_rfl) rfl fun K hK => ?_
        rw [if_pos (by rfl)]
        refine wp_store_row _ _ _ rfl N (termC p va) rfl rfl _ zC HN6d.out term_size rfl HONE.out ?_
        refine hK.out _ _ ⟨(setRow_far (by omega)).trans HM6d.out, (setRow_far (by omega)).trans HB6d.out⟩ (fun hHeld => ?_)
        clear hK K
        try simp only [Act.put, sa, s0, s1]
        refine tk 19 (v := ?_) rfl (by kernel_rfl) (fun _ _ _ h => h) (by rfl) (by assumption) ?_ ?_
        rotate_left
        · intro w hSw
          go_simp
          all_goals with_reducible rfl
        simp only [Act.put, sa, s0, s1]
        refine wpAnyH_done (by kernel_rfl) ?_ _
        go_wp2_with fail
        refine bodyPost_ret (results_cell_tmp rfl _ _ N _ _ _ _ rfl (setRow_at HN6d.out) Tryz.underlying28 rfl term_size) rfl ?_
        exact HEND.out _ HO6d.out HN6d.out HW6d.out
end Go.Proofs.YtfiabonacpepnaaGreatDoor
namespace Go.Proofs.YtfiabonacpepnaaGreatDoor
open Go Go.RowKit Go.Lib Go.Shelf Go.Maps

def errI (b : Bool) : Int := if b then 0 else 140
/-- what Parse returns -/
def ParseEnd (w : World) (p : List TermV × Nat × Bool) (e : Ending) (w' : World) : Prop :=
  ∃ v L, e = .returned (.tuple #[v, .int .i64 p.2.1, .int .i64 (errI p.2.2)]) ∧ L.map (·.1) = p.1 ∧ OwnT w' w.heap.size v L ∧ Below w.heap.size w w'
theorem OwnT.nil (w : World) (base : Nat) : OwnT w base (.slice none 0 0) [] := ⟨World.ownsRow_nil _ _ _ _, by simp⟩
theorem ignored_cases (l : List UInt8) : (ignoredL l = true ∧ (l = [] ∨ ∃ r, l = 35 :: r)) ∨ (ignoredL l = false ∧ ∃ c r, l = c :: r ∧ c ≠ 35) := by
  cases l with
  | nil => exact .inl ⟨rfl, .inl rfl⟩
  | cons c r =>
    by_cases h : c = 35
    · subst h; exact .inl ⟨rfl, .inr ⟨r, rfl⟩⟩
    · refine .inr ⟨?_, c, r, rfl, h⟩
      unfold ignoredL
      simp [h]
theorem run_str_head (t : TypeId) (ht : Tryz.prog.underlying t = some .string) (c : UInt8) (r : List UInt8) (w : World) :
    (Instr.index t (.string ⟨(c :: r).toArray⟩) (.int .i64 0)).run Tryz.prog w = .ok (.int .u8 (c.toNat : Int)) w := by
  rw [run_index_string w t _ .i64 _ ht, dif_pos ⟨by decide, by show (0 : Int) < ((c :: r).length : Int); simp⟩]
  rfl
theorem parse_step (l : List UInt8) (r : List (List UInt8)) (i : Nat) (out : List TermV) : parseGo (l :: r) i out = if ignoredL l = true then parseGo r (i + 1) out else if (termV l).2 = true ∧ out.length ≠ 20 then parseGo r (i + 1) (out ++ [(termV l).1]) else ([], i + 1, false) := by rw [parseGo]
set_option maxRecDepth 100000 in
set_option maxHeartbeats 8000000 in
theorem parse_any (s : List UInt8) (w : World) (hK : KAt w) (hl : s.length ≤ 9223372036854775807) :
    Calls Tryz.prog 20 #[strV s] w (ParseEnd w (parseV s)) := by
  have HP := Lib.hid (parseV.eq_1 s)
  obtain ⟨n0, hn0⟩ : ∃ n, s.length = n := ⟨_, rfl⟩
  by_cases h2 : 2000 < s.length
  · have HE : Hid (parseV s = ([], 0, false)) := Lib.hid (by rw [HP.out, if_neg (by omega)])
    obtain ⟨q, hq⟩ : ∃ q, parseV s = q := ⟨_, rfl⟩
    rw [hq] at HE ⊢
    have d0 : decide (2000 < (s.length : Int)) = true := by simp; omega
    clear HP hq hn0 h2
    unfold strV
    go_enter Tryz.func20, Tryz.ntmps20
    go_wp2_with fail
    refine wp_scope_straight ?_
    go_wp2_with fail
    rw [Exit.noGoto_ret]
    go_ret3
    exact ⟨.slice none 0 0, [], by rw [HE.out]; rfl, by rw [HE.out]; rfl, OwnT.nil _ _, Below.refl _ _⟩
  · have hl2 : s.length ≤ 2000 := by omega
    have HE := Lib.hid (HP.out.trans (if_pos hl2))
    obtain ⟨P0, hP0⟩ : ∃ q, parseV s = q := ⟨_, rfl⟩
    rw [hP0] at HE ⊢
    have hsl := split_len 10 s
    have HSP := Lib.hid (split_any 10 s w hK (by omega))
    have d0 : decide (2000 < (s.length : Int)) = false := by simp; omega
    obtain ⟨ls, hls⟩ : ∃ z, splitL 10 s = z := ⟨_, rfl⟩
    rw [hls] at HE HSP hsl
    obtain ⟨n, hn⟩ : ∃ z, ls.length = z := ⟨_, rfl⟩
    rw [hn] at HSP hsl
    have r1 := RowAt.new w 9 (partsC ls)
    have b1 : Below w.heap.size w (w.alloc (.cells (partsC ls) 9)) := (Below.refl _ _).alloc (Nat.le_refl _) _
    obtain ⟨W1, hW1⟩ : ∃ z, w.alloc (.cells (partsC ls) 9) = z := ⟨_, rfl⟩
    rw [hW1] at r1 b1 HSP
    obtain ⟨N, hN⟩ : ∃ z, w.heap.size = z := ⟨_, rfl⟩
    have h9N : 9 ≤ N := by rw [← hN]; exact hK.lt
    rw [hN] at r1 b1 HSP
    have HR1 := Lib.hid r1
    have HB1 := Lib.hid b1
    have HNN := Lib.hid hN
    have HLN := Lib.hid hn
    have HSL := Lib.hid hsl
    have HK := Lib.hid hK
    have HS2 := Lib.hid hl2
    have hn2 : n ≤ 2001 := by omega
    clear HP hP0 hn0 h2 hl2 hls hn r1 b1 hW1 hN hK hsl hl
    unfold strV at HSP ⊢
    go_enter Tryz.func20, Tryz.ntmps20
    go_wp2_with fail
    refine wp_scope_straight ?_
    go_wp2_with fail
    refine wp_label ?_
    go_wp2_with fail
    refine HSP.out.mono ?_
    rintro e w1 ⟨rfl, rfl⟩
    go_wp2_with fail
    go_loopw [5, 16] (fun ov iv wr => ∃ (k : Nat) (L : List (TermV × Value)), iv = .int .i64 k ∧ k ≤ n ∧ Hid (P0 = parseGo (ls.drop k) k (L.map (·.1)) ∧ L.length ≤ 20 ∧ OwnT wr N ov L ∧ RowAt wr N 9 (partsC ls) ∧ Below N w wr)) (fun _ iv _ => n - (intOf iv).toNat)
    case atStart => exact ⟨0, [], rfl, Nat.zero_le _, Lib.hid ⟨by rw [HE.out]; rfl, by simp, OwnT.nil _ _, HR1.out, HB1.out⟩⟩
    case round =>
      obtain ⟨k, L, rfl, hk, HR⟩ := hrel
      obtain ⟨hgo, hL20, how, hrow, hbw⟩ := HR.out
      have HGO := Lib.hid hgo
      have HOW := Lib.hid how
      have HROW := Lib.hid hrow
      have HBW := Lib.hid hbw
      have HKr := Lib.hid (HK.out.below hbw h9N)
      obtain ⟨A5, n5, c5, rfl⟩ := how.slice3
      obtain rfl : n5 = L.length := by
        rcases how.own.2 with ⟨h1, h2⟩ | ⟨g, cap, cur, h1, _⟩
        · cases h1; exact h2.symm
        · cases h1; rfl
      have hNr : N < wr.heap.size := hrow.lt
      clear HR hgo how hbw
      by_cases hkn : k < n
      · obtain ⟨l, hlk⟩ : ∃ l, ls[k]? = some l := ⟨_, List.getElem?_eq_getElem (by rw [HLN.out]; exact hkn)⟩
        have hcell := parts_cell hrow k l hlk
        unfold strV at hcell
        have hdrop : ls.drop k = l :: ls.drop (k + 1) := List.drop_eq_getElem?_toList_append.trans (by rw [hlk]; rfl)
        have HSTEP := Lib.hid (parse_step l (ls.drop (k + 1)) k (L.map (·.1)))
        rw [← hdrop, ← HGO.out] at HSTEP
        have hl3 : l.length ≤ 3000 := by have := HSL.out.2 l (List.mem_of_getElem? hlk); have := HS2.out; omega
        clear hlk hdrop hrow
        rcases ignored_cases l with ⟨hig, hc⟩ | ⟨hig, c, r, rfl, hc35⟩
        · have HNX := Lib.hid (HSTEP.out.trans (if_pos hig))
          rcases hc with rfl | ⟨r, rfl⟩
          · clear hig
            go_wp2_with fail
            go_roundw
            case rel => exact ⟨k + 1, L, by go_num, by omega, Lib.hid ⟨HNX.out, hL20, HOW.out, HROW.out, HBW.out⟩⟩
            case measure => simp [intOf]; omega
          · clear hig
            go_wp2_with fail
            go_roundw
            case rel => exact ⟨k + 1, L, by go_num, by omega, Lib.hid ⟨HNX.out, hL20, HOW.out, HROW.out, HBW.out⟩⟩
            case measure => simp [intOf]; omega
        · have HNX := Lib.hid (HSTEP.out.trans (if_neg (by rw [hig]; decide)))
          have HT := Lib.hid (term_any (c :: r) wr HKr.out hl3)
          obtain ⟨T, okk, htv⟩ : ∃ T o, termV (c :: r) = (T, o) := ⟨_, _, rfl⟩
          rw [htv] at HNX HT
          unfold strV at HT
          have n35 : ((c.toNat : Int) == 35) = false := by
            rw [beq_eq_false_iff_ne]
            intro e
            exact hc35 (by rw [← ofNat_toNat c, show c.toNat = 35 by omega]; rfl)
          have hix := fun W => run_str_head 9 Tryz.underlying9 c r W
          clear hig hc35 htv HSTEP
          go_wp2_with fail
          refine HT.out.mono ?_
          rintro e w2 ⟨va, rfl, ho2, hb2⟩
          obtain ⟨tk, tn, tm, tb, ta⟩ := T
          dsimp only at ho2
          obtain ⟨AV, nv, cv, rfl⟩ := ho2.slice3
          have HO2 := Lib.hid ho2
          have HOW2 := Lib.hid (HOW.out.kept fun g _ h2 => hb2.block g h2)
          have HROW2 := Lib.hid (HROW.out.below hb2 hNr)
          have HBW2 := Lib.hid (HBW.out.trans (hb2.mono (by omega)))
          have hN2 : N < w2.heap.size := HROW2.out.lt
          have hwr2 : wr.heap.size ≤ w2.heap.size := hb2.size
          have HC : Hid ((termC ⟨tk, tn, tm, tb, ta⟩ (.slice AV nv cv)).all (·.oneCell') = true) := Lib.hid (by kernel_rfl)
          have hr3 := RowAt.new w2 28 #[.int .i64 tk, .int .i64 tn, .int .i64 tm, .int .i64 tb, .slice AV nv cv]
          have b3 : Below w2.heap.size w2 (w2.alloc (.cells #[.int .i64 tk, .int .i64 tn, .int .i64 tm, .int .i64 tb, .slice AV nv cv] 28)) := (Below.refl _ _).alloc (Nat.le_refl _) _
          have HR3 := Lib.hid hr3
          have HR3t : Hid (RowAt (w2.alloc (.cells (termC ⟨tk, tn, tm, tb, ta⟩ (.slice AV nv cv)) 28)) w2.heap.size 28 #[.int .i64 tk, .int .i64 tn, .int .i64 tm, .int .i64 tb, .slice AV nv cv]) := Lib.hid hr3
          have HB3 := Lib.hid b3
          clear ho2 hb2 hr3 b3 hcell hix n35
          unfold termC
          by_cases hgood : okk = true ∧ L.length ≠ 20
          · obtain ⟨rfl, hL⟩ := hgood
            have HNX2 := Lib.hid (HNX.out.trans (if_pos ⟨rfl, by rw [List.length_map]; exact hL⟩))
            have d20 : ((L.length : Int) == 20) = false := by rw [beq_eq_false_iff_ne]; omega
            go_wp2_with (first | ((with_reducible refine store_term (o := ⟨none, .store _ _ _, _, _, _, _⟩) (.tmp 8) (.tmp 31) ⟨tk, tn, tm, tb, ta⟩ (.slice AV nv cv) _ HC.out ?_ ?_ ?_ ?_ ?_ ?_); rfl; rfl; rfl; rfl; rfl) | ((with_reducible refine load_trow (o := ⟨some 43, _, _, _, _, _⟩) (.tmp 8) w2.heap.size #[.int .i64 tk, .int .i64 tn, .int .i64 tm, .int .i64 tb, .slice AV nv cv] HR3.out rfl ?_ ?_ ?_ ?_); rfl; rfl; rfl) | ((with_reducible refine load_trow (o := ⟨some 43, _, _, _, _, _⟩) (.tmp 8) w2.heap.size #[.int .i64 tk, .int .i64 tn, .int .i64 tm, .int .i64 tb, .slice AV nv cv] HR3t.out rfl ?_ ?_ ?_ ?_); rfl; rfl; rfl) | ((with_reducible refine wpList_stop (o := ⟨some 45, _, _, _, _, _⟩) ?_)))
            unfold Stop
            obtain ⟨W3, hW3⟩ : ∃ z, w2.alloc (.cells (termC ⟨tk, tn, tm, tb, ta⟩ (.slice AV nv cv)) 28) = z := ⟨_, rfl⟩
            have HR3' := HR3t.out
            have HB3' : Below w2.heap.size w2 (w2.alloc (.cells (termC ⟨tk, tn, tm, tb, ta⟩ (.slice AV nv cv)) 28)) := HB3.out
            have e3 : W3.heap.size = w2.heap.size + 1 := by rw [← hW3]; simp
            rw [hW3] at HR3' HB3' ⊢
            clear hW3
            obtain ⟨i0, hi, hz0, hz1, hz2⟩ := info_parts term_info
            have b8 : Below W3.heap.size W3 (W3.alloc (.cells #[.int .i64 tk, .int .i64 tn, .int .i64 tm, .int .i64 tb, .slice AV nv cv] 28)) := (Below.refl _ _).alloc (Nat.le_refl _) _
            have h3s : w2.heap.size ≤ W3.heap.size := HB3'.size
            have ow8 : OwnT (W3.alloc (.cells #[.int .i64 tk, .int .i64 tn, .int .i64 tm, .int .i64 tb, .slice AV nv cv] 28)) N (.slice A5 L.length c5) L := (HOW2.out.kept fun g _ h2 => HB3'.block g h2).kept fun g _ h2 => b8.block g h2
            have o88 : OwnI 3 1 (W3.alloc (.cells #[.int .i64 tk, .int .i64 tn, .int .i64 tm, .int .i64 tb, .slice AV nv cv] 28)) N (.slice AV nv cv) (ta.map fun a => [a]) := ((HO2.out.below HB3').below b8).mono (by omega)
            refine wpList_append_own _ rfl (.tmp 42) (.tmp 44) 22 rfl N 28 i0 _ 5 56 Tryz.underlying22 hi hz0 hz1 hz2 rfl (by decide) (.slice A5 L.length c5) L.length (tCells L) rfl ow8.own ⟨w2.heap.size + 1, 0, none⟩ 1 1 (termC ⟨tk, tn, tm, tb, ta⟩ (.slice AV nv cv)).toList rfl rfl ?_ ?_ ?_ ?_ ?_ ?_
            · intro j u hj
              rw [addr_add, ← e3, (RowAt.new W3 28 _).cell j, ← hj]
              simp [termC]
            · intro u hu
              have := HC.out
              rw [← Array.all_toList, List.all_eq_true] at this
              exact this u hu
            · unfold maxLen; omega
            · omega
            · simp; omega
            intro v9 w9 hown9 hg9 _
            have HEND := Lib.hid (show (L ++ [((⟨tk, tn, tm, tb, ta⟩ : TermV), Value.slice AV nv cv)]).map (·.1) = L.map (·.1) ++ [⟨tk, tn, tm, tb, ta⟩] ∧ OwnT w9 N v9 (L ++ [((⟨tk, tn, tm, tb, ta⟩ : TermV), Value.slice AV nv cv)]) ∧ Below N w w9 ∧ RowAt w9 N 9 (partsC ls) from by
              refine ⟨by simp, ⟨?_, ?_⟩, ?_, ?_⟩
              · rw [tCells_app, List.length_append]
                exact hown9
              · intro p hp
                rcases List.mem_append.1 hp with h | h
                · exact acc_kept (ow8.acc p h) ow8.own hg9
                · rw [List.mem_singleton.1 h]
                  exact acc_kept o88 ow8.own hg9
              · exact ((HBW2.out.trans (HB3'.mono (by omega))).trans (b8.mono (by omega))).grown hg9 (by simp; omega) (fun j e => (World.ownsRow.lt ow8.own j e).1)
              · have hr8 : RowAt (W3.alloc (.cells #[.int .i64 tk, .int .i64 tn, .int .i64 tm, .int .i64 tb, .slice AV nv cv] 28)) N 9 (partsC ls) := (HROW2.out.below HB3' hN2).alloc _
                refine (hg9.block N hr8.lt fun e => ?_).trans hr8
                rcases ow8.own.2 with ⟨h1, _⟩ | ⟨g, cap, cur, h1, _, hh, _⟩
                · rw [h1] at e; simp [Value.ownBlock] at e
                · rw [h1] at e
                  simp [Value.ownBlock] at e
                  subst e
                  unfold RowAt at hr8
                  rw [hr8] at hh
                  simp at hh)
            clear hown9 hg9 ow8 o88 b8 hi hz0 hz1 hz2 HR3' HB3'
            go_wp2_with fail
            go_roundw
            case rel => exact ⟨k + 1, _, by go_num, by omega, Lib.hid ⟨by rw [HEND.out.1]; exact HNX2.out, by simp; omega, HEND.out.2.1, HEND.out.2.2.2, HEND.out.2.2.1⟩⟩
            case measure => simp [intOf]; omega
          · have HNX2 : Hid (P0 = ([], k + 1, false)) := Lib.hid (HNX.out.trans (if_neg (by rw [List.length_map]; exact hgood)))
            have hfin : Hid (ParseEnd w P0 (.returned (.tuple #[.slice none 0 0, .int .i64 ((k : Int) + 1), .int .i64 140])) (w2.alloc (.cells #[.int .i64 tk, .int .i64 tn, .int .i64 tm, .int .i64 tb, .slice AV nv cv] 28))) := Lib.hid (by
              rw [HNX2.out]
              exact ⟨.slice none 0 0, [], by simp [errI], rfl, OwnT.nil _ _, by rw [HNN.out]; exact HBW2.out.trans (HB3.out.mono (by omega))⟩)
            cases okk
            · clear hgood
              go_wp2_with ((with_reducible refine store_term (o := ⟨none, .store _ _ _, _, _, _, _⟩) (.tmp 8) (.tmp 31) ⟨tk, tn, tm, tb, ta⟩ (.slice AV nv cv) _ HC.out ?_ ?_ ?_ ?_ ?_ ?_); rfl; rfl; rfl; rfl; rfl)
              rw [Exit.noGoto_ret]
              go_ret3
              exact hfin.out
            · have d20 : ((L.length : Int) == 20) = true := by rw [beq_iff_eq]; simp at hgood; omega
              clear hgood
              go_wp2_with ((with_reducible refine store_term (o := ⟨none, .store _ _ _, _, _, _, _⟩) (.tmp 8) (.tmp 31) ⟨tk, tn, tm, tb, ta⟩ (.slice AV nv cv) _ HC.out ?_ ?_ ?_ ?_ ?_ ?_); rfl; rfl; rfl; rfl; rfl)
              rw [Exit.noGoto_ret]
              go_ret3
              exact hfin.out
      · obtain rfl : k = n := by omega
        have HFIN : Hid (P0 = (L.map (·.1), 0, true)) := Lib.hid (by rw [HGO.out, List.drop_eq_nil_of_le (by rw [HLN.out]; exact Nat.le_refl _)]; rfl)
        clear hrow
        go_wp2_with fail
        rw [Exit.noGoto_ret]
        go_ret3
        exact ⟨_, L, by rw [HFIN.out]; rfl, by rw [HFIN.out], by rw [HNN.out]; exact HOW.out, by rw [HNN.out]; exact HBW.out⟩
end Go.Proofs.YtfiabonacpepnaaGreatDoor
namespace Go.Proofs.YtfiabonacpepnaaGreatDoor
open Go Go.RowKit Go.Lib Go.Shelf Go.Maps

theorem bld_size : (Tryz.prog.info? 61).map (·.size) = some 2 := by kernel_rfl
theorem byte_info : (Tryz.prog.info? 5).map (fun i => (i.zero, i.size, i.bytes)) = some (some (.int .u8 0), 1, 1) := by kernel_rfl
theorem bld_lies : liesAt Tryz.prog Tryz.prog.depth 61 (2 / Tryz.prog.cellsOf 61) 0 61 1 = true := by kernel_rfl
set_option maxRecDepth 100000 in
set_option maxHeartbeats 1000000 in
theorem check_used (b : Nat) (w : World) (h0 : w.cell? ⟨b, 0, none⟩ = some (.pointer (some ⟨b, 0, none⟩))) :
    Calls Tryz.prog 60 #[.pointer (some ⟨b, 0, none⟩)] w fun e w' => e = .returned (.tuple #[]) ∧ w' = w := by
  obtain ⟨j, hj, _⟩ := Option.map_eq_some_iff.1 bld_size
  go_enter Tryz.func60, Tryz.ntmps60
  go_wp2
  rw [Lib.run_neq_ptr_same w _ Tryz.underlying58 hj]
  go_wp2
  go_end0
  exact ⟨rfl, rfl⟩
set_option maxRecDepth 100000 in
set_option maxHeartbeats 1000000 in
theorem check_fresh (b : Nat) (w : World) (h0 : w.cell? ⟨b, 0, none⟩ = some (.pointer none)) (hsh : w.shape? b = some (61, 2)) (hfz : w.frozen? ⟨b, 0, none⟩ = false) :
    Calls Tryz.prog 60 #[.pointer (some ⟨b, 0, none⟩)] w fun e w' => e = .returned (.tuple #[]) ∧ w' = w.setCell ⟨b, 0, none⟩ (.pointer (some ⟨b, 0, none⟩)) := by
  obtain ⟨j, hj, hjs⟩ := Option.map_eq_some_iff.1 bld_size
  go_enter Tryz.func60, Tryz.ntmps60
  go_wp2
  rw [Lib.run_to_unsafe w ⟨b, 0, none⟩ Tryz.underlying58 Tryz.underlying138 hj (by rw [hjs]; decide) hsh (Nat.zero_lt_succ 1)]
  simp only [Result.andThen]
  rw [Oper.upon_value]
  go_wp2
  rw [run_callFunc_extern Tryz.func82 (by kernel_rfl) (by kernel_rfl) (by kernel_rfl) (e := Extern.AbiNoEscape.same) (by kernel_rfl)]
  rw [Lib.run_noEscape]
  simp only [Result.andThen]
  rw [Oper.upon_value]
  go_wp2
  rw [Lib.run_from_unsafe w ⟨b, 0, none⟩ Tryz.underlying138 Tryz.underlying58 hj hsh bld_lies]
  simp only [Result.andThen]
  rw [Oper.upon_value]
  go_wp2
  go_end0
  exact ⟨rfl, rfl⟩
theorem check_any (B b : Nat) (bs : List Value) (w : World) (h : Lib.IsBuilder 61 5 B b bs w) :
    Calls Tryz.prog 60 #[.pointer (some ⟨b, 0, none⟩)] w fun e w' => e = .returned (.tuple #[]) ∧ Lib.BuilderAt 61 5 B b (.pointer (some ⟨b, 0, none⟩)) bs w' ∧ Below B w w' ∧ ∀ k, k ≠ b → w'.heap[k]? = w.heap[k]? := by
  rcases h with h | h
  · refine (check_fresh b w h.cell0 h.shape h.frozen0).mono ?_
    rintro e w' ⟨rfl, rfl⟩
    exact ⟨rfl, h.used _, (Below.refl B w).setCell (p := ⟨b, 0, none⟩) h.1 _, fun k hk => Below.heap_setCell w ⟨b, 0, none⟩ _ k hk⟩
  · refine (check_used b w h.cell0).mono ?_
    rintro e w' ⟨rfl, rfl⟩
    exact ⟨rfl, h, Below.refl B _, fun _ _ => rfl⟩
set_option maxRecDepth 100000 in
set_option maxHeartbeats 2000000 in
theorem writeString_any (B b : Nat) (bs : List Value) (s : ByteArray) (w : World) (h : Lib.IsBuilder 61 5 B b bs w) (hlen : bs.length + s.size ≤ 140737488355328) (hBw : B ≤ w.heap.size) :
    Calls Tryz.prog 33 #[.pointer (some ⟨b, 0, none⟩), .string s] w fun e w' => e = .returned (.tuple #[.int .i64 s.size, .nilIface]) ∧ Lib.BuilderAt 61 5 B b (.pointer (some ⟨b, 0, none⟩)) (bs ++ Lib.strCells s) w' ∧ Below B w w' ∧ (∀ k cs T fr, k ≠ b → T ≠ 5 → w.heap[k]? = some (.cells cs T fr) → w'.heap[k]? = some (.cells cs T fr)) := by
  obtain ⟨i0, hi, hz0, hz1, hz2⟩ := info_parts byte_info
  go_enter Tryz.func33, Tryz.ntmps33
  go_wp2_with (go_at_call 60; refine (check_any B b bs _ h).mono ?_)
  rintro e w1 ⟨rfl, h1, hb1, hk1⟩
  obtain ⟨hB, v, hbk, hown, hne⟩ := h1
  have c0 : w1.cell? ⟨b, 0, none⟩ = some (.pointer (some ⟨b, 0, none⟩)) := by rw [Lib.cell_of_heap hbk]; rfl
  have c1 : w1.cell? ⟨b, 1, none⟩ = some v := by rw [Lib.cell_of_heap hbk]; rfl
  go_wp2_with (at_builtin; refine Lib.wpList_append_own_string _ rfl _ _ 59 9 rfl B 5 i0 Tryz.underlying59 Tryz.underlying9 hi hz0 hz1 hz2 _ _ _ rfl hown s rfl ?c3 ?c4 ?c5 ?_)
  case c3 => unfold maxLen; omega
  case c4 => omega
  case c5 => have := hb1.size; omega
  intro v' w2 hown' hgrow _
  have hlt : b < w1.heap.size := (Array.getElem?_eq_some_iff.1 hbk).1
  have hb2 : w2.heap[b]? = some (.cells #[.pointer (some ⟨b, 0, none⟩), v] 61 (0, 0)) := by
    rw [hgrow.block b hlt (fun e => hne e.symm)]
    exact hbk
  have d0 : w2.cell? ⟨b, 0, none⟩ = some (.pointer (some ⟨b, 0, none⟩)) := by rw [Lib.cell_of_heap hb2]; rfl
  have d1 : w2.cell? ⟨b, 1, none⟩ = some v := by rw [Lib.cell_of_heap hb2]; rfl
  have f1 : w2.frozen? ⟨b, 1, none⟩ = false := Lib.frozen_of_heap hb2 1
  obtain ⟨ao, n', cap, rfl⟩ : ∃ ao n' cap, v' = .slice ao n' cap := by
    rcases hown'.2 with ⟨hv, _⟩ | ⟨g, cap, cur, hv, _⟩
    · exact ⟨_, _, _, hv⟩
    · exact ⟨_, _, _, hv⟩
  go_wp2
  go_ret2
  refine ⟨rfl, ?_, ?_, ?_⟩
  · exact Lib.BuilderAt.put (T := 61) (e := 5) hB hb2 (bs' := bs ++ Lib.strCells s) (by simpa [Lib.strCells_length] using hown') (by decide)
  · exact (hb1.grown hgrow (by have := hb1.size; omega) (fun k hk => (hown.lt k hk).1)).setCell (p := ⟨b, 1, none⟩) hB _
  · intro k cs T fr hkb hT hk
    have h1 := (hk1 k hkb).trans hk
    have h2 := (hgrow.block k (Array.getElem?_eq_some_iff.1 h1).1 (fun e => Lib.ownBlock_ne hown h1 hT e.symm)).trans h1
    exact (Below.heap_setCell w2 ⟨b, 1, none⟩ _ k hkb).trans h2
set_option maxRecDepth 100000 in
set_option maxHeartbeats 2000000 in
theorem writeByte_any (B b : Nat) (bs : List Value) (x : Int) (w : World) (h : Lib.IsBuilder 61 5 B b bs w) (hlen : bs.length + 1 ≤ 140737488355328) (hBw : B ≤ w.heap.size) :
    Calls Tryz.prog 35 #[.pointer (some ⟨b, 0, none⟩), .int .u8 x] w fun e w' => e = .returned .nilIface ∧ Lib.BuilderAt 61 5 B b (.pointer (some ⟨b, 0, none⟩)) (bs ++ [.int .u8 x]) w' ∧ Below B w w' ∧ ∀ k cs T fr, k ≠ b → T ≠ 5 → w.heap[k]? = some (.cells cs T fr) → w'.heap[k]? = some (.cells cs T fr) := by
  obtain ⟨i0, hi, hz0, hz1, hz2⟩ := info_parts byte_info
  go_enter Tryz.func35, Tryz.ntmps35
  go_wp2_with (go_at_call 60; refine (check_any B b bs _ h).mono ?_)
  rintro e w1 ⟨rfl, h1, hb1, hk1⟩
  obtain ⟨hB, v, hbk, hown, hne⟩ := h1
  have c0 : w1.cell? ⟨b, 0, none⟩ = some (.pointer (some ⟨b, 0, none⟩)) := by rw [Lib.cell_of_heap hbk]; rfl
  have c1 : w1.cell? ⟨b, 1, none⟩ = some v := by rw [Lib.cell_of_heap hbk]; rfl
  go_wp2_with ((with_reducible refine wpList_stop (o := ⟨some 14, _, _, _, _, _⟩) ?_))
  unfold Stop
  have ow8 := hown.alloc (.cells #[.int .u8 x] 5)
  refine wpList_append_own _ rfl (.tmp 11) (.tmp 13) 59 rfl B 5 i0 _ 1 1 Tryz.underlying59 hi hz0 hz1 hz2 rfl (by decide) v _ _ rfl ow8 ⟨w1.heap.size, 0, none⟩ 1 1 [.int .u8 x] rfl rfl ?_ ?_ ?_ ?_ ?_ ?_
  · intro j u hj
    rw [addr_add, (RowAt.new w1 5 #[.int .u8 x]).cell j, ← hj]
    simp
  · intro u hu
    simp at hu
    subst hu
    rfl
  · unfold maxLen; omega
  · omega
  · have := hb1.size; simp; omega
  intro v' w2 hown' hgrow _
  have hlt : b < w1.heap.size := (Array.getElem?_eq_some_iff.1 hbk).1
  have hb2 : w2.heap[b]? = some (.cells #[.pointer (some ⟨b, 0, none⟩), v] 61 (0, 0)) := by
    rw [hgrow.block b (by simp; omega) (fun e => hne e.symm), Below.heap_alloc w1 _ b hlt]
    exact hbk
  have d0 : w2.cell? ⟨b, 0, none⟩ = some (.pointer (some ⟨b, 0, none⟩)) := by rw [Lib.cell_of_heap hb2]; rfl
  have d1 : w2.cell? ⟨b, 1, none⟩ = some v := by rw [Lib.cell_of_heap hb2]; rfl
  have f1 : w2.frozen? ⟨b, 1, none⟩ = false := Lib.frozen_of_heap hb2 1
  obtain ⟨ao, n', cap, rfl⟩ : ∃ ao n' cap, v' = .slice ao n' cap := by
    rcases hown'.2 with ⟨hv, _⟩ | ⟨g, cap, cur, hv, _⟩
    · exact ⟨_, _, _, hv⟩
    · exact ⟨_, _, _, hv⟩
  go_wp2
  go_ret
  refine ⟨rfl, ?_, ?_, ?_⟩
  · exact Lib.BuilderAt.put (T := 61) (e := 5) hB hb2 (bs' := bs ++ [.int .u8 x]) (by simpa using hown') (by decide)
  · exact ((hb1.alloc (by have := hb1.size; omega) _).grown hgrow (by have := hb1.size; simp; omega) (fun k hk => (hown.lt k hk).1)).setCell (p := ⟨b, 1, none⟩) hB _
  · intro k cs T fr hkb hT hk
    have h1 := (hk1 k hkb).trans hk
    have h1a := (Below.heap_alloc w1 (.cells #[.int .u8 x] 5) k (Array.getElem?_eq_some_iff.1 h1).1).trans h1
    have h2 := (hgrow.block k (Array.getElem?_eq_some_iff.1 h1a).1 (fun e => Lib.ownBlock_ne hown h1 hT e.symm)).trans h1a
    exact (Below.heap_setCell w2 ⟨b, 1, none⟩ _ k hkb).trans h2
theorem bldAt_below {T e : TypeId} {B b : Nat} {p : Value} {bs : List Value} {w w' : World} (h : Lib.BuilderAt T e B b p bs w) (hb : Below w.heap.size w w') : Lib.BuilderAt T e B b p bs w' := by
  obtain ⟨hB, v, hbk, hown, hne⟩ := h
  refine ⟨hB, v, (hb.block b (Array.getElem?_eq_some_iff.1 hbk).1).trans hbk, ⟨hown.1, ?_⟩, hne⟩
  rcases hown.2 with h0 | ⟨g, cap, cur, hv, hbg, hg, rest⟩
  · exact .inl h0
  · exact .inr ⟨g, cap, cur, hv, hbg, (hb.block g (Array.getElem?_eq_some_iff.1 hg).1).trans hg, rest⟩
theorem bld_below {T e : TypeId} {B b : Nat} {bs : List Value} {w w' : World} (h : Lib.IsBuilder T e B b bs w) (hb : Below w.heap.size w w') : Lib.IsBuilder T e B b bs w' :=
  h.elim (fun h => .inl (bldAt_below h hb)) (fun h => .inr (bldAt_below h hb))
end Go.Proofs.YtfiabonacpepnaaGreatDoor
namespace Go.Proofs.YtfiabonacpepnaaGreatDoor
open Go Go.RowKit Go.Lib Go.Shelf Go.Maps

theorem run_str_tail (t : TypeId) (ht : Tryz.prog.underlying t = some .string) (c : UInt8) (r : List UInt8) (w : World) :
    (Instr.slice t (.string ⟨(c :: r).toArray⟩) (some (.int .i64 1)) none none).run Tryz.prog w = .ok (.string ⟨r.toArray⟩) w := by
  have hz : (⟨(c :: r).toArray⟩ : ByteArray).size = r.length + 1 := rfl
  rw [run_slice_string_l w t _ ht .i64 1 (by decide) (by rw [hz]; omega)]
  have e : (⟨(c :: r).toArray⟩ : ByteArray).extract (1 : Int).toNat (⟨(c :: r).toArray⟩ : ByteArray).size = ⟨r.toArray⟩ := by
    rw [hz, extract_eq]
    simp
  rw [e]
theorem ba_app (x y : List UInt8) : (⟨x.toArray⟩ : ByteArray) ++ ⟨y.toArray⟩ = ⟨(x ++ y).toArray⟩ := by
  apply ByteArray.ext
  simp
theorem itoa_any (n : Nat) (w : World) (hK : KAt w) (hn : n < 9223372036854775808) :
    Calls Tryz.prog 64 #[.int .i64 (n : Int)] w fun e w' => e = .returned (strV (decDigits n)) ∧ Below w.heap.size w w' := by
  refine (Tryz.strconv_Itoa (n : Int) (by omega) (by omega) w hK.tab).mono ?_
  rintro e w' ⟨he, k, os, hw⟩
  refine ⟨?_, ?_⟩
  · rw [he]
    unfold itoa strV
    rw [if_neg (by omega)]
    simp
  · rw [hw]
    exact below_grow _ _ (Nat.le_refl _) _ _
set_option maxRecDepth 100000 in
set_option maxHeartbeats 4000000 in
theorem percent_any (n : Nat) (w : World) (hK : KAt w) (hn : n < 1000000000000000) :
    Calls Tryz.prog 63 #[.int .i64 (n : Int)] w fun e w' => e = .returned (strV (pctL n)) ∧ Below w.heap.size w w' := by
  have I1 := Lib.hid (fun W (h : KAt W) => itoa_any (n / 10000) W h (by omega))
  have HK := Lib.hid hK
  obtain ⟨q, hq⟩ : ∃ q, n / 10000 = q := ⟨_, rfl⟩
  obtain ⟨r, hr⟩ : ∃ r, n % 10000 = r := ⟨_, rfl⟩
  have hq2 : (n : Int).tdiv 10000 = (q : Int) := by rw [← hq]; exact Int.ofNat_tdiv n 10000 |>.symm
  have hr2 : (n : Int).tmod 10000 = (r : Int) := by rw [← hr]; exact Int.ofNat_tmod n 10000 |>.symm
  have hq3 : (n : Int) / 10000 = (q : Int) := by omega
  have hr3 : (n : Int) % 10000 = (r : Int) := by omega
  have hrb : r < 10000 := by omega
  have HP : Hid (pctL n = decDigits q ++ (if r = 0 then [] else 46 :: fracL r) ++ [37]) := Lib.hid (by unfold pctL; rw [hq, hr])
  rw [hq] at I1
  have hlq : (decDigits q).length ≤ 16 := dec_len 15 q (by omega)
  obtain ⟨D, hD⟩ : ∃ D, decDigits q = D := ⟨_, rfl⟩
  rw [hD] at I1 HP hlq
  have I2 := Lib.hid (fun W (h : KAt W) => itoa_any (10000 + r) W h (by omega))
  rw [dec_pad hrb] at I2
  obtain ⟨m, hm⟩ : ∃ m, 10000 + r = m := ⟨_, rfl⟩
  rw [hm] at I2
  have e1 : (10000 : Int) + (r : Int) = (m : Int) := by omega
  have hpl : (pad4 r).length = 4 := rfl
  have hpt := fun W => run_str_tail 9 Tryz.underlying9 49 (pad4 r) W
  have T1 := Lib.hid (fun W => Tryz.strings_TrimRight_one ⟨(pad4 r).toArray⟩ 48 (by decide) W (by show (pad4 r).length ≤ _; rw [hpl]; decide))
  have T2 : Hid (∀ W, Calls Tryz.prog 84 #[.string ⟨(pad4 r).toArray⟩, .string ⟨#[48]⟩] W fun e w' => e = .returned (.string ⟨(fracL r).toArray⟩) ∧ W = w') := Lib.hid (fun W => (T1.out W).mono fun e w' ⟨h1, h2⟩ => ⟨h1, h2.symm⟩)
  have hlf : (fracL r).length ≤ 4 := by
    have := trim_spec (pad4 r) 48
    obtain ⟨j, h1, _⟩ := this
    have h2 := congrArg List.length h1
    rw [List.length_append, hpl] at h2
    show (trimRightB (pad4 r) 48).length ≤ 4
    omega
  obtain ⟨F, hF⟩ : ∃ F, fracL r = F := ⟨_, rfl⟩
  obtain ⟨P, hP⟩ : ∃ F, pad4 r = F := ⟨_, rfl⟩
  rw [hF] at T2 HP hlf
  rw [hP] at I2 hpt T2
  have a1 := fun W => run_str_add 9 [46] F (by decide) (by omega) W
  have a2 := fun W => run_str_add 9 D ([46] ++ F) (by omega) (by simp; omega) W
  have a3 := fun W => run_str_add 9 (D ++ ([46] ++ F)) [37] (by simp; omega) (by decide) W
  have a4 := fun W => run_str_add 9 D [37] (by omega) (by decide) W
  have hrb2 : (r : Int) < 10000 := by omega
  clear hq hr hD hF hP T1 hK hpl hm
  unfold strV at I1 I2 ⊢
  by_cases h0 : r = 0
  · have d0 : decide (0 < (r : Int)) = false := by simp; omega
    have d1 : decide (0 < r) = false := by simp; omega
    rw [if_pos h0, List.append_nil] at HP
    clear h0
    go_enter Tryz.func63, Tryz.ntmps63
    go_wp2_with fail
    refine (I1.out _ HK.out).mono ?_
    rintro e w1 ⟨rfl, hb1⟩
    have HB1 := Lib.hid hb1
    clear hb1
    go_wp2_with fail
    go_ret
    exact ⟨by rw [HP.out]; rfl, HB1.out⟩
  · have d0 : decide (0 < (r : Int)) = true := by simp; omega
    have d1 : decide (0 < r) = true := by simp; omega
    rw [if_neg h0] at HP
    clear h0
    go_enter Tryz.func63, Tryz.ntmps63
    go_wp2_with fail
    refine (I1.out _ HK.out).mono ?_
    rintro e w1 ⟨rfl, hb1⟩
    have HB1 := Lib.hid hb1
    have HK1 := Lib.hid (HK.out.mono hb1)
    clear hb1
    go_wp2_with fail
    refine (I2.out _ HK1.out).mono ?_
    rintro e w2 ⟨rfl, hb2⟩
    have HB2 := Lib.hid (HB1.out.trans (hb2.mono HB1.out.size))
    clear hb2
    go_wp2_with fail
    refine (T2.out _).mono ?_
    rintro e w3 ⟨rfl, rfl⟩
    go_wp2_with fail
    go_ret
    refine ⟨?_, HB2.out⟩
    rw [HP.out]
    have e : (⟨D.toArray⟩ : ByteArray) ++ ((⟨[46].toArray⟩ : ByteArray) ++ ⟨F.toArray⟩) ++ ⟨[37].toArray⟩ = ⟨(D ++ 46 :: F ++ [37]).toArray⟩ := by
      rw [ba_app, ba_app, ba_app]
      simp
    exact congrArg (fun x => Ending.returned (.string x)) e
end Go.Proofs.YtfiabonacpepnaaGreatDoor
