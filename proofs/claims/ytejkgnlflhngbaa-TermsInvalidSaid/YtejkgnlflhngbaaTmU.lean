/- pick, open and some of the statements' package. -/
import Derived.Test.YtejkgnlflhngbaaTmT
namespace Go.Proofs.Ytejkgnlflhngbaa
open Go Go.RowKit Go.Lib Go.Shelf Go.Maps

def pickN (c n : Int) : Int := (if c < 0 then -(c + 1) else c) % n
theorem pickN_bd (c n : Int) (hn : 1 ≤ n) : 0 ≤ pickN c n ∧ pickN c n < n := by
  unfold pickN; exact ⟨Int.emod_nonneg _ (by omega), Int.emod_lt_of_pos _ (by omega)⟩

set_option maxHeartbeats 400000 in
theorem pick_any (c n : Int) (w : World) (h1 : -9223372036854775808 ≤ c) (h2 : c ≤ 9223372036854775807) (hn : 1 ≤ n) (hn2 : n ≤ 9223372036854775807) :
    Calls Try.prog 13 #[.int .i64 c, .int .i64 n] w fun e w' => e = .returned (.int .i64 (pickN c n)) ∧ w = w' := by
  by_cases hc : c < 0
  · have e : pickN c n = -(c + 1).tmod n := by
      unfold pickN; rw [if_pos hc, ← Int.neg_tmod, Int.tmod_eq_emod_of_nonneg (by omega)]
    have H := Lib.hid e; clear e
    go_enter Try.func13, Try.ntmps13
    go_wp2
    go_ret
    exact ⟨by rw [H.out]; rfl, rfl⟩
  · have e : pickN c n = c % n := by unfold pickN; rw [if_neg hc]
    have H := Lib.hid e; clear e
    go_enter Try.func13, Try.ntmps13
    go_wp2
    go_ret
    exact ⟨by rw [H.out]; rfl, rfl⟩
/-- the row that open returns -/
def openRow (x0 x1 x2 x3 h p : Int) : RowV := ⟨h, pickN p 1200, pickN x0 1000000000000001, pickN x1 100000001, pickN x2 100000001, pickN x3 100001⟩
theorem openRow_open (x0 x1 x2 x3 h p : Int) : openR (openRow x0 x1 x2 x3 h p) = true := by
  rw [openR_iff]
  unfold openRow RowV.sum
  dsimp only
  have a0 := pickN_bd x0 1000000000000001 (by omega)
  have a1 := pickN_bd x1 100000001 (by omega)
  have a2 := pickN_bd x2 100000001 (by omega)
  have a3 := pickN_bd x3 100001 (by omega)
  omega
def I64 (x : Int) : Prop := -9223372036854775808 ≤ x ∧ x ≤ 9223372036854775807
set_option maxRecDepth 100000 in
set_option maxHeartbeats 2000000 in
theorem open_any (x0 x1 x2 x3 h p : Int) (w : World) (b0 : I64 x0) (b1 : I64 x1) (b2 : I64 x2) (b3 : I64 x3) (b4 : I64 p) :
    Calls Try.prog 14 #[.agg #[.int .i64 x0, .int .i64 x1, .int .i64 x2, .int .i64 x3], .int .i64 h, .int .i64 p] w fun e w' => e = .returned (.agg (rowC (openRow x0 x1 x2 x3 h p) 0 0 0 0 0 0)) ∧ Below w.heap.size w w' := by
  unfold openRow rowC
  dsimp only
  have P0 := Lib.hid (fun W => pick_any x0 1000000000000001 W b0.1 b0.2 (by omega) (by omega))
  have P1 := Lib.hid (fun W => pick_any x1 100000001 W b1.1 b1.2 (by omega) (by omega))
  have P2 := Lib.hid (fun W => pick_any x2 100000001 W b2.1 b2.2 (by omega) (by omega))
  have P3 := Lib.hid (fun W => pick_any x3 100001 W b3.1 b3.2 (by omega) (by omega))
  have P4 := Lib.hid (fun W => pick_any p 1200 W b4.1 b4.2 (by omega) (by omega))
  obtain ⟨y0, hy0⟩ : ∃ z, pickN x0 1000000000000001 = z := ⟨_, rfl⟩
  obtain ⟨y1, hy1⟩ : ∃ z, pickN x1 100000001 = z := ⟨_, rfl⟩
  obtain ⟨y2, hy2⟩ : ∃ z, pickN x2 100000001 = z := ⟨_, rfl⟩
  obtain ⟨y3, hy3⟩ : ∃ z, pickN x3 100001 = z := ⟨_, rfl⟩
  obtain ⟨y4, hy4⟩ : ∃ z, pickN p 1200 = z := ⟨_, rfl⟩
  rw [hy0] at P0 ⊢
  rw [hy1] at P1 ⊢
  rw [hy2] at P2 ⊢
  rw [hy3] at P3 ⊢
  rw [hy4] at P4 ⊢
  clear hy0 hy1 hy2 hy3 hy4 b0 b1 b2 b3 b4
  obtain ⟨W, hW⟩ : ∃ z, (w.alloc (.cells #[.int .i64 x0, .int .i64 x1, .int .i64 x2, .int .i64 x3] 25)).alloc (.cells #[.int .i64 0, .int .i64 0, .int .i64 0, .int .i64 0, .int .i64 0, .int .i64 0, .int .i64 0, .int .i64 0, .int .i64 0, .int .i64 0, .int .i64 0, .int .i64 0] 24) = z := ⟨_, rfl⟩
  have r3 : RowAt W w.heap.size 25 #[.int .i64 x0, .int .i64 x1, .int .i64 x2, .int .i64 x3] := by rw [← hW]; exact (RowAt.new w _ _).alloc _
  have r6 : RowAt W (w.heap.size + 1) 24 #[.int .i64 0, .int .i64 0, .int .i64 0, .int .i64 0, .int .i64 0, .int .i64 0, .int .i64 0, .int .i64 0, .int .i64 0, .int .i64 0, .int .i64 0, .int .i64 0] := by
    rw [← hW]
    have := RowAt.new (w.alloc (.cells #[.int .i64 x0, .int .i64 x1, .int .i64 x2, .int .i64 x3] 25)) 24 #[.int .i64 0, .int .i64 0, .int .i64 0, .int .i64 0, .int .i64 0, .int .i64 0, .int .i64 0, .int .i64 0, .int .i64 0, .int .i64 0, .int .i64 0, .int .i64 0]
    simpa using this
  have hbW : Below w.heap.size w W := by rw [← hW]; exact ((Below.refl _ _).alloc (Nat.le_refl _) _).alloc (by simp) _
  have HR6 := Lib.hid r6
  have HBW := Lib.hid hbW
  have cc : W.cell? ⟨w.heap.size, 0, none⟩ = some (.int .i64 x0) ∧ W.cell? ⟨w.heap.size, 1, none⟩ = some (.int .i64 x1) ∧ W.cell? ⟨w.heap.size, 2, none⟩ = some (.int .i64 x2) ∧ W.cell? ⟨w.heap.size, 3, none⟩ = some (.int .i64 x3) := ⟨r3.cell 0, r3.cell 1, r3.cell 2, r3.cell 3⟩
  have CC := Lib.hid cc
  clear r3 r6 hbW cc
  go_enter Try.func14, Try.ntmps14
  go_wp2_with fail
  clear hW
  refine wp_region_held_drew (S := fun W' => W'.cell? ⟨w.heap.size, 0, none⟩ = some (.int .i64 x0) ∧ W'.cell? ⟨w.heap.size, 1, none⟩ = some (.int .i64 x1) ∧ W'.cell? ⟨w.heap.size, 2, none⟩ = some (.int .i64 x2) ∧ W'.cell? ⟨w.heap.size, 3, none⟩ = some (.int .i64 x3)) (by kernel_rfl) CC.out (fun hHeld => ?_)
  refine wpAnyH_take (i := 0) (oi := ⟨_, _, _, _, _, _⟩) (v := ?_) rfl (by kernel_rfl) (by kernel_rfl) (by kernel_rfl) (fun _ _ _ h => h) (Or.inl ⟨by rfl, ?_⟩) (by assumption) ?_
  rotate_left
  · intro w hSw
    go_simp
    all_goals with_reducible rfl
  simp only [Act.put, List.setIfInBounds_toArray, List.set_cons_zero, List.set_cons_succ]
  refine wpAnyH_take (i := 1) (oi := ⟨_, _, _, _, _, _⟩) (v := ?_) rfl (by kernel_rfl) (by kernel_rfl) (by kernel_rfl) (fun _ _ _ h => h) (Or.inl ⟨by rfl, ?_⟩) (by assumption) ?_
  rotate_left
  · intro w hSw
    go_simp
    all_goals with_reducible rfl
  simp only [Act.put, List.setIfInBounds_toArray, List.set_cons_zero, List.set_cons_succ]
  refine wpAnyH_take (i := 3) (oi := ⟨_, _, _, _, _, _⟩) (v := ?_) rfl (by kernel_rfl) (by kernel_rfl) (by kernel_rfl) (fun _ _ _ h => h) (Or.inl ⟨by rfl, ?_⟩) (by assumption) ?_
  rotate_left
  · intro w hSw
    go_simp
    all_goals with_reducible rfl
  simp only [Act.put, List.setIfInBounds_toArray, List.set_cons_zero, List.set_cons_succ]
  refine wpAnyH_take (i := 4) (oi := ⟨_, _, _, _, _, _⟩) (v := ?_) rfl (by kernel_rfl) (by kernel_rfl) (by kernel_rfl) (fun _ _ _ h => h) (Or.inl ⟨by rfl, ?_⟩) (by assumption) ?_
  rotate_left
  · intro w hSw
    obtain ⟨hc0, hc1, hc2, hc3⟩ := hSw
    go_simp
    all_goals with_reducible rfl
  simp only [Act.put, List.setIfInBounds_toArray, List.set_cons_zero, List.set_cons_succ]
  refine wpAnyH_take (i := 6) (oi := ⟨_, _, _, _, _, _⟩) (v := ?_) rfl (by kernel_rfl) (by kernel_rfl) (by kernel_rfl) (fun _ _ _ h => h) (Or.inl ⟨by rfl, ?_⟩) (by assumption) ?_
  rotate_left
  · intro w hSw
    go_simp
    all_goals with_reducible rfl
  simp only [Act.put, List.setIfInBounds_toArray, List.set_cons_zero, List.set_cons_succ]
  refine wpAnyH_take (i := 7) (oi := ⟨_, _, _, _, _, _⟩) (v := ?_) rfl (by kernel_rfl) (by kernel_rfl) (by kernel_rfl) (fun _ _ _ h => h) (Or.inl ⟨by rfl, ?_⟩) (by assumption) ?_
  rotate_left
  · intro w hSw
    obtain ⟨hc0, hc1, hc2, hc3⟩ := hSw
    go_simp
    all_goals with_reducible rfl
  simp only [Act.put, List.setIfInBounds_toArray, List.set_cons_zero, List.set_cons_succ]
  refine wpAnyH_take (i := 9) (oi := ⟨_, _, _, _, _, _⟩) (v := ?_) rfl (by kernel_rfl) (by kernel_rfl) (by kernel_rfl) (fun _ _ _ h => h) (Or.inl ⟨by rfl, ?_⟩) (by assumption) ?_
  rotate_left
  · intro w hSw
    go_simp
    all_goals with_reducible rfl
  simp only [Act.put, List.setIfInBounds_toArray, List.set_cons_zero, List.set_cons_succ]
  refine wpAnyH_take (i := 10) (oi := ⟨_, _, _, _, _, _⟩) (v := ?_) rfl (by kernel_rfl) (by kernel_rfl) (by kernel_rfl) (fun _ _ _ h => h) (Or.inl ⟨by rfl, ?_⟩) (by assumption) ?_
  rotate_left
  · intro w hSw
    obtain ⟨hc0, hc1, hc2, hc3⟩ := hSw
    go_simp
    all_goals with_reducible rfl
  simp only [Act.put, List.setIfInBounds_toArray, List.set_cons_zero, List.set_cons_succ]
  refine wpAnyH_take (i := 12) (oi := ⟨_, _, _, _, _, _⟩) (v := ?_) rfl (by kernel_rfl) (by kernel_rfl) (by kernel_rfl) (fun _ _ _ h => h) (Or.inl ⟨by rfl, ?_⟩) (by assumption) ?_
  rotate_left
  · intro w hSw
    go_simp
    all_goals with_reducible rfl
  simp only [Act.put, List.setIfInBounds_toArray, List.set_cons_zero, List.set_cons_succ]
  refine wpAnyH_take (i := 13) (oi := ⟨_, _, _, _, _, _⟩) (v := ?_) rfl (by kernel_rfl) (by kernel_rfl) (by kernel_rfl) (fun _ _ _ h => h) (Or.inl ⟨by rfl, ?_⟩) (by assumption) ?_
  rotate_left
  · intro w hSw
    obtain ⟨hc0, hc1, hc2, hc3⟩ := hSw
    go_simp
    all_goals with_reducible rfl
  simp only [Act.put, List.setIfInBounds_toArray, List.set_cons_zero, List.set_cons_succ]
  refine wpAnyH_ready (rs := [2]) (by kernel_rfl) (by simp) ?_
  refine AllReadyH.cons (o := ⟨_, _, _, _, _, _⟩) rfl (fun K hK => ?_) AllReadyH.nil
  go_simp
  go_at_call 13
  refine (P4.out _).mono ?_
  rintro e w' ⟨rfl, rfl⟩
  go_wp2_with fail
  refine hK.out _ _ (by assumption) (fun hHeld => ?_)
  clear hK K
  try simp only [Act.put, List.setIfInBounds_toArray, List.set_cons_zero, List.set_cons_succ]
  refine wpAnyH_ready (rs := [5]) (by kernel_rfl) (by simp) ?_
  refine AllReadyH.cons (o := ⟨_, _, _, _, _, _⟩) rfl (fun K hK => ?_) AllReadyH.nil
  go_simp
  go_at_call 13
  refine (P0.out _).mono ?_
  rintro e w' ⟨rfl, rfl⟩
  go_wp2_with fail
  refine hK.out _ _ (by assumption) (fun hHeld => ?_)
  clear hK K
  try simp only [Act.put, List.setIfInBounds_toArray, List.set_cons_zero, List.set_cons_succ]
  refine wpAnyH_ready (rs := [8]) (by kernel_rfl) (by simp) ?_
  refine AllReadyH.cons (o := ⟨_, _, _, _, _, _⟩) rfl (fun K hK => ?_) AllReadyH.nil
  go_simp
  go_at_call 13
  refine (P1.out _).mono ?_
  rintro e w' ⟨rfl, rfl⟩
  go_wp2_with fail
  refine hK.out _ _ (by assumption) (fun hHeld => ?_)
  clear hK K
  try simp only [Act.put, List.setIfInBounds_toArray, List.set_cons_zero, List.set_cons_succ]
  refine wpAnyH_ready (rs := [11]) (by kernel_rfl) (by simp) ?_
  refine AllReadyH.cons (o := ⟨_, _, _, _, _, _⟩) rfl (fun K hK => ?_) AllReadyH.nil
  go_simp
  go_at_call 13
  refine (P2.out _).mono ?_
  rintro e w' ⟨rfl, rfl⟩
  go_wp2_with fail
  refine hK.out _ _ (by assumption) (fun hHeld => ?_)
  clear hK K
  try simp only [Act.put, List.setIfInBounds_toArray, List.set_cons_zero, List.set_cons_succ]
  refine wpAnyH_ready (rs := [14]) (by kernel_rfl) (by simp) ?_
  refine AllReadyH.cons (o := ⟨_, _, _, _, _, _⟩) rfl (fun K hK => ?_) AllReadyH.nil
  go_simp
  go_at_call 13
  refine (P3.out _).mono ?_
  rintro e w' ⟨rfl, rfl⟩
  go_wp2_with fail
  refine hK.out _ _ (by assumption) (fun hHeld => ?_)
  clear hK K
  try simp only [Act.put, List.setIfInBounds_toArray, List.set_cons_zero, List.set_cons_succ]
  refine wpAnyH_take (i := 15) (oi := ⟨_, _, _, _, _, _⟩) (v := ?_) rfl (by kernel_rfl) (by kernel_rfl) (by kernel_rfl) (fun _ _ _ h => h) (Or.inl ⟨by rfl, ?_⟩) (by assumption) ?_
  rotate_left
  · intro w hSw
    go_simp
    all_goals with_reducible rfl
  simp only [Act.put, List.setIfInBounds_toArray, List.set_cons_zero, List.set_cons_succ]
  refine wpAnyH_ready (rs := [16]) (by kernel_rfl) (by simp) ?_
  refine AllReadyH.cons (o := ⟨_, _, _, _, _, _⟩) rfl (fun K hK => ?_) AllReadyH.nil
  rw [if_pos (by rfl)]
  refine wp_store_row 24 (.tmp 6) (.tmp 22) rfl (w.heap.size + 1) #[.int .i64 h, .int .i64 y4, .int .i64 y0, .int .i64 y1, .int .i64 y2, .int .i64 y3, .int .i64 0, .int .i64 0, .int .i64 0, .int .i64 0, .int .i64 0, .int .i64 0] rfl rfl 24 #[.int .i64 0, .int .i64 0, .int .i64 0, .int .i64 0, .int .i64 0, .int .i64 0, .int .i64 0, .int .i64 0, .int .i64 0, .int .i64 0, .int .i64 0, .int .i64 0] HR6.out (by kernel_rfl) rfl (by kernel_rfl) ?_
  refine hK.out _ _ (by obtain ⟨a0, a1, a2, a3⟩ := hHeld; exact ⟨(cell_same (setRow_other (by omega))).trans a0, (cell_same (setRow_other (by omega))).trans a1, (cell_same (setRow_other (by omega))).trans a2, (cell_same (setRow_other (by omega))).trans a3⟩) (fun hHeld => ?_)
  clear hK K
  simp only [Act.put]

  refine wpAnyH_done (by kernel_rfl) ?_ _
  clear hHeld
  go_wp2_with fail
  exact bodyPost_ret (results_cell_row rfl _ _ (w.heap.size + 1) _ #[.int .i64 h, .int .i64 y4, .int .i64 y0, .int .i64 y1, .int .i64 y2, .int .i64 y3, .int .i64 0, .int .i64 0, .int .i64 0, .int .i64 0, .int .i64 0, .int .i64 0] _ _ rfl (setRow_same HR6.out) Try.underlying24 rfl (by kernel_rfl)) rfl ⟨rfl, below_setRow HBW.out.drew (by omega)⟩
theorem take_rows {k : Nat} {w : World} {A : Option Addr} {n c : Nat} {L : List (List Int)} (h : IRows k w (.slice A n c) L) (m : Nat) (hm : m ≤ n) : IRows k w (.slice A m c) (L.take m) := by
  refine ⟨fun r hr => h.1 r (List.mem_of_mem_take hr), ?_⟩
  rcases h.2 with ⟨rfl, A', c', e⟩ | ⟨b, o, c', e, hlt, hc⟩
  · simp only [Value.slice.injEq] at e
    have : m = 0 := by omega
    subst this
    exact .inl ⟨rfl, A, c, rfl⟩
  · simp only [Value.slice.injEq] at e
    obtain ⟨rfl, rfl, rfl⟩ := e
    refine .inr ⟨b, o, c, by rw [List.length_take, Nat.min_eq_left hm], hlt, fun i r hr j x hx => hc i r ?_ j x hx⟩
    rw [List.getElem?_take] at hr
    split at hr
    · exact hr
    · cases hr
set_option maxHeartbeats 1000000 in
theorem some_any (A : Option Addr) (n c : Nat) (bs : List (Int × Int)) (w : World) (hv : IRows 2 w (.slice A n c) (bs.map p2)) (hn : bs.length = n) (hl : n ≤ 140737488351232) (hnc : n ≤ c) :
    Calls Try.prog 12 #[.slice A n c] w fun e w' => ∃ v', e = .returned v' ∧ OwnI 46 2 w' w.heap.size v' ((bs.take 12).map p2) ∧ Below w.heap.size w w' := by
  obtain ⟨m, hm⟩ : ∃ m, min n 12 = m := ⟨_, rfl⟩
  have hmn : m ≤ n := by omega
  have hm12 : m ≤ 12 := by omega
  have hmin : (if 12 < (n : Int) then 12 else (n : Int)) = (m : Int) := by split <;> omega
  have hmc : m ≤ c := by omega
  have ht := take_rows hv m hmn
  have htk : (bs.map p2).take m = (bs.take 12).map p2 := by
    rw [← List.map_take]
    rcases Nat.lt_or_ge 12 n with h | h
    · rw [show m = 12 by omega]
    · rw [show m = n by omega, ← hn, List.take_length, List.take_of_length_le (by omega)]
  rw [htk] at ht
  have HT := Lib.hid ht
  clear hv ht htk hn hm
  go_enter Try.func12, Try.ntmps12
  go_wp2_with (first | ((with_reducible refine wpList_build_zero (o := ⟨some 3, _, _, _, _, _⟩) Try.underlying26 balance_info ?_ ?_ ?_); rfl; rfl) | ((with_reducible refine wpList_stop (o := ⟨some 9, _, _, _, _, _⟩) ?_)))
  unfold Stop
  have b1 : Below w.heap.size w (w.alloc (.cells #[] 46)) := (Below.refl _ _).alloc (Nat.le_refl _) _
  refine wpList_append_irows Try.underlying26 balance_info rfl (by decide) (by decide) (.tmp 3) (.tmp 8) w.heap.size [] ((bs.take 12).map p2) _ _ (own_zero _ _ _) (HT.out.below b1) ?_ ?_ ?_ ?_ ?_ ?_ ?_
  · simp; omega
  · simp
  · rfl
  · rfl
  · rfl
  · rfl
  intro v' w2 hown hg
  obtain ⟨A', n', c', rfl⟩ := hown.slice3
  have HO := Lib.hid (show OwnI 46 2 w2 w.heap.size (.slice A' n' c') ((bs.take 12).map p2) from hown)
  have HB := Lib.hid (b1.grown hg (by simp) (fun j e => by simp [Value.ownBlock] at e; omega))
  clear hown hg b1
  go_wp2_with fail
  go_ret
  exact ⟨_, rfl, HO.out, HB.out⟩
end Go.Proofs.Ytejkgnlflhngbaa
