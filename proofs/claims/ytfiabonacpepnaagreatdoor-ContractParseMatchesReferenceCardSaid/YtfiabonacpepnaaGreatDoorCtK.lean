/- pass, tax, reserve, cap. -/
import Derived.Test.YtfiabonacpepnaaGreatDoorCtJ
import Derived.Laws.Rows
namespace Go.Proofs.YtfiabonacpepnaaGreatDoor
open Go Go.RowKit Go.Lib Go.Shelf

theorem setRow_at {w : World} {g : Nat} {cs old : Array Value} {t : TypeId} (h : RowAt w g t old) : RowAt (w.setRow g cs) g t cs := by
  unfold RowAt at h ⊢
  simp [World.setRow, Array.getElem?_modify, h]
theorem setRow_far {w : World} {g k : Nat} {cs : Array Value} (h : k ≠ g) : (w.setRow g cs).heap[k]? = w.heap[k]? := by
  have : ¬ g = k := fun e => h e.symm
  simp [World.setRow, Array.getElem?_modify, this]
theorem setRow_size {w : World} {g : Nat} {cs : Array Value} : (w.setRow g cs).heap.size = w.heap.size := by simp [World.setRow]
theorem results_cell1 {P : Program} {fn : Func} {p : Tmp} {ty : TypeId} (h : fn.results = #[.cell p ty]) (tmps : Array Value) (w : World) (g : Nat) (t : TypeId) (cs : Array Value) (fr : Nat × Nat) (d : TypeDesc)
    (hp : tmps.getD p undef = .pointer (some ⟨g, 0, none⟩)) (hg : w.heap[g]? = some (.cells cs t fr))
    (hu : P.underlying ty = some d) (hd : (match d with | .struct _ | .array _ _ => true | _ => false) = true) (hi : (P.info? ty).map (·.size) = some cs.size) :
    (results fn tmps).run P w = .ok (.agg cs) w := by
  have hp' : tmps[p]?.getD undef = .pointer (some ⟨g, 0, none⟩) := by simpa using hp
  simp [results, h, hp', asAddr, run_loadVar_row w g t ty cs fr d hg hu hd hi]
theorem results_cell_tmp {P : Program} {fn : Func} {p q : Tmp} {ty : TypeId} (h : fn.results = #[.cell p ty, .tmp q]) (tmps : Array Value) (w : World) (g : Nat) (t : TypeId) (cs : Array Value) (fr : Nat × Nat) (d : TypeDesc)
    (hp : tmps.getD p undef = .pointer (some ⟨g, 0, none⟩)) (hg : w.heap[g]? = some (.cells cs t fr))
    (hu : P.underlying ty = some d) (hd : (match d with | .struct _ | .array _ _ => true | _ => false) = true) (hi : (P.info? ty).map (·.size) = some cs.size) :
    (results fn tmps).run P w = .ok (.tuple #[.agg cs, tmps.getD q undef]) w := by
  have hp' : tmps[p]?.getD undef = .pointer (some ⟨g, 0, none⟩) := by simpa using hp
  simp [results, h, hp', asAddr, run_loadVar_row w g t ty cs fr d hg hu hd hi]
theorem load_trow {ops : Array Oper} {rest : List Oper} {o : Oper} {a : Act} {w : World} {Q : Exit → Act → World → Prop} (x : Operand) (g : Nat) (cs : Array Value) (hg : RowAt w g 28 cs) (hs : cs.size = 5)
    (hgd : o.guard = none) (ho : o.op = .load 28 x) (hx : a.eval x = .pointer (some ⟨g, 0, none⟩)) (h : wpList Tryz.prog ops Q rest (a.put o.dst (.agg cs)) w) : wpList Tryz.prog ops Q (o :: rest) a w :=
  wpList_load_row hgd 28 x ho g hx 28 cs (0, 0) _ hg Tryz.underlying28 rfl (by rw [hs]; exact term_size) h
theorem store_trow {ops : Array Oper} {rest : List Oper} {o : Oper} {a : Act} {w : World} {Q : Exit → Act → World → Prop} (x y : Operand) (g : Nat) (cs old : Array Value) (hg : RowAt w g 28 old) (hs : cs.size = 5) (hold : old.size = 5)
    (h1 : cs.all (·.oneCell') = true) (hgd : o.guard = none) (ho : o.op = .store 28 x y) (hx : a.eval x = .pointer (some ⟨g, 0, none⟩)) (hy : a.eval y = .agg cs)
    (h : wpList Tryz.prog ops Q rest (a.put o.dst undef) (w.setRow g cs)) : wpList Tryz.prog ops Q (o :: rest) a w :=
  wpList_store_row hgd 28 x y ho g cs hx hy 28 old hg (by rw [hs]; exact term_size) (by rw [hs]; exact hold) h1 h
/-- the zero term's cells -/
def zC : Array Value := #[.int .i64 0, .int .i64 0, .int .i64 0, .int .i64 0, .slice none 0 0]
/-- what a form returns -/
def FormEnd (w : World) (b : Nat) (p : TermV × Rd) (e : Ending) (w' : World) : Prop :=
  ∃ va, e = .returned (.agg (termC p.1 va)) ∧ OwnI 3 1 w' w.heap.size va (p.1.acc.map fun a => [a]) ∧ RdAt w' b p.2 ∧ w.grownBy w' (some b)
theorem RowAt.grown {w w' : World} {g b : Nat} {T : TypeId} {cs : Array Value} (h : RowAt w g T cs) (hg : w.grownBy w' (some b)) (hne : g ≠ b) : RowAt w' g T cs :=
  (hg.block g h.lt (by intro e; cases e; exact hne rfl)).trans h
theorem KAt.alloc {w : World} (h : KAt w) (o : Obj) : KAt (w.alloc o) := h.mono ((Below.refl _ _).alloc (Nat.le_refl _) _)
theorem RdAt.alloc {w : World} {b : Nat} {r : Rd} (h : RdAt w b r) (o : Obj) : RdAt (w.alloc o) b r := h.below ((Below.refl w.heap.size w).alloc (Nat.le_refl _) _) h.lt
theorem grown_alloc (w : World) (o : Obj) (row : Option Nat) : w.grownBy (w.alloc o) row := World.grownBy_alloc w o row

theorem grown_row {w w2 : World} {b N : Nat} {cs : Array Value} (h : w.grownBy w2 (some b)) (hN : w.heap.size ≤ N) : w.grownBy (w2.setRow N cs) (some b) :=
  ⟨h.os, h.tape, h.output, by rw [setRow_size]; exact h.size, fun k hk hne => (setRow_far (by omega)).trans (h.block k hk hne)⟩
theorem grown_cell {w w2 : World} {b N i : Nat} {u : Value} (h : w.grownBy w2 (some b)) (hN : w.heap.size ≤ N) : w.grownBy (w2.setCell ⟨N, i, none⟩ u) (some b) :=
  ⟨h.os, h.tape, h.output, by simpa [World.setCell] using h.size, fun k hk hne => (Below.heap_setCell w2 ⟨N, i, none⟩ u k (by show k ≠ N; omega)).trans (h.block k hk hne)⟩
theorem RdAt.cellFar {w : World} {b N i : Nat} {r : Rd} {u : Value} (h : RdAt w b r) (hN : b < N) : RdAt (w.setCell ⟨N, i, none⟩ u) b r :=
  h.kept fun k hk => Below.heap_setCell w ⟨N, i, none⟩ u k (by show k ≠ N; omega)
theorem RdAt.rowFar {w : World} {b N : Nat} {r : Rd} {cs : Array Value} (h : RdAt w b r) (hN : b < N) : RdAt (w.setRow N cs) b r := h.kept fun k hk => setRow_far (by omega)
theorem KAt.cellFar {w : World} {N i : Nat} {u : Value} (h : KAt w) (hN : 9 ≤ N) : KAt (w.setCell ⟨N, i, none⟩ u) :=
  h.of (by simp [World.setCell]) fun k hk => Below.heap_setCell w ⟨N, i, none⟩ u k (by show k ≠ N; omega)
theorem term_ones (a b c d : Int) : (#[.int .i64 a, .int .i64 b, .int .i64 c, .int .i64 d, .slice none 0 0] : Array Value).all (·.oneCell') = true := by kernel_rfl

set_option maxRecDepth 100000 in
set_option maxHeartbeats 4000000 in
theorem tax_any (b : Nat) (r : Rd) (w : World) (h : RdAt w b r) (hK : KAt w) :
    Calls Tryz.prog 90 #[.pointer (some ⟨b, 0, none⟩)] w (FormEnd w b (taxV r)) := by
  have HP := Lib.hid (pct_any b r (w.alloc (.cells zC 28)) (h.alloc _) (hK.alloc _))
  have hlt := h.lt
  have hr := RowAt.new w 28 zC
  obtain ⟨N, hN⟩ : ∃ z, w.heap.size = z := ⟨_, rfl⟩
  have HG := Lib.hid (grown_alloc w (.cells zC 28) (some b))
  rw [hN] at hr hlt
  have HR := Lib.hid hr
  have HN := Lib.hid hN
  unfold zC at HP HR HG
  unfold taxV
  obtain ⟨n, r2, hp⟩ : ∃ n r2, r.pct = (n, r2) := ⟨_, _, rfl⟩
  rw [hp] at HP ⊢
  dsimp only at HP ⊢
  clear h hK hr hp
  go_enter Tryz.func90, Tryz.ntmps90
  go_wp2_with fail
  refine HP.out.mono ?_
  rintro e w2 ⟨rfl, h2, hg2⟩
  have HR2 := Lib.hid (HR.out.grown hg2 (by omega))
  have HH2 := Lib.hid h2
  have HG2 := Lib.hid (grown_trans HG.out hg2)
  clear h2 hg2
  go_wp2_with ((with_reducible refine store_trow (o := ⟨none, .store _ _ _, _, _, _, _⟩) (.tmp 2) (.tmp 5) N #[.int .i64 2, .int .i64 n, .int .i64 0, .int .i64 0, .slice none 0 0] _ HR2.out rfl rfl (term_ones _ _ _ _) ?_ ?_ ?_ ?_ ?_); rfl; rfl; rfl; rfl)
  refine bodyPost_ret (results_cell1 rfl _ _ N _ _ _ _ rfl (setRow_at HR2.out) Tryz.underlying28 rfl term_size) rfl ⟨.slice none 0 0, rfl, OwnI.nil _ _ _ _, HH2.out.rowFar hlt, grown_row HG2.out (by rw [HN.out]; exact Nat.le_refl _)⟩
set_option maxRecDepth 100000 in
set_option maxHeartbeats 4000000 in
theorem cap_any (b : Nat) (r : Rd) (w : World) (h : RdAt w b r) (hK : KAt w) :
    Calls Tryz.prog 93 #[.pointer (some ⟨b, 0, none⟩)] w (FormEnd w b (capV r)) := by
  have HP := Lib.hid (number_any b r (w.alloc (.cells zC 28)) (h.alloc _) (hK.alloc _))
  have hlt := h.lt
  have hr := RowAt.new w 28 zC
  obtain ⟨N, hN⟩ : ∃ z, w.heap.size = z := ⟨_, rfl⟩
  have HG := Lib.hid (grown_alloc w (.cells zC 28) (some b))
  rw [hN] at hr hlt
  have HR := Lib.hid hr
  have HN := Lib.hid hN
  unfold zC at HP HR HG
  unfold capV
  obtain ⟨n, r2, hp⟩ : ∃ n r2, r.number = (n, r2) := ⟨_, _, rfl⟩
  rw [hp] at HP ⊢
  dsimp only at HP ⊢
  clear h hK hr hp
  go_enter Tryz.func93, Tryz.ntmps93
  go_wp2_with fail
  refine HP.out.mono ?_
  rintro e w2 ⟨rfl, h2, hg2⟩
  have HR2 := Lib.hid (HR.out.grown hg2 (by omega))
  have HH2 := Lib.hid h2
  have HG2 := Lib.hid (grown_trans HG.out hg2)
  clear h2 hg2
  go_wp2_with ((with_reducible refine store_trow (o := ⟨none, .store _ _ _, _, _, _, _⟩) (.tmp 2) (.tmp 5) N #[.int .i64 4, .int .i64 n, .int .i64 0, .int .i64 0, .slice none 0 0] _ HR2.out rfl rfl (term_ones _ _ _ _) ?_ ?_ ?_ ?_ ?_); rfl; rfl; rfl; rfl)
  refine bodyPost_ret (results_cell1 rfl _ _ N _ _ _ _ rfl (setRow_at HR2.out) Tryz.underlying28 rfl term_size) rfl ⟨.slice none 0 0, rfl, OwnI.nil _ _ _ _, HH2.out.rowFar hlt, grown_row HG2.out (by rw [HN.out]; exact Nat.le_refl _)⟩
set_option maxRecDepth 100000 in
set_option maxHeartbeats 8000000 in
theorem reserve_any (b : Nat) (r : Rd) (w : World) (h : RdAt w b r) (hK : KAt w) :
    Calls Tryz.prog 92 #[.pointer (some ⟨b, 0, none⟩)] w (FormEnd w b (reserveV r)) := by
  have HP := Lib.hid (pct_any b r (w.alloc (.cells zC 28)) (h.alloc _) (hK.alloc _))
  have hlt := h.lt
  have h9 := h.hb
  have hr := RowAt.new w 28 zC
  obtain ⟨N, hN⟩ : ∃ z, w.heap.size = z := ⟨_, rfl⟩
  have HG := Lib.hid (grown_alloc w (.cells zC 28) (some b))
  have HKA := Lib.hid (hK.alloc (.cells zC 28))
  rw [hN] at hr hlt
  have HR := Lib.hid hr
  have HN := Lib.hid hN
  unfold zC at HP HR HG HKA
  unfold reserveV
  obtain ⟨n, r2, hp⟩ : ∃ n r2, r.pct = (n, r2) := ⟨_, _, rfl⟩
  rw [hp]
  rw [hp] at HP
  dsimp only at HP ⊢
  obtain ⟨r4, hr4⟩ : ∃ r4, r2.word kFor = r4 := ⟨_, rfl⟩
  rw [hr4]
  obtain ⟨m, ws5, bad5, hm5⟩ : ∃ m ws y, r4.number = (m, ⟨ws, y⟩) := ⟨_, _, _, rfl⟩
  rw [hm5]
  dsimp only
  have HW : Hid (∀ W, RdAt W b r2 → Calls Tryz.prog 138 #[.pointer (some ⟨b, 0, none⟩), .string ⟨#[102, 111, 114]⟩] W fun e w' => e = .returned (.tuple #[]) ∧ RdAt w' b r4 ∧ W.grownBy w' (some b)) := Lib.hid (fun W hW => by rw [← hr4]; exact word_any b r2 kFor W hW)
  have HNU : Hid (∀ W, RdAt W b r4 → KAt W → Calls Tryz.prog 94 #[.pointer (some ⟨b, 0, none⟩)] W fun e w' => e = .returned (.int .i64 m) ∧ RdAt w' b ⟨ws5, bad5⟩ ∧ W.grownBy w' (some b)) := Lib.hid (fun W hW hk => by have := number_any b r4 W hW hk; rw [hm5] at this; exact this)
  clear h hK hr hp hr4 hm5
  go_enter Tryz.func92, Tryz.ntmps92
  go_wp2_with fail
  refine HP.out.mono ?_
  rintro e w2 ⟨rfl, h2, hg2⟩
  have HR2 := Lib.hid (HR.out.grown hg2 (by omega))
  have HH2 := Lib.hid h2
  have HG2 := Lib.hid (grown_trans HG.out hg2)
  have HK2 := Lib.hid (HKA.out.grown hg2 h9)
  have hN2 := HR2.out.lt
  clear h2 hg2
  obtain ⟨M, hM⟩ : ∃ z, w2.heap.size = z := ⟨_, rfl⟩
  have HM := Lib.hid hM
  rw [hM] at hN2
  clear hM
  go_wp2_with ((with_reducible refine store_term (o := ⟨none, .store _ _ _, _, _, _, _⟩) (.tmp 3) (.tmp 6) ⟨3, n, 0, 0, []⟩ (.slice none 0 0) _ (term_ones _ _ _ _) ?_ ?_ ?_ ?_ ?_ ?_); rfl; rfl; rfl; rfl; rfl)
  obtain ⟨W3, hW3⟩ : ∃ z, w2.alloc (.cells #[.int .i64 3, .int .i64 n, .int .i64 0, .int .i64 0, .slice none 0 0] 28) = z := ⟨_, rfl⟩
  have r3 : RowAt W3 w2.heap.size 28 #[.int .i64 3, .int .i64 n, .int .i64 0, .int .i64 0, .slice none 0 0] := by rw [← hW3]; exact RowAt.new w2 _ _
  have b3 : Below w2.heap.size w2 W3 := by rw [← hW3]; exact (Below.refl _ _).alloc (Nat.le_refl _) _
  have g3 := grown_below b3 (some b)
  rw [hW3, HM.out]
  rw [HM.out] at r3
  have HM3 := Lib.hid r3
  have HN3 := Lib.hid (HR2.out.grown g3 (by omega))
  have HH3 := Lib.hid (HH2.out.below b3 HH2.out.lt)
  have HG3 := Lib.hid (grown_trans HG2.out g3)
  have HK3 := Lib.hid (HK2.out.mono b3)
  clear hW3 r3 b3 g3
  go_wp2_with fail
  refine (HW.out _ HH3.out).mono ?_
  rintro e w4 ⟨rfl, h4, hg4⟩
  have HM4 := Lib.hid (HM3.out.grown hg4 (by omega))
  have HN4 := Lib.hid (HN3.out.grown hg4 (by omega))
  have HH4 := Lib.hid h4
  have HG4 := Lib.hid (grown_trans HG3.out hg4)
  have HK4 := Lib.hid (HK3.out.grown hg4 h9)
  clear h4 hg4
  go_wp2_with fail
  refine (HNU.out _ HH4.out HK4.out).mono ?_
  rintro e w5 ⟨rfl, h5, hg5⟩
  have HM5 := Lib.hid (HM4.out.grown hg5 (by omega))
  have HN5 := Lib.hid (HN4.out.grown hg5 (by omega))
  have HH5 := Lib.hid h5
  have HG5 := Lib.hid (grown_trans HG4.out hg5)
  have HK5 := Lib.hid (HK4.out.grown hg5 h9)
  clear h5 hg5
  have c52 : w5.cell? ⟨M, 2, none⟩ = some (.int .i64 0) := HM5.out.cell 2
  have f52 : w5.frozen? ⟨M, 2, none⟩ = false := HM5.out.free 2
  obtain ⟨W6, hW6⟩ : ∃ z, w5.setCell ⟨M, 2, none⟩ (.int .i64 m) = z := ⟨_, rfl⟩
  have HM6 : Hid (RowAt W6 M 28 #[.int .i64 3, .int .i64 n, .int .i64 m, .int .i64 0, .slice none 0 0]) := Lib.hid (by rw [← hW6]; exact HM5.out.set 2 _)
  have HN6 := Lib.hid (show RowAt W6 N 28 _ from by rw [← hW6]; exact HN5.out.far (p := ⟨M, 2, none⟩) (by show N ≠ M; omega) _)
  have HH6 : Hid (RdAt W6 b ⟨ws5, bad5⟩) := Lib.hid (by rw [← hW6]; exact HH5.out.cellFar (by omega))
  have HG6 : Hid (w.grownBy W6 (some b)) := Lib.hid (by rw [← hW6]; exact grown_cell HG5.out (by have := HN.out; omega))
  have HK6 : Hid (KAt W6) := Lib.hid (by rw [← hW6]; exact HK5.out.cellFar (by omega))
  have HW6 := Lib.hid hW6
  clear hW6
  go_upto_region 4 with fail
  rw [HW6.out]
  go_wp2_with (first | ((with_reducible refine load_trow (o := ⟨some 12, _, _, _, _, _⟩) (.tmp 3) M #[.int .i64 3, .int .i64 n, .int .i64 m, .int .i64 0, .slice none 0 0] HM6.out rfl ?_ ?_ ?_ ?_); rfl; rfl; rfl) | ((with_reducible refine store_trow (o := ⟨none, .store _ _ _, _, _, _, _⟩) (.tmp 2) (.tmp 12) N #[.int .i64 3, .int .i64 n, .int .i64 m, .int .i64 0, .slice none 0 0] _ HN6.out rfl rfl (term_ones _ _ _ _) ?_ ?_ ?_ ?_ ?_); rfl; rfl; rfl; rfl))
  refine bodyPost_ret (results_cell1 rfl _ _ N _ _ _ _ rfl (setRow_at HN6.out) Tryz.underlying28 rfl term_size) rfl ⟨.slice none 0 0, rfl, OwnI.nil _ _ _ _, HH6.out.rowFar hlt, grown_row HG6.out (by rw [HN.out]; exact Nat.le_refl _)⟩
end Go.Proofs.YtfiabonacpepnaaGreatDoor
