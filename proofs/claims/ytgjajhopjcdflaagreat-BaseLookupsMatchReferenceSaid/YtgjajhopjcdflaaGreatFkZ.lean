/- Package base: Contract, Rules, Method. -/
import Derived.Test.YtgjajhopjcdflaaGreatFkY
namespace Go.Proofs.YtgjajhopjcdflaaGreat
open Go Go.RowKit Go.Lib Go.Shelf Go.Maps

theorem base_load (W : World) (b : Nat) (bs : Array Value) (q : Nat) (v : Value) (h : RowAt W b 27 bs) (hq : bs[q]? = some v) : W.cell? ⟨b, q, none⟩ = some v := by rw [h.cell]; exact hq
set_option maxRecDepth 100000 in
theorem isHolder (hb : Nat) (x : Int) (f : FactV) (W : World) (h : W.cell? ⟨hb, 0, none⟩ = some (.int .i64 x)) :
    Calls Tryz.prog 42 #[.agg f.cells, .pointer (some ⟨hb, 0, none⟩)] W fun e w' => e = .returned (.bool (f.n 9 == x)) ∧ Below W.heap.size W w' := by
  have r1 : RowAt (W.alloc (.cells f.cells 34)) W.heap.size 34 f.cells := RowAt.new W _ _
  have c1 : (W.alloc (.cells f.cells 34)).cell? ⟨W.heap.size, 9, none⟩ = some (.int .i64 (f.n 9)) := by rw [r1.cell]; rfl
  have hbl := World.block_lt_of_cell? W _ h
  have c2 : (W.alloc (.cells f.cells 34)).cell? ⟨hb, 0, none⟩ = some (.int .i64 x) := ((Below.refl W.heap.size W).alloc (Nat.le_refl _) _).cell (p := ⟨hb, 0, none⟩) hbl |>.trans h
  have HB := Lib.hid ((Below.refl W.heap.size W).alloc (Nat.le_refl _) (.cells f.cells 34))
  obtain ⟨y, hy⟩ : ∃ z, f.n 9 = z := ⟨_, rfl⟩
  rw [hy] at c1 ⊢
  obtain ⟨cf, hcf⟩ : ∃ z, f.cells = z := ⟨_, rfl⟩
  rw [hcf] at c1 c2 HB ⊢
  obtain ⟨W1, hW1⟩ : ∃ z, W.alloc (.cells cf 34) = z := ⟨_, rfl⟩
  rw [hW1] at c1 c2 HB
  clear r1 hcf hy h hbl
  go_enter Tryz.func42, Tryz.ntmps42
  go_wp2_with fail
  go_ret
  exact ⟨rfl, HB.out⟩
set_option maxRecDepth 100000 in
theorem isTerr (hb : Nat) (x : Int) (f : FactV) (W : World) (h : W.cell? ⟨hb, 0, none⟩ = some (.int .i64 x)) :
    Calls Tryz.prog 44 #[.agg f.cells, .pointer (some ⟨hb, 0, none⟩)] W fun e w' => e = .returned (.bool (f.n 8 == x)) ∧ Below W.heap.size W w' := by
  have r1 : RowAt (W.alloc (.cells f.cells 34)) W.heap.size 34 f.cells := RowAt.new W _ _
  have c1 : (W.alloc (.cells f.cells 34)).cell? ⟨W.heap.size, 8, none⟩ = some (.int .i64 (f.n 8)) := by rw [r1.cell]; rfl
  have hbl := World.block_lt_of_cell? W _ h
  have c2 : (W.alloc (.cells f.cells 34)).cell? ⟨hb, 0, none⟩ = some (.int .i64 x) := ((Below.refl W.heap.size W).alloc (Nat.le_refl _) _).cell (p := ⟨hb, 0, none⟩) hbl |>.trans h
  have HB := Lib.hid ((Below.refl W.heap.size W).alloc (Nat.le_refl _) (.cells f.cells 34))
  obtain ⟨y, hy⟩ : ∃ z, f.n 8 = z := ⟨_, rfl⟩
  rw [hy] at c1 ⊢
  obtain ⟨cf, hcf⟩ : ∃ z, f.cells = z := ⟨_, rfl⟩
  rw [hcf] at c1 c2 HB ⊢
  obtain ⟨W1, hW1⟩ : ∃ z, W.alloc (.cells cf 34) = z := ⟨_, rfl⟩
  rw [hW1] at c1 c2 HB
  clear r1 hcf hy h hbl
  go_enter Tryz.func44, Tryz.ntmps44
  go_wp2_with fail
  go_ret
  exact ⟨rfl, HB.out⟩
theorem isAny (f : FactV) (W : World) :
    Calls Tryz.prog 43 #[.agg f.cells] W fun e w' => e = .returned (.bool true) ∧ Below W.heap.size W w' := by
  have HB := Lib.hid ((Below.refl W.heap.size W).alloc (Nat.le_refl _) (.cells f.cells 34))
  obtain ⟨cf, hcf⟩ : ∃ z, f.cells = z := ⟨_, rfl⟩
  rw [hcf] at HB ⊢
  clear hcf
  go_enter Tryz.func43, Tryz.ntmps43
  go_wp2_with fail
  go_ret
  exact ⟨rfl, HB.out⟩
def methV : Option FactV → Int
  | none => 1
  | some f => f.n 16
def contractF (LA : Nat → List FactV) (x p : Int) : Option FactV := inEff (fun f => f.n 9 == x) p (LA 3)
def rulesF (LA : Nat → List FactV) (p : Int) : Option FactV := inEff (fun _ => true) p (LA 8)
def methodF (LA : Nat → List FactV) (x p : Int) : Option FactV := inEff (fun f => f.n 8 == x) p (LA 9)
set_option maxRecDepth 100000 in
set_option maxHeartbeats 4000000 in
theorem contract_any (bs : Array Value) (LA : Nat → List FactV) (x p : Int) (w : World) (h : BaseR w bs LA) (hn : ∀ q, (LA q).length ≤ 1000000) :
    Calls Tryz.prog 12 #[.agg bs, .int .i64 x, .int .i64 p] w fun e w' => e = .returned (.tuple #[.agg ((contractF LA x p).getD zf).cells, .bool (contractF LA x p).isSome]) ∧ Below w.heap.size w w' := by
  obtain ⟨v, hv, hf⟩ := h.at_ 3 (by omega)
  obtain ⟨W1, hW1⟩ : ∃ z, ((w.alloc (.cells bs 27)).alloc (.cells #[.int .i64 x] 3)).alloc (.cells #[.int .i64 0, .int .i64 0, .int .i64 0, .int .i64 0, .int .i64 0, .int .i64 0, .int .i64 0, .int .i64 0, .int .i64 0, .int .i64 0, .int .i64 0, .int .i64 0, .int .i64 0, .int .i64 0, .int .i64 0, .int .i64 0, .int .i64 0, .string ⟨#[]⟩] 34) = z := ⟨_, rfl⟩
  have r1 : RowAt W1 w.heap.size 27 bs := by rw [← hW1]; exact ((RowAt.new w _ _).alloc _).alloc _
  have r2 : RowAt W1 (w.heap.size + 1) 3 #[.int .i64 x] := by
    rw [← hW1]
    have h := (RowAt.new (w.alloc (.cells bs 27)) 3 #[.int .i64 x]).alloc (.cells #[.int .i64 0, .int .i64 0, .int .i64 0, .int .i64 0, .int .i64 0, .int .i64 0, .int .i64 0, .int .i64 0, .int .i64 0, .int .i64 0, .int .i64 0, .int .i64 0, .int .i64 0, .int .i64 0, .int .i64 0, .int .i64 0, .int .i64 0, .string ⟨#[]⟩] 34)
    simpa using h
  have r3 : RowAt W1 (w.heap.size + 1 + 1) 34 #[.int .i64 0, .int .i64 0, .int .i64 0, .int .i64 0, .int .i64 0, .int .i64 0, .int .i64 0, .int .i64 0, .int .i64 0, .int .i64 0, .int .i64 0, .int .i64 0, .int .i64 0, .int .i64 0, .int .i64 0, .int .i64 0, .int .i64 0, .string ⟨#[]⟩] := by
    rw [← hW1]
    have h := RowAt.new ((w.alloc (.cells bs 27)).alloc (.cells #[.int .i64 x] 3)) 34 #[.int .i64 0, .int .i64 0, .int .i64 0, .int .i64 0, .int .i64 0, .int .i64 0, .int .i64 0, .int .i64 0, .int .i64 0, .int .i64 0, .int .i64 0, .int .i64 0, .int .i64 0, .int .i64 0, .int .i64 0, .int .i64 0, .int .i64 0, .string ⟨#[]⟩]
    simpa using h
  have hbw : Below w.heap.size w W1 := by rw [← hW1]; exact (((Below.refl _ _).alloc (Nat.le_refl _) _).alloc (by simp) _).alloc (by simp; omega) _
  have cv : W1.cell? ⟨w.heap.size, 3, none⟩ = some v := base_load _ _ _ _ _ r1 hv
  have HR := Lib.hid (And.intro r3 hbw)
  have eg : ∀ args w, (callFunc 42 args).run Tryz.prog w = .ok (.enter 42 args) w := enters_of Tryz.func42 (by kernel_rfl) rfl
  have HIE := Lib.hid (inEffect_1 42 (.pointer (some ⟨w.heap.size + 1, 0, none⟩)) (fun f => f.n 9 == x) p v (LA 3) W1 (hn 3) (fun W => W.cell? ⟨w.heap.size + 1, 0, none⟩ = some (.int .i64 x)) (fun W hb => by rw [(r2.below hb r2.lt).cell]; rfl) eg (hf.more hbw) (fun f W hW => isHolder _ x f W hW))
  obtain ⟨A, c, rfl⟩ := hf.sl
  obtain ⟨o, ho⟩ : ∃ z, contractF LA x p = z := ⟨_, rfl⟩
  have ho2 : inEff (fun f => f.n 9 == x) p (LA 3) = o := ho
  rw [ho2] at HIE
  rw [ho]
  have HOF : Hid ((Tryz.prog.info? 34).map (·.size) = some (o.getD zf).cells.size ∧ (o.getD zf).cells.all (·.oneCell') = true ∧ (#[.int .i64 0, .int .i64 0, .int .i64 0, .int .i64 0, .int .i64 0, .int .i64 0, .int .i64 0, .int .i64 0, .int .i64 0, .int .i64 0, .int .i64 0, .int .i64 0, .int .i64 0, .int .i64 0, .int .i64 0, .int .i64 0, .int .i64 0, .string ⟨#[]⟩] : Array Value).size = (o.getD zf).cells.size) := Lib.hid ⟨fact_size, (o.getD zf).cells_one, rfl⟩
  have HLD := Lib.hid (fun W h => fact_load W (w.heap.size + 1 + 1) (o.getD zf) h)
  obtain ⟨oc, hoc⟩ : ∃ z, (o.getD zf).cells = z := ⟨_, rfl⟩
  rw [hoc] at HOF HIE HLD ⊢
  obtain ⟨ob, hob⟩ : ∃ z, o.isSome = z := ⟨_, rfl⟩
  rw [hob] at HIE ⊢
  clear r1 r2 r3 hbw eg ho ho2 hoc hob hv hf h hn
  go_enter Tryz.func12, Tryz.ntmps12
  go_wp2_with fail
  refine HIE.out.mono ?_
  rintro e W2 ⟨rfl, hb2⟩
  have H2 : Hid (RowAt W2 (w.heap.size + 1 + 1) 34 #[.int .i64 0, .int .i64 0, .int .i64 0, .int .i64 0, .int .i64 0, .int .i64 0, .int .i64 0, .int .i64 0, .int .i64 0, .int .i64 0, .int .i64 0, .int .i64 0, .int .i64 0, .int .i64 0, .int .i64 0, .int .i64 0, .int .i64 0, .string ⟨#[]⟩] ∧ Below w.heap.size w W2) := Lib.hid ⟨HR.out.1.below hb2 HR.out.1.lt, HR.out.2.trans (hb2.mono HR.out.2.size)⟩
  clear hb2 hW1
  go_wp2_with (first | ((with_reducible refine store_fact_row (o := ⟨none, _, _, _, _, _⟩) (.tmp 6) (.tmp 13) (w.heap.size + 1 + 1) oc _ H2.out.1 HOF.out.1 HOF.out.2.2 HOF.out.2.1 ?_ ?_ ?_ ?_ ?_); rfl; rfl; rfl; rfl))
  refine bodyPost_ret (results_cell_tmp2 (p := 6) (q := 7) rfl _ _ _ _ rfl (HLD.out _ (setRow_at H2.out.1))) rfl ⟨rfl, below_setR H2.out.2 (by omega)⟩
set_option maxRecDepth 100000 in
set_option maxHeartbeats 4000000 in
theorem rules_any (bs : Array Value) (LA : Nat → List FactV) (p : Int) (w : World) (h : BaseR w bs LA) (hn : ∀ q, (LA q).length ≤ 1000000) :
    Calls Tryz.prog 14 #[.agg bs, .int .i64 p] w fun e w' => e = .returned (.tuple #[.agg ((rulesF LA p).getD zf).cells, .bool (rulesF LA p).isSome]) ∧ Below w.heap.size w w' := by
  obtain ⟨v, hv, hf⟩ := h.at_ 8 (by omega)
  obtain ⟨W1, hW1⟩ : ∃ z, (w.alloc (.cells bs 27)).alloc (.cells #[.int .i64 0, .int .i64 0, .int .i64 0, .int .i64 0, .int .i64 0, .int .i64 0, .int .i64 0, .int .i64 0, .int .i64 0, .int .i64 0, .int .i64 0, .int .i64 0, .int .i64 0, .int .i64 0, .int .i64 0, .int .i64 0, .int .i64 0, .string ⟨#[]⟩] 34) = z := ⟨_, rfl⟩
  have r1 : RowAt W1 w.heap.size 27 bs := by rw [← hW1]; exact (RowAt.new w _ _).alloc _
  have r3 : RowAt W1 (w.heap.size + 1) 34 #[.int .i64 0, .int .i64 0, .int .i64 0, .int .i64 0, .int .i64 0, .int .i64 0, .int .i64 0, .int .i64 0, .int .i64 0, .int .i64 0, .int .i64 0, .int .i64 0, .int .i64 0, .int .i64 0, .int .i64 0, .int .i64 0, .int .i64 0, .string ⟨#[]⟩] := by
    rw [← hW1]
    have h := RowAt.new (w.alloc (.cells bs 27)) 34 #[.int .i64 0, .int .i64 0, .int .i64 0, .int .i64 0, .int .i64 0, .int .i64 0, .int .i64 0, .int .i64 0, .int .i64 0, .int .i64 0, .int .i64 0, .int .i64 0, .int .i64 0, .int .i64 0, .int .i64 0, .int .i64 0, .int .i64 0, .string ⟨#[]⟩]
    simpa using h
  have hbw : Below w.heap.size w W1 := by rw [← hW1]; exact ((Below.refl _ _).alloc (Nat.le_refl _) _).alloc (by simp) _
  have cv : W1.cell? ⟨w.heap.size, 8, none⟩ = some v := base_load _ _ _ _ _ r1 hv
  have HR := Lib.hid (And.intro r3 hbw)
  have eg : ∀ args w, (callFunc 43 args).run Tryz.prog w = .ok (.enter 43 args) w := enters_of Tryz.func43 (by kernel_rfl) rfl
  have HIE := Lib.hid (inEffect_0 43 (fun _ => true) p v (LA 8) W1 (hn 8) (fun _ => True) (fun W _ => trivial) eg (hf.more hbw) (fun f W _ => isAny f W))
  obtain ⟨A, c, rfl⟩ := hf.sl
  obtain ⟨o, ho⟩ : ∃ z, rulesF LA p = z := ⟨_, rfl⟩
  have ho2 : inEff (fun _ => true) p (LA 8) = o := ho
  rw [ho2] at HIE
  rw [ho]
  have HOF : Hid ((Tryz.prog.info? 34).map (·.size) = some (o.getD zf).cells.size ∧ (o.getD zf).cells.all (·.oneCell') = true ∧ (#[.int .i64 0, .int .i64 0, .int .i64 0, .int .i64 0, .int .i64 0, .int .i64 0, .int .i64 0, .int .i64 0, .int .i64 0, .int .i64 0, .int .i64 0, .int .i64 0, .int .i64 0, .int .i64 0, .int .i64 0, .int .i64 0, .int .i64 0, .string ⟨#[]⟩] : Array Value).size = (o.getD zf).cells.size) := Lib.hid ⟨fact_size, (o.getD zf).cells_one, rfl⟩
  have HLD := Lib.hid (fun W h => fact_load W (w.heap.size + 1) (o.getD zf) h)
  obtain ⟨oc, hoc⟩ : ∃ z, (o.getD zf).cells = z := ⟨_, rfl⟩
  rw [hoc] at HOF HIE HLD ⊢
  obtain ⟨ob, hob⟩ : ∃ z, o.isSome = z := ⟨_, rfl⟩
  rw [hob] at HIE ⊢
  clear r1 r3 hbw eg ho ho2 hoc hob hv hf h hn
  go_enter Tryz.func14, Tryz.ntmps14
  go_wp2_with fail
  refine HIE.out.mono ?_
  rintro e W2 ⟨rfl, hb2⟩
  have H2 : Hid (RowAt W2 (w.heap.size + 1) 34 #[.int .i64 0, .int .i64 0, .int .i64 0, .int .i64 0, .int .i64 0, .int .i64 0, .int .i64 0, .int .i64 0, .int .i64 0, .int .i64 0, .int .i64 0, .int .i64 0, .int .i64 0, .int .i64 0, .int .i64 0, .int .i64 0, .int .i64 0, .string ⟨#[]⟩] ∧ Below w.heap.size w W2) := Lib.hid ⟨HR.out.1.below hb2 HR.out.1.lt, HR.out.2.trans (hb2.mono HR.out.2.size)⟩
  clear hb2 hW1
  go_wp2_with (first | ((with_reducible refine store_fact_row (o := ⟨none, _, _, _, _, _⟩) (.tmp 4) (.tmp 10) (w.heap.size + 1) oc _ H2.out.1 HOF.out.1 HOF.out.2.2 HOF.out.2.1 ?_ ?_ ?_ ?_ ?_); rfl; rfl; rfl; rfl))
  refine bodyPost_ret (results_cell_tmp2 (p := 4) (q := 5) rfl _ _ _ _ rfl (HLD.out _ (setRow_at H2.out.1))) rfl ⟨rfl, below_setR H2.out.2 (by omega)⟩
set_option maxRecDepth 100000 in
set_option maxHeartbeats 4000000 in
theorem method_any (bs : Array Value) (LA : Nat → List FactV) (x p : Int) (w : World) (h : BaseR w bs LA) (hn : ∀ q, (LA q).length ≤ 1000000) :
    Calls Tryz.prog 17 #[.agg bs, .int .i64 x, .int .i64 p] w fun e w' => e = .returned (.int .i64 (methV (methodF LA x p))) ∧ Below w.heap.size w w' := by
  obtain ⟨v, hv, hf⟩ := h.at_ 9 (by omega)
  obtain ⟨W1, hW1⟩ : ∃ z, (w.alloc (.cells bs 27)).alloc (.cells #[.int .i64 x] 3) = z := ⟨_, rfl⟩
  have r1 : RowAt W1 w.heap.size 27 bs := by rw [← hW1]; exact (RowAt.new w _ _).alloc _
  have r2 : RowAt W1 (w.heap.size + 1) 3 #[.int .i64 x] := by
    rw [← hW1]
    have h := RowAt.new (w.alloc (.cells bs 27)) 3 #[.int .i64 x]
    simpa using h
  have hbw : Below w.heap.size w W1 := by rw [← hW1]; exact ((Below.refl _ _).alloc (Nat.le_refl _) _).alloc (by simp) _
  have cv : W1.cell? ⟨w.heap.size, 9, none⟩ = some v := base_load _ _ _ _ _ r1 hv
  have HR := Lib.hid hbw
  have eg : ∀ args w, (callFunc 44 args).run Tryz.prog w = .ok (.enter 44 args) w := enters_of Tryz.func44 (by kernel_rfl) rfl
  have HIE := Lib.hid (inEffect_1 44 (.pointer (some ⟨w.heap.size + 1, 0, none⟩)) (fun f => f.n 8 == x) p v (LA 9) W1 (hn 9) (fun W => W.cell? ⟨w.heap.size + 1, 0, none⟩ = some (.int .i64 x)) (fun W hb => by rw [(r2.below hb r2.lt).cell]; rfl) eg (hf.more hbw) (fun f W hW => isTerr _ x f W hW))
  obtain ⟨A, c, rfl⟩ := hf.sl
  obtain ⟨o, ho⟩ : ∃ z, methodF LA x p = z := ⟨_, rfl⟩
  have ho2 : inEff (fun f => f.n 8 == x) p (LA 9) = o := ho
  rw [ho2] at HIE
  have HOO := Lib.hid (congrArg methV ho)
  have HO16 : Hid ((o.getD zf).cells[16]? = some (.int .i64 ((o.getD zf).n 16))) := Lib.hid rfl
  have HOF : Hid ((Tryz.prog.info? 34).map (·.size) = some (o.getD zf).cells.size ∧ (o.getD zf).cells.all (·.oneCell') = true ∧ (#[.int .i64 0, .int .i64 0, .int .i64 0, .int .i64 0, .int .i64 0, .int .i64 0, .int .i64 0, .int .i64 0, .int .i64 0, .int .i64 0, .int .i64 0, .int .i64 0, .int .i64 0, .int .i64 0, .int .i64 0, .int .i64 0, .int .i64 0, .string ⟨#[]⟩] : Array Value).size = (o.getD zf).cells.size) := Lib.hid ⟨fact_size, (o.getD zf).cells_one, rfl⟩
  obtain ⟨oc, hoc⟩ : ∃ z, (o.getD zf).cells = z := ⟨_, rfl⟩
  rw [hoc] at HOF HIE HO16
  clear r1 r2 hbw eg ho ho2 hoc hv hf h hn
  go_enter Tryz.func17, Tryz.ntmps17
  go_wp2_with fail
  refine HIE.out.mono ?_
  rintro e W2 ⟨rfl, hb2⟩
  have H2 := Lib.hid (HR.out.trans (hb2.mono HR.out.size))
  clear hb2 hW1
  obtain ⟨N, hN⟩ : ∃ z, W2.heap.size = z := ⟨_, rfl⟩
  have HNN := Lib.hid hN
  obtain ⟨y16, hy16⟩ : ∃ z, (o.getD zf).n 16 = z := ⟨_, rfl⟩
  rw [hy16] at HO16
  have HY := Lib.hid hy16
  obtain ⟨W3, hW3⟩ : ∃ z, W2.alloc (.cells oc 34) = z := ⟨_, rfl⟩
  have c16 : W3.cell? ⟨N, 16, none⟩ = some (.int .i64 y16) := by
    have h : RowAt W3 N 34 oc := by rw [← hW3, ← hN]; exact RowAt.new _ _ _
    rw [h.cell]; exact HO16.out
  have H3 : Hid (Below w.heap.size w W3) := Lib.hid (by rw [← hW3]; exact H2.out.alloc H2.out.size _)
  clear hy16
  cases o with
  | none =>
    simp only [Option.isSome_none]
    go_wp2_with (first | ((with_reducible refine store_cs (o := ⟨none, _, _, _, _, _⟩) (.tmp 7) (.tmp 15) N HNN.out _ oc HOF.out.1 HOF.out.2.1 HOF.out.2.2 ?_ ?_ ?_ ?_ ?_); rfl; rfl; rfl; rfl))
    go_ret
    exact ⟨by rw [HOO.out]; rfl, H3.out⟩
  | some f =>
    simp only [Option.isSome_some]
    go_wp2_with (first | ((with_reducible refine store_cs (o := ⟨none, _, _, _, _, _⟩) (.tmp 7) (.tmp 15) N HNN.out _ oc HOF.out.1 HOF.out.2.1 HOF.out.2.2 ?_ ?_ ?_ ?_ ?_); rfl; rfl; rfl; rfl))
    go_ret
    refine ⟨?_, H3.out⟩
    have h1 : f.n 16 = y16 := HY.out
    rw [HOO.out, ← h1]
    rfl
end Go.Proofs.YtgjajhopjcdflaaGreat
