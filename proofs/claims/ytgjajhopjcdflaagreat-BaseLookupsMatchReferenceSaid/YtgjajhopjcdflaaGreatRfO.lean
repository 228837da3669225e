import Derived.Test.YtgjajhopjcdflaaGreatRfC
import Derived.Test.YtgjajhopjcdflaaGreatRfK
import Derived.Test.YtgjajhopjcdflaaGreatFkM
import Derived.Test.YtgjajhopjcdflaaGreatFkU
import Derived.BigQuiet
import Derived.Test.YtgjajhopjcdflaaGreatFlF
import Derived.Test.YtgjajhopjcdflaaGreatFlI
import Derived.Test.YtgjajhopjcdflaaGreatFpB
namespace Go.Proofs.YtgjajhopjcdflaaGreat
open Go Go.RowKit Go.Lib Go.Shelf Go.Maps

theorem bytes_gt : ∀ a b : List UInt8, (!Op.bytesLess a b && !(a == b)) = decide (0 < Lib.compareBytes a b)
  | [], [] => by simp [Op.bytesLess, Lib.compareBytes]
  | [], _ :: _ => by simp [Op.bytesLess, Lib.compareBytes]
  | _ :: _, [] => by simp [Op.bytesLess, Lib.compareBytes]
  | x :: a, y :: b => by
    have ih := bytes_gt a b
    have h3 : x < y ∨ x = y ∨ y < x := by
      rcases Nat.lt_trichotomy x.toNat y.toNat with h | h | h
      · exact .inl (UInt8.lt_iff_toNat_lt.2 h)
      · exact .inr (.inl (UInt8.toNat_inj.1 h))
      · exact .inr (.inr (UInt8.lt_iff_toNat_lt.2 h))
    unfold Op.bytesLess Lib.compareBytes
    rcases h3 with h | h | h
    · simp [h]
    · subst h
      have hn : ¬ x < x := fun h => Nat.lt_irrefl _ (UInt8.lt_iff_toNat_lt.1 h)
      simp only [hn, if_false]
      simpa using ih
    · have hn : ¬ x < y := fun h2 => Nat.lt_asymm (UInt8.lt_iff_toNat_lt.1 h) (UInt8.lt_iff_toNat_lt.1 h2)
      have hne : ¬ x = y := fun e => by subst e; exact hn h
      simp [h, hn, hne]
def encR (f : FactV) : Value := if validB f then .tuple #[.string ⟨(encL f).toArray⟩, .int .i64 0] else .tuple #[.string ⟨#[]⟩, .int .i64 50]
set_option maxRecDepth 100000 in
set_option maxHeartbeats 4000000 in
theorem rencode_any (f : FactV) (w : World) (hok : FactOk f) :
    Calls Tryz.prog 104 #[.agg f.cells] w fun e w' => e = .returned (encR f) ∧ Below w.heap.size w w' := by
  have VF := Lib.hid (fun W => rvalid_any f W hok)
  have WR : Hid (validB f = true → ∀ W, Calls Tryz.prog 124 #[.agg f.cells] W fun e w' => e = .returned (.string ⟨(encL f).toArray⟩) ∧ Below W.heap.size W w') := Lib.hid (fun h W => rwritten_any f W hok (by have := (valid_parts h).2.1.2.2; omega))
  have HCI : Hid ((Tryz.prog.info? 34).map (·.size) = some f.cells.size) := Lib.hid fact_size
  have HR0 := Lib.hid (RowAt.new w 34 f.cells)
  have HE : Hid (encR f = if validB f then .tuple #[.string ⟨(encL f).toArray⟩, .int .i64 0] else .tuple #[.string ⟨#[]⟩, .int .i64 50]) := Lib.hid rfl
  obtain ⟨cf, hcf⟩ : ∃ z, f.cells = z := ⟨_, rfl⟩
  rw [hcf] at HCI HR0 ⊢
  simp only [hcf] at VF WR
  obtain ⟨v, hv⟩ : ∃ z, validB f = z := ⟨_, rfl⟩
  rw [hv] at HE
  simp only [hv] at VF WR
  obtain ⟨E, hE⟩ : ∃ z, encR f = z := ⟨_, rfl⟩
  rw [hE] at HE ⊢
  clear hcf hv hE hok
  go_enter Tryz.func104, Tryz.ntmps104
  go_wp2_with (first | ((with_reducible refine load_cs (o := ⟨some 5, _, _, _, _, _⟩) (.tmp 1) w.heap.size cf (fun j v h => by rw [Nat.zero_add, HR0.out.cell]; exact h) HCI.out ?_ ?_ ?_ ?_); rfl; rfl; rfl))
  refine (VF.out _).mono ?_
  rintro e W1 ⟨rfl, hb⟩
  have H1 : Hid (RowAt W1 w.heap.size 34 cf ∧ Below w.heap.size w W1) := Lib.hid ⟨HR0.out.below hb HR0.out.lt, ((Below.refl w.heap.size w).alloc (Nat.le_refl _) _).trans (hb.mono (by simp))⟩
  clear hb
  cases v
  · go_wp2_with fail
    go_ret2
    exact ⟨by rw [HE.out]; rfl, H1.out.2⟩
  · go_wp2_with (first | ((with_reducible refine load_cs (o := ⟨some 9, _, _, _, _, _⟩) (.tmp 1) w.heap.size cf (fun j v h => by rw [Nat.zero_add, H1.out.1.cell]; exact h) HCI.out ?_ ?_ ?_ ?_); rfl; rfl; rfl))
    refine (WR.out (by first | rfl | trivial) _).mono ?_
    rintro e W2 ⟨rfl, hb⟩
    have H2 := Lib.hid (H1.out.2.trans (hb.mono H1.out.2.size))
    clear hb
    go_wp2_with fail
    go_ret2
    exact ⟨by rw [HE.out]; rfl, H2.out⟩
set_option linter.unusedSimpArgs false in
set_option maxRecDepth 100000 in
set_option maxHeartbeats 8000000 in
theorem rprevails_any (f g : FactV) (w : World) (hf : FactOk f) (hg : FactOk g) :
    Calls Tryz.prog 61 #[.agg f.cells, .agg g.cells] w fun e w' => e = .returned (.bool (prevB f g)) ∧ Below w.heap.size w w' := by
  have EF := Lib.hid (fun W => rencode_any f W hf)
  have EG := Lib.hid (fun W => rencode_any g W hg)
  have KF := Lib.hid (fun W => rkey_any f W)
  have KG := Lib.hid (fun W => rkey_any g W)
  unfold keyV at KF KG
  have HEK := Lib.hid (eq_key (f.n 0) (key2 f).1 (key2 f).2 (g.n 0) (key2 g).1 (key2 g).2)
  have HCF : Hid ((Tryz.prog.info? 34).map (·.size) = some f.cells.size) := Lib.hid fact_size
  have HCG : Hid ((Tryz.prog.info? 34).map (·.size) = some g.cells.size) := Lib.hid fact_size
  have hr1 := (RowAt.new w 34 f.cells).alloc (.cells g.cells 34)
  have hr2 := RowAt.new (w.alloc (.cells f.cells 34)) 34 g.cells
  have e1 : (w.alloc (.cells f.cells 34)).heap.size = w.heap.size + 1 := by simp
  rw [e1] at hr2
  have HR0 : Hid (RowAt ((w.alloc (.cells f.cells 34)).alloc (.cells g.cells 34)) w.heap.size 34 f.cells ∧ RowAt ((w.alloc (.cells f.cells 34)).alloc (.cells g.cells 34)) (w.heap.size + 1) 34 g.cells ∧ Below w.heap.size w ((w.alloc (.cells f.cells 34)).alloc (.cells g.cells 34))) := Lib.hid ⟨hr1, hr2, ((Below.refl _ _).alloc (Nat.le_refl _) _).alloc (by simp) _⟩
  have HP : Hid (prevB f g = (validB f && (validB g && (keyEq f g && (if f.n 2 = g.n 2 then decide (0 < Lib.compareBytes (encL f) (encL g)) else decide (g.n 2 < f.n 2)))))) := Lib.hid rfl
  have hc2 : f.cells[2]? = some (.int .i64 (f.n 2)) := rfl
  have hd2 : g.cells[2]? = some (.int .i64 (g.n 2)) := rfl
  unfold encR at EF EG
  obtain ⟨kq, hkq⟩ : ∃ z, keyEq f g = z := ⟨_, rfl⟩
  have hq2 : (f.n 0 == g.n 0 && ((key2 f).1 == (key2 g).1 && (key2 f).2 == (key2 g).2)) = kq := hkq
  simp only [hq2] at HEK
  rw [hkq] at HP
  obtain ⟨x0, hx0⟩ : ∃ z, f.n 0 = z := ⟨_, rfl⟩
  obtain ⟨x1, hx1⟩ : ∃ z, (key2 f).1 = z := ⟨_, rfl⟩
  obtain ⟨x2, hx2⟩ : ∃ z, (key2 f).2 = z := ⟨_, rfl⟩
  obtain ⟨z0, hz0⟩ : ∃ z, g.n 0 = z := ⟨_, rfl⟩
  obtain ⟨z1, hz1⟩ : ∃ z, (key2 g).1 = z := ⟨_, rfl⟩
  obtain ⟨z2, hz2⟩ : ∃ z, (key2 g).2 = z := ⟨_, rfl⟩
  simp only [hx0, hx1, hx2] at KF HEK
  simp only [hz0, hz1, hz2] at KG HEK
  obtain ⟨cf, hcf⟩ : ∃ z, f.cells = z := ⟨_, rfl⟩
  obtain ⟨cg, hcg⟩ : ∃ z, g.cells = z := ⟨_, rfl⟩
  rw [hcf] at hc2 HCF
  rw [hcg] at hd2 HCG
  rw [hcf, hcg] at HR0 ⊢
  simp only [hcf] at EF KF
  simp only [hcg] at EG KG
  obtain ⟨vf, hvf⟩ : ∃ z, validB f = z := ⟨_, rfl⟩
  obtain ⟨vg, hvg⟩ : ∃ z, validB g = z := ⟨_, rfl⟩
  rw [hvf, hvg] at HP
  simp only [hvf] at EF
  simp only [hvg] at EG
  obtain ⟨lf, hlf⟩ : ∃ z, encL f = z := ⟨_, rfl⟩
  obtain ⟨lg, hlg⟩ : ∃ z, encL g = z := ⟨_, rfl⟩
  rw [hlf, hlg] at HP
  simp only [hlf] at EF
  simp only [hlg] at EG
  obtain ⟨nf, hnf⟩ : ∃ z, f.n 2 = z := ⟨_, rfl⟩
  obtain ⟨ng, hng⟩ : ∃ z, g.n 2 = z := ⟨_, rfl⟩
  rw [hnf, hng] at HP
  rw [hnf] at hc2
  rw [hng] at hd2
  have HC2 := Lib.hid (And.intro hc2 hd2)
  obtain ⟨PB, hPB⟩ : ∃ z, prevB f g = z := ⟨_, rfl⟩
  rw [hPB] at HP ⊢
  clear hf hg hr1 hr2 e1 hkq hq2 hx0 hx1 hx2 hz0 hz1 hz2 hcf hcg hvf hvg hlf hlg hnf hng hPB hc2 hd2
  have EF2 : Hid (∀ W, Calls Tryz.prog 104 #[.agg cf] W fun e w' => e = .returned (.tuple #[.string (if vf = true then ⟨lf.toArray⟩ else ⟨#[]⟩), .int .i64 (if vf = true then 0 else 50)]) ∧ Below W.heap.size W w') := Lib.hid (fun W => by have h := EF.out W; cases vf <;> exact h)
  have EG2 : Hid (∀ W, Calls Tryz.prog 104 #[.agg cg] W fun e w' => e = .returned (.tuple #[.string (if vg = true then ⟨lg.toArray⟩ else ⟨#[]⟩), .int .i64 (if vg = true then 0 else 50)]) ∧ Below W.heap.size W w') := Lib.hid (fun W => by have h := EG.out W; cases vg <;> exact h)
  obtain ⟨sf, hsf⟩ : ∃ z : ByteArray, (if vf = true then ⟨lf.toArray⟩ else ⟨#[]⟩) = z := ⟨_, rfl⟩
  obtain ⟨sg, hsg⟩ : ∃ z : ByteArray, (if vg = true then ⟨lg.toArray⟩ else ⟨#[]⟩) = z := ⟨_, rfl⟩
  obtain ⟨ef, hef⟩ : ∃ z : Int, (if vf = true then (0 : Int) else 50) = z := ⟨_, rfl⟩
  obtain ⟨eg, heg⟩ : ∃ z : Int, (if vg = true then (0 : Int) else 50) = z := ⟨_, rfl⟩
  simp only [hsf, hef] at EF2
  simp only [hsg, heg] at EG2
  have HSF := Lib.hid (And.intro hsf (And.intro hsg (And.intro hef heg)))
  clear EF EG hsf hsg hef heg
  go_enter Tryz.func61, Tryz.ntmps61
  go_wp2_with (first | ((with_reducible refine load_cs (o := ⟨some 10, _, _, _, _, _⟩) (.tmp 2) w.heap.size cf (fun j v h => by rw [Nat.zero_add, HR0.out.1.cell]; exact h) HCF.out ?_ ?_ ?_ ?_); rfl; rfl; rfl))
  refine (EF2.out _).mono ?_
  rintro e W1 ⟨rfl, hb⟩
  have H1 : Hid (RowAt W1 w.heap.size 34 cf ∧ RowAt W1 (w.heap.size + 1) 34 cg ∧ Below w.heap.size w W1) := Lib.hid ⟨HR0.out.1.below hb HR0.out.1.lt, HR0.out.2.1.below hb HR0.out.2.1.lt, HR0.out.2.2.trans (hb.mono HR0.out.2.2.size)⟩
  clear hb
  go_wp2_with (first | ((with_reducible refine load_cs (o := ⟨some 15, _, _, _, _, _⟩) (.tmp 3) (w.heap.size + 1) cg (fun j v h => by rw [Nat.zero_add, H1.out.2.1.cell]; exact h) HCG.out ?_ ?_ ?_ ?_); rfl; rfl; rfl))
  refine (EG2.out _).mono ?_
  rintro e W2 ⟨rfl, hb⟩
  have H2 : Hid (RowAt W2 w.heap.size 34 cf ∧ RowAt W2 (w.heap.size + 1) 34 cg ∧ Below w.heap.size w W2) := Lib.hid ⟨H1.out.1.below hb H1.out.1.lt, H1.out.2.1.below hb H1.out.2.1.lt, H1.out.2.2.trans (hb.mono H1.out.2.2.size)⟩
  clear hb
  cases vf
  · obtain rfl := HSF.out.2.2.1
    have HRES : Hid (Ending.returned (.bool false) = Ending.returned (.bool PB)) := Lib.hid (by rw [HP.out]; rfl)
    go_wp2_with fail
    refine wp_region_held_drew (S := fun W => Below W2.heap.size W2 W) (by kernel_rfl) (Below.refl _ _).drew (fun hHeld => ?_)
    refine wpAnyH_take (i := 0) (oi := ⟨_, _, _, _, _, _⟩) (v := ?_) rfl (by kernel_rfl) (by kernel_rfl) (by kernel_rfl) (fun _ _ _ h => h) (Or.inl ⟨by rfl, ?_⟩) (by assumption) ?_
    rotate_left
    · intro w hSw
      go_simp
      all_goals with_reducible rfl
    simp only [Act.put, List.setIfInBounds_toArray, List.set_cons_zero, List.set_cons_succ]
    refine wpAnyH_take (i := 1) (oi := ⟨_, _, _, _, _, _⟩) (v := ?_) rfl (by kernel_rfl) (by kernel_rfl) (by kernel_rfl) (fun _ _ _ h => h) (Or.inl ⟨by rfl, ?_⟩) (by assumption) ?_
    rotate_left
    · intro w hSw
      go_simp
      all_goals with_reducible rfl
    simp only [Act.put, List.setIfInBounds_toArray, List.set_cons_zero, List.set_cons_succ]
    refine wpAnyH_take (i := 2) (oi := ⟨_, _, _, _, _, _⟩) (v := ?_) rfl (by kernel_rfl) (by kernel_rfl) (by kernel_rfl) (fun _ _ _ h => h) (Or.inl ⟨by rfl, ?_⟩) (by assumption) ?_
    rotate_left
    · intro w hSw
      go_simp
      all_goals with_reducible rfl
    simp only [Act.put, List.setIfInBounds_toArray, List.set_cons_zero, List.set_cons_succ]
    refine wpAnyH_take (i := 3) (oi := ⟨_, _, _, _, _, _⟩) (v := undef) rfl (by kernel_rfl) (by kernel_rfl) (by kernel_rfl) (fun _ _ _ h => h) (Or.inr ⟨by rfl, rfl⟩) (by assumption) ?_
    simp only [Act.put, List.setIfInBounds_toArray, List.set_cons_zero, List.set_cons_succ]
    refine wpAnyH_take (i := 4) (oi := ⟨_, _, _, _, _, _⟩) (v := undef) rfl (by kernel_rfl) (by kernel_rfl) (by kernel_rfl) (fun _ _ _ h => h) (Or.inr ⟨by rfl, rfl⟩) (by assumption) ?_
    simp only [Act.put, List.setIfInBounds_toArray, List.set_cons_zero, List.set_cons_succ]
    refine wpAnyH_take (i := 5) (oi := ⟨_, _, _, _, _, _⟩) (v := ?_) rfl (by kernel_rfl) (by kernel_rfl) (by kernel_rfl) (fun _ _ _ h => h) (Or.inl ⟨by rfl, ?_⟩) (by assumption) ?_
    rotate_left
    · intro w hSw
      go_simp
      all_goals with_reducible rfl
    simp only [Act.put, List.setIfInBounds_toArray, List.set_cons_zero, List.set_cons_succ]
    refine wpAnyH_take (i := 6) (oi := ⟨_, _, _, _, _, _⟩) (v := ?_) rfl (by kernel_rfl) (by kernel_rfl) (by kernel_rfl) (fun _ _ _ h => h) (Or.inl ⟨by rfl, ?_⟩) (by assumption) ?_
    rotate_left
    · intro w hSw
      go_simp
      all_goals with_reducible rfl
    simp only [Act.put, List.setIfInBounds_toArray, List.set_cons_zero, List.set_cons_succ]
    refine wpAnyH_take (i := 7) (oi := ⟨_, _, _, _, _, _⟩) (v := undef) rfl (by kernel_rfl) (by kernel_rfl) (by kernel_rfl) (fun _ _ _ h => h) (Or.inr ⟨by rfl, rfl⟩) (by assumption) ?_
    simp only [Act.put, List.setIfInBounds_toArray, List.set_cons_zero, List.set_cons_succ]
    refine wpAnyH_take (i := 8) (oi := ⟨_, _, _, _, _, _⟩) (v := undef) rfl (by kernel_rfl) (by kernel_rfl) (by kernel_rfl) (fun _ _ _ h => h) (Or.inr ⟨by rfl, rfl⟩) (by assumption) ?_
    simp only [Act.put, List.setIfInBounds_toArray, List.set_cons_zero, List.set_cons_succ]
    refine wpAnyH_take (i := 9) (oi := ⟨_, _, _, _, _, _⟩) (v := undef) rfl (by kernel_rfl) (by kernel_rfl) (by kernel_rfl) (fun _ _ _ h => h) (Or.inr ⟨by rfl, rfl⟩) (by assumption) ?_
    simp only [Act.put, List.setIfInBounds_toArray, List.set_cons_zero, List.set_cons_succ]
    refine wpAnyH_take (i := 10) (oi := ⟨_, _, _, _, _, _⟩) (v := undef) rfl (by kernel_rfl) (by kernel_rfl) (by kernel_rfl) (fun _ _ _ h => h) (Or.inr ⟨by rfl, rfl⟩) (by assumption) ?_
    simp only [Act.put, List.setIfInBounds_toArray, List.set_cons_zero, List.set_cons_succ]
    refine wpAnyH_take (i := 11) (oi := ⟨_, _, _, _, _, _⟩) (v := undef) rfl (by kernel_rfl) (by kernel_rfl) (by kernel_rfl) (fun _ _ _ h => h) (Or.inr ⟨by rfl, rfl⟩) (by assumption) ?_
    simp only [Act.put, List.setIfInBounds_toArray, List.set_cons_zero, List.set_cons_succ]
    refine wpAnyH_take (i := 12) (oi := ⟨_, _, _, _, _, _⟩) (v := ?_) rfl (by kernel_rfl) (by kernel_rfl) (by kernel_rfl) (fun _ _ _ h => h) (Or.inl ⟨by rfl, ?_⟩) (by assumption) ?_
    rotate_left
    · intro w hSw
      go_simp
      all_goals with_reducible rfl
    simp only [Act.put, List.setIfInBounds_toArray, List.set_cons_zero, List.set_cons_succ]
    refine wpAnyH_done (by kernel_rfl) ?_ _
    go_wp2_with fail
    go_ret
    exact ⟨HRES.out, (H2.out.2.2).drew⟩
  · obtain rfl := HSF.out.2.2.1
    cases vg
    · obtain rfl := HSF.out.2.2.2
      have HRES : Hid (Ending.returned (.bool false) = Ending.returned (.bool PB)) := Lib.hid (by rw [HP.out]; rfl)
      go_wp2_with fail
      refine wp_region_held_drew (S := fun W => Below W2.heap.size W2 W) (by kernel_rfl) (Below.refl _ _).drew (fun hHeld => ?_)
      refine wpAnyH_take (i := 0) (oi := ⟨_, _, _, _, _, _⟩) (v := ?_) rfl (by kernel_rfl) (by kernel_rfl) (by kernel_rfl) (fun _ _ _ h => h) (Or.inl ⟨by rfl, ?_⟩) (by assumption) ?_
      rotate_left
      · intro w hSw
        go_simp
        all_goals with_reducible rfl
      simp only [Act.put, List.setIfInBounds_toArray, List.set_cons_zero, List.set_cons_succ]
      refine wpAnyH_take (i := 1) (oi := ⟨_, _, _, _, _, _⟩) (v := ?_) rfl (by kernel_rfl) (by kernel_rfl) (by kernel_rfl) (fun _ _ _ h => h) (Or.inl ⟨by rfl, ?_⟩) (by assumption) ?_
      rotate_left
      · intro w hSw
        go_simp
        all_goals with_reducible rfl
      simp only [Act.put, List.setIfInBounds_toArray, List.set_cons_zero, List.set_cons_succ]
      refine wpAnyH_take (i := 2) (oi := ⟨_, _, _, _, _, _⟩) (v := ?_) rfl (by kernel_rfl) (by kernel_rfl) (by kernel_rfl) (fun _ _ _ h => h) (Or.inl ⟨by rfl, ?_⟩) (by assumption) ?_
      rotate_left
      · intro w hSw
        go_simp
        all_goals with_reducible rfl
      simp only [Act.put, List.setIfInBounds_toArray, List.set_cons_zero, List.set_cons_succ]
      refine wpAnyH_take (i := 3) (oi := ⟨_, _, _, _, _, _⟩) (v := ?_) rfl (by kernel_rfl) (by kernel_rfl) (by kernel_rfl) (fun _ _ _ h => h) (Or.inl ⟨by rfl, ?_⟩) (by assumption) ?_
      rotate_left
      · intro w hSw
        go_simp
        all_goals with_reducible rfl
      simp only [Act.put, List.setIfInBounds_toArray, List.set_cons_zero, List.set_cons_succ]
      refine wpAnyH_take (i := 4) (oi := ⟨_, _, _, _, _, _⟩) (v := ?_) rfl (by kernel_rfl) (by kernel_rfl) (by kernel_rfl) (fun _ _ _ h => h) (Or.inl ⟨by rfl, ?_⟩) (by assumption) ?_
      rotate_left
      · intro w hSw
        go_simp
        all_goals with_reducible rfl
      simp only [Act.put, List.setIfInBounds_toArray, List.set_cons_zero, List.set_cons_succ]
      refine wpAnyH_take (i := 5) (oi := ⟨_, _, _, _, _, _⟩) (v := ?_) rfl (by kernel_rfl) (by kernel_rfl) (by kernel_rfl) (fun _ _ _ h => h) (Or.inl ⟨by rfl, ?_⟩) (by assumption) ?_
      rotate_left
      · intro w hSw
        go_simp
        all_goals with_reducible rfl
      simp only [Act.put, List.setIfInBounds_toArray, List.set_cons_zero, List.set_cons_succ]
      refine wpAnyH_take (i := 6) (oi := ⟨_, _, _, _, _, _⟩) (v := ?_) rfl (by kernel_rfl) (by kernel_rfl) (by kernel_rfl) (fun _ _ _ h => h) (Or.inl ⟨by rfl, ?_⟩) (by assumption) ?_
      rotate_left
      · intro w hSw
        go_simp
        all_goals with_reducible rfl
      simp only [Act.put, List.setIfInBounds_toArray, List.set_cons_zero, List.set_cons_succ]
      refine wpAnyH_take (i := 7) (oi := ⟨_, _, _, _, _, _⟩) (v := undef) rfl (by kernel_rfl) (by kernel_rfl) (by kernel_rfl) (fun _ _ _ h => h) (Or.inr ⟨by rfl, rfl⟩) (by assumption) ?_
      simp only [Act.put, List.setIfInBounds_toArray, List.set_cons_zero, List.set_cons_succ]
      refine wpAnyH_take (i := 8) (oi := ⟨_, _, _, _, _, _⟩) (v := undef) rfl (by kernel_rfl) (by kernel_rfl) (by kernel_rfl) (fun _ _ _ h => h) (Or.inr ⟨by rfl, rfl⟩) (by assumption) ?_
      simp only [Act.put, List.setIfInBounds_toArray, List.set_cons_zero, List.set_cons_succ]
      refine wpAnyH_take (i := 9) (oi := ⟨_, _, _, _, _, _⟩) (v := undef) rfl (by kernel_rfl) (by kernel_rfl) (by kernel_rfl) (fun _ _ _ h => h) (Or.inr ⟨by rfl, rfl⟩) (by assumption) ?_
      simp only [Act.put, List.setIfInBounds_toArray, List.set_cons_zero, List.set_cons_succ]
      refine wpAnyH_take (i := 10) (oi := ⟨_, _, _, _, _, _⟩) (v := undef) rfl (by kernel_rfl) (by kernel_rfl) (by kernel_rfl) (fun _ _ _ h => h) (Or.inr ⟨by rfl, rfl⟩) (by assumption) ?_
      simp only [Act.put, List.setIfInBounds_toArray, List.set_cons_zero, List.set_cons_succ]
      refine wpAnyH_take (i := 11) (oi := ⟨_, _, _, _, _, _⟩) (v := undef) rfl (by kernel_rfl) (by kernel_rfl) (by kernel_rfl) (fun _ _ _ h => h) (Or.inr ⟨by rfl, rfl⟩) (by assumption) ?_
      simp only [Act.put, List.setIfInBounds_toArray, List.set_cons_zero, List.set_cons_succ]
      refine wpAnyH_take (i := 12) (oi := ⟨_, _, _, _, _, _⟩) (v := ?_) rfl (by kernel_rfl) (by kernel_rfl) (by kernel_rfl) (fun _ _ _ h => h) (Or.inl ⟨by rfl, ?_⟩) (by assumption) ?_
      rotate_left
      · intro w hSw
        go_simp
        all_goals with_reducible rfl
      simp only [Act.put, List.setIfInBounds_toArray, List.set_cons_zero, List.set_cons_succ]
      refine wpAnyH_done (by kernel_rfl) ?_ _
      go_wp2_with fail
      go_ret
      exact ⟨HRES.out, (H2.out.2.2).drew⟩
    · obtain rfl := HSF.out.2.2.2
      go_wp2_with fail
      refine wp_region_held_drew (S := fun W => Below W2.heap.size W2 W) (by kernel_rfl) (Below.refl _ _).drew (fun hHeld => ?_)
      refine wpAnyH_take (i := 0) (oi := ⟨_, _, _, _, _, _⟩) (v := ?_) rfl (by kernel_rfl) (by kernel_rfl) (by kernel_rfl) (fun _ _ _ h => h) (Or.inl ⟨by rfl, ?_⟩) (by assumption) ?_
      rotate_left
      · intro w hSw
        go_simp
        all_goals with_reducible rfl
      simp only [Act.put, List.setIfInBounds_toArray, List.set_cons_zero, List.set_cons_succ]
      refine wpAnyH_take (i := 1) (oi := ⟨_, _, _, _, _, _⟩) (v := ?_) rfl (by kernel_rfl) (by kernel_rfl) (by kernel_rfl) (fun _ _ _ h => h) (Or.inl ⟨by rfl, ?_⟩) (by assumption) ?_
      rotate_left
      · intro w hSw
        go_simp
        all_goals with_reducible rfl
      simp only [Act.put, List.setIfInBounds_toArray, List.set_cons_zero, List.set_cons_succ]
      refine wpAnyH_take (i := 2) (oi := ⟨_, _, _, _, _, _⟩) (v := ?_) rfl (by kernel_rfl) (by kernel_rfl) (by kernel_rfl) (fun _ _ _ h => h) (Or.inl ⟨by rfl, ?_⟩) (by assumption) ?_
      rotate_left
      · intro w hSw
        go_simp
        all_goals with_reducible rfl
      simp only [Act.put, List.setIfInBounds_toArray, List.set_cons_zero, List.set_cons_succ]
      refine wpAnyH_take (i := 3) (oi := ⟨_, _, _, _, _, _⟩) (v := ?_) rfl (by kernel_rfl) (by kernel_rfl) (by kernel_rfl) (fun _ _ _ h => h) (Or.inl ⟨by rfl, ?_⟩) (by assumption) ?_
      rotate_left
      · intro w hSw
        go_simp
        all_goals with_reducible rfl
      simp only [Act.put, List.setIfInBounds_toArray, List.set_cons_zero, List.set_cons_succ]
      refine wpAnyH_take (i := 4) (oi := ⟨_, _, _, _, _, _⟩) (v := ?_) rfl (by kernel_rfl) (by kernel_rfl) (by kernel_rfl) (fun _ _ _ h => h) (Or.inl ⟨by rfl, ?_⟩) (by assumption) ?_
      rotate_left
      · intro w hSw
        go_simp
        all_goals with_reducible rfl
      simp only [Act.put, List.setIfInBounds_toArray, List.set_cons_zero, List.set_cons_succ]
      refine wpAnyH_take (i := 5) (oi := ⟨_, _, _, _, _, _⟩) (v := ?_) rfl (by kernel_rfl) (by kernel_rfl) (by kernel_rfl) (fun _ _ _ h => h) (Or.inl ⟨by rfl, ?_⟩) (by assumption) ?_
      rotate_left
      · intro w hSw
        go_simp
        all_goals with_reducible rfl
      simp only [Act.put, List.setIfInBounds_toArray, List.set_cons_zero, List.set_cons_succ]
      refine wpAnyH_take (i := 6) (oi := ⟨_, _, _, _, _, _⟩) (v := ?_) rfl (by kernel_rfl) (by kernel_rfl) (by kernel_rfl) (fun _ _ _ h => h) (Or.inl ⟨by rfl, ?_⟩) (by assumption) ?_
      rotate_left
      · intro w hSw
        go_simp
        all_goals with_reducible rfl
      simp only [Act.put, List.setIfInBounds_toArray, List.set_cons_zero, List.set_cons_succ]
      refine wpAnyH_take (i := 7) (oi := ⟨_, _, _, _, _, _⟩) rfl (by kernel_rfl) (by kernel_rfl) (by kernel_rfl) (fun _ _ _ h => h) (yields_row 34 (.tmp 2) (w.heap.size) cf _ (fun w h => H2.out.1.below h H2.out.1.lt) Tryz.underlying34 (by rfl) rfl rfl rfl HCF.out) (by assumption) ?_
      simp only [Act.put, List.setIfInBounds_toArray, List.set_cons_zero, List.set_cons_succ]
      refine wpAnyH_take (i := 9) (oi := ⟨_, _, _, _, _, _⟩) rfl (by kernel_rfl) (by kernel_rfl) (by kernel_rfl) (fun _ _ _ h => h) (yields_row 34 (.tmp 3) (w.heap.size + 1) cg _ (fun w h => H2.out.2.1.below h H2.out.2.1.lt) Tryz.underlying34 (by rfl) rfl rfl rfl HCG.out) (by assumption) ?_
      simp only [Act.put, List.setIfInBounds_toArray, List.set_cons_zero, List.set_cons_succ]
      refine wpAnyH_ready (rs := [8]) (by kernel_rfl) (by simp) ?_
      refine AllReadyH.cons (o := ⟨_, _, _, _, _, _⟩) rfl (fun K hK => ?_) AllReadyH.nil
      go_simp
      go_at_call 60
      refine (KF.out _).mono ?_
      rintro e W3 ⟨rfl, hb3⟩
      have HB3 : Hid (Below W2.heap.size W2 W3) := Lib.hid ((Below.refl W2.heap.size W2).drew.trans (hb3.mono (Below.refl W2.heap.size W2).drew.size))
      clear hb3
      go_wp2_with fail
      refine hK.out _ _ HB3.out (fun hHeld => ?_)
      clear hK K
      try simp only [Act.put, List.setIfInBounds_toArray, List.set_cons_zero, List.set_cons_succ]
      refine wpAnyH_ready (rs := [10]) (by kernel_rfl) (by simp) ?_
      refine AllReadyH.cons (o := ⟨_, _, _, _, _, _⟩) rfl (fun K hK => ?_) AllReadyH.nil
      go_simp
      go_at_call 60
      refine (KG.out _).mono ?_
      rintro e W4 ⟨rfl, hb4⟩
      have HB4 : Hid (Below W2.heap.size W2 W4) := Lib.hid (HB3.out.trans (hb4.mono HB3.out.size))
      clear hb4
      go_wp2_with fail
      refine hK.out _ _ HB4.out (fun hHeld => ?_)
      clear hK K
      try simp only [Act.put, List.setIfInBounds_toArray, List.set_cons_zero, List.set_cons_succ]
      refine wpAnyH_take (i := 11) (oi := ⟨_, _, _, _, _, _⟩) (v := ?_) rfl (by kernel_rfl) (by kernel_rfl) (by kernel_rfl) (fun _ _ _ h => h) (Or.inl ⟨by rfl, ?_⟩) (by assumption) ?_
      rotate_left
      · intro w hSw
        have hek := HEK.out w
        go_simp
        all_goals with_reducible rfl
      simp only [Act.put, List.setIfInBounds_toArray, List.set_cons_zero, List.set_cons_succ]
      refine wpAnyH_take (i := 12) (oi := ⟨_, _, _, _, _, _⟩) (v := ?_) rfl (by kernel_rfl) (by kernel_rfl) (by kernel_rfl) (fun _ _ _ h => h) (Or.inl ⟨by rfl, ?_⟩) (by assumption) ?_
      rotate_left
      · intro w hSw
        go_simp
        all_goals with_reducible rfl
      simp only [Act.put, List.setIfInBounds_toArray, List.set_cons_zero, List.set_cons_succ]
      refine wpAnyH_done (by kernel_rfl) ?_ _
      have HBE := Lib.hid (H2.out.2.2.trans (HB4.out.mono H2.out.2.2.size))
      cases kq
      · go_wp2_with fail
        go_ret
        exact ⟨by rw [HP.out]; rfl, HBE.out⟩
      · have c2 : W4.cell? ⟨w.heap.size, 2, none⟩ = some (.int .i64 nf) := by rw [(H2.out.1.below HB4.out H2.out.1.lt).cell]; exact HC2.out.1
        have d2 : W4.cell? ⟨w.heap.size + 1, 2, none⟩ = some (.int .i64 ng) := by rw [(H2.out.2.1.below HB4.out H2.out.2.1.lt).cell]; exact HC2.out.2
        obtain ⟨rfl, rfl, _⟩ := HSF.out
        rcases Int.lt_trichotomy nf ng with h | h | h
        · go_wp2_with fail
          go_ret
          exact ⟨by rw [HP.out, if_neg (by omega), decide_eq_false (show ¬ ng < nf by omega)]; rfl, HBE.out⟩
        · have HPB : Hid (PB = decide (0 < Lib.compareBytes lf lg)) := Lib.hid (by rw [HP.out, if_pos h]; rfl)
          clear HP
          subst h
          go_wp2_with fail
          go_ret
          exact ⟨by rw [HPB.out, ← bytes_gt]; rfl, HBE.out⟩
        · go_wp2_with fail
          go_ret
          exact ⟨by rw [HP.out, if_neg (by omega), decide_eq_true h]; rfl, HBE.out⟩
def lessK (a b : Int × Int × Int) : Bool := if a.1 = b.1 then (if a.2.1 = b.2.1 then decide (a.2.2 < b.2.2) else decide (a.2.1 < b.2.1)) else decide (a.1 < b.1)
theorem lessK_iff {a b : Int × Int × Int} : lessK a b = true ↔ kLt a b := by
  unfold lessK kLt
  split
  · split
    · simp; omega
    · simp; omega
  · simp; omega
set_option maxRecDepth 100000 in
set_option maxHeartbeats 2000000 in
theorem less_any (a b : Int × Int × Int) (w : World) :
    Calls Tryz.prog 62 #[kV a, kV b] w fun e w' => e = .returned (.bool (lessK a b)) ∧ Below w.heap.size w w' := by
  obtain ⟨a0, a1, a2⟩ := a
  obtain ⟨b0, b1, b2⟩ := b
  unfold kV
  have r1 := (RowAt.new w 48 #[.int .i64 a0, .int .i64 a1, .int .i64 a2]).alloc (.cells #[.int .i64 b0, .int .i64 b1, .int .i64 b2] 48)
  have r2 := RowAt.new (w.alloc (.cells #[.int .i64 a0, .int .i64 a1, .int .i64 a2] 48)) 48 #[.int .i64 b0, .int .i64 b1, .int .i64 b2]
  have e1 : (w.alloc (.cells #[.int .i64 a0, .int .i64 a1, .int .i64 a2] 48)).heap.size = w.heap.size + 1 := by simp
  rw [e1] at r2
  obtain ⟨W0, hW0⟩ : ∃ W0, (w.alloc (.cells #[.int .i64 a0, .int .i64 a1, .int .i64 a2] 48)).alloc (.cells #[.int .i64 b0, .int .i64 b1, .int .i64 b2] 48) = W0 := ⟨_, rfl⟩
  have hb0 : Below w.heap.size w W0 := by rw [← hW0]; exact ((Below.refl _ _).alloc (Nat.le_refl _) _).alloc (by simp) _
  rw [hW0] at r1 r2
  have HW0 := Lib.hid hW0
  have HR := Lib.hid (And.intro r1 (And.intro r2 hb0))
  clear r1 r2 e1 hb0 hW0
  go_enter Tryz.func62, Tryz.ntmps62
  go_wp2_with fail
  rw [HW0.out]
  go_loopw [5] (fun v5 wr => ∃ k : Nat, k ≤ 3 ∧ v5 = .int .i64 k ∧ (1 ≤ k → a0 = b0) ∧ (2 ≤ k → a1 = b1) ∧ (3 ≤ k → a2 = b2) ∧ Hid (Below W0.heap.size W0 wr)) (fun v5 _ => 3 - (RowKit.intOf v5).toNat)
  case atStart => exact ⟨0, by omega, rfl, by omega, by omega, by omega, Lib.hid (Below.refl _ _)⟩
  case round =>
    obtain ⟨k, hk, rfl, q0, q1, q2, HW⟩ := hrel
    have HBW := Lib.hid (HR.out.2.2.trans (HW.out.mono HR.out.2.2.size))
    rcases (by omega : k = 0 ∨ k = 1 ∨ k = 2 ∨ k = 3) with rfl | rfl | rfl | rfl
    · have cx : wr.cell? ⟨w.heap.size, 0, none⟩ = some (.int .i64 a0) := by rw [(HR.out.1.below HW.out HR.out.1.lt).cell]; rfl
      have cy : wr.cell? ⟨w.heap.size + 1, 0, none⟩ = some (.int .i64 b0) := by rw [(HR.out.2.1.below HW.out HR.out.2.1.lt).cell]; rfl
      by_cases hxy : a0 = b0
      · subst hxy
        clear q0 q1 q2
        go_wp2_with fail
        go_quiet (fail)
        go_wp2_with fail
        go_roundw
        case rel => exact ⟨1, by omega, by go_num, by simp, by omega, by omega, Lib.hid (below_drewN HW.out _)⟩
        case measure => simp [RowKit.intOf]
      · have q : (a0 != b0) = true := by rw [bne_iff_ne]; exact hxy
        have HH := Lib.hid hxy
        clear q0 q1 q2 hxy
        go_wp2_with fail
        go_quiet (fail)
        go_wp2_with fail
        go_quiet (fail)
        go_wp2_with fail
        go_ret
        exact ⟨by unfold lessK; simp only; rw [if_neg HH.out]; try rfl, below_drewN (below_drewN HBW.out _) _⟩
    · have cx : wr.cell? ⟨w.heap.size, 1, none⟩ = some (.int .i64 a1) := by rw [(HR.out.1.below HW.out HR.out.1.lt).cell]; rfl
      have cy : wr.cell? ⟨w.heap.size + 1, 1, none⟩ = some (.int .i64 b1) := by rw [(HR.out.2.1.below HW.out HR.out.2.1.lt).cell]; rfl
      have H0 := Lib.hid (q0 (by omega))
      by_cases hxy : a1 = b1
      · subst hxy
        clear q0 q1 q2
        go_wp2_with fail
        go_quiet (fail)
        go_wp2_with fail
        go_roundw
        case rel => exact ⟨2, by omega, by go_num, fun _ => H0.out, by simp, by omega, Lib.hid (below_drewN HW.out _)⟩
        case measure => simp [RowKit.intOf]
      · have q : (a1 != b1) = true := by rw [bne_iff_ne]; exact hxy
        have HH := Lib.hid hxy
        clear q0 q1 q2 hxy
        go_wp2_with fail
        go_quiet (fail)
        go_wp2_with fail
        go_quiet (fail)
        go_wp2_with fail
        go_ret
        exact ⟨by unfold lessK; simp only; rw [if_pos H0.out, if_neg HH.out]; try rfl, below_drewN (below_drewN HBW.out _) _⟩
    · have cx : wr.cell? ⟨w.heap.size, 2, none⟩ = some (.int .i64 a2) := by rw [(HR.out.1.below HW.out HR.out.1.lt).cell]; rfl
      have cy : wr.cell? ⟨w.heap.size + 1, 2, none⟩ = some (.int .i64 b2) := by rw [(HR.out.2.1.below HW.out HR.out.2.1.lt).cell]; rfl
      have H0 := Lib.hid (q0 (by omega))
      have H1 := Lib.hid (q1 (by omega))
      by_cases hxy : a2 = b2
      · subst hxy
        clear q0 q1 q2
        go_wp2_with fail
        go_quiet (fail)
        go_wp2_with fail
        go_roundw
        case rel => exact ⟨3, by omega, by go_num, fun _ => H0.out, fun _ => H1.out, by simp, Lib.hid (below_drewN HW.out _)⟩
        case measure => simp [RowKit.intOf]
      · have q : (a2 != b2) = true := by rw [bne_iff_ne]; exact hxy
        have HH := Lib.hid hxy
        clear q0 q1 q2 hxy
        go_wp2_with fail
        go_quiet (fail)
        go_wp2_with fail
        go_quiet (fail)
        go_wp2_with fail
        go_ret
        exact ⟨by unfold lessK; simp only; rw [if_pos H0.out, if_pos H1.out]; try rfl, below_drewN (below_drewN HBW.out _) _⟩
    · have H0 := Lib.hid (q0 (by omega))
      have H1 := Lib.hid (q1 (by omega))
      have H2 := Lib.hid (q2 (by omega))
      clear q0 q1 q2
      go_wp2_with fail
      go_ret
      exact ⟨by unfold lessK; simp only; rw [if_pos H0.out, if_pos H1.out, decide_eq_false (show ¬ a2 < b2 by have := H2.out; omega)]; try rfl, HBW.out⟩
end Go.Proofs.YtgjajhopjcdflaaGreat
namespace Go.Proofs.YtgjajhopjcdflaaGreat
open Go Go.RowKit Go.Lib Go.Shelf Go.Maps

/-- one round of the reference's insert: the list so far, and whether the fact is in it -/
def stepI (f : FactV) (s : List FactV × Bool) (g : FactV) : List FactV × Bool :=
  if s.2 then (s.1 ++ [g], true)
  else if keyEq g f then (s.1 ++ [if prevB f g then f else g], true)
  else if lessK (kT f) (kT g) then (s.1 ++ [f] ++ [g], true)
  else (s.1 ++ [g], false)
def runI (f : FactV) (l : List FactV) : List FactV × Bool := l.foldl (stepI f) ([], false)
def insL (f : FactV) (l : List FactV) : List FactV := if (runI f l).2 then (runI f l).1 else (runI f l).1 ++ [f]
theorem runI_take (f : FactV) {l : List FactV} {j : Nat} {g : FactV} (h : l[j]? = some g) : runI f (l.take (j + 1)) = stepI f (runI f (l.take j)) g := by
  rw [take_next h]; simp [runI]
theorem stepI_len (f : FactV) (s : List FactV × Bool) (g : FactV) : (stepI f s g).1.length ≤ s.1.length + 2 := by
  unfold stepI
  split
  · simp
  · split
    · simp
    · split <;> simp
theorem runI_len (f : FactV) (l : List FactV) : (runI f l).1.length ≤ 2 * l.length := by
  have h : ∀ (l : List FactV) (s : List FactV × Bool), (l.foldl (stepI f) s).1.length ≤ s.1.length + 2 * l.length := by
    intro l
    induction l with
    | nil => intro s; simp
    | cons x l ih => intro s; have := ih (stepI f s x); have := stepI_len f s x; simp only [List.foldl_cons, List.length_cons]; omega
  have := h l ([], false)
  simpa [runI] using this
set_option linter.unusedSimpArgs false in
set_option maxRecDepth 100000 in
set_option maxHeartbeats 20000000 in
theorem insert_any (f : FactV) (l : List FactV) (v : Value) (w : World) (hn : l.length ≤ 1000) (hv : FactsAt w v l) (hf : FactOk f) (hl : ∀ g ∈ l, FactOk g) :
    Calls Tryz.prog 37 #[v, .agg f.cells] w fun e w' => ∃ v', e = .returned v' ∧ OwnF w' w.heap.size v' (insL f l) ∧ Below w.heap.size w w' := by
  have HV := Lib.hid hv
  have HL := Lib.hid hl
  have HF := Lib.hid hf
  have HCI : Hid ((Tryz.prog.info? 34).map (·.size) = some f.cells.size) := Lib.hid fact_size
  have KF := Lib.hid (fun W => rkey_any f W)
  unfold keyV at KF
  have hr0 := RowAt.new w 34 f.cells
  have HR0 := Lib.hid hr0
  obtain ⟨x0, hx0⟩ : ∃ z, f.n 0 = z := ⟨_, rfl⟩
  obtain ⟨x1, hx1⟩ : ∃ z, (key2 f).1 = z := ⟨_, rfl⟩
  obtain ⟨x2, hx2⟩ : ∃ z, (key2 f).2 = z := ⟨_, rfl⟩
  have HKX := Lib.hid (And.intro hx0 (And.intro hx1 hx2))
  simp only [hx0, hx1, hx2] at KF
  obtain ⟨cf, hcf⟩ : ∃ z, f.cells = z := ⟨_, rfl⟩
  have HCF := Lib.hid hcf
  rw [hcf] at HCI HR0 ⊢
  simp only [hcf] at KF
  obtain ⟨A, c, rfl⟩ := hv.sl
  obtain ⟨m, hm⟩ : ∃ z, l.length = z := ⟨_, rfl⟩
  rw [hm] at HV hn ⊢
  have HM := Lib.hid hm
  clear hv hl hf hr0 hx0 hx1 hx2 hcf hm
  go_enter Tryz.func37, Tryz.ntmps37
  go_wp2_with (first | ((with_reducible refine load_cs (o := ⟨some 11, _, _, _, _, _⟩) (.tmp 3) w.heap.size cf (fun j v h => by rw [Nat.zero_add, HR0.out.cell]; exact h) HCI.out ?_ ?_ ?_ ?_); rfl; rfl; rfl))
  refine (KF.out _).mono ?_
  rintro e W1 ⟨rfl, hb⟩
  have H1 : Hid (RowAt W1 w.heap.size 34 cf ∧ Below w.heap.size w W1) := Lib.hid ⟨HR0.out.below hb HR0.out.lt, ((Below.refl w.heap.size w).alloc (Nat.le_refl _) _).trans (hb.mono (by simp))⟩
  clear hb
  obtain ⟨N6, hN6⟩ : ∃ z, W1.heap.size = z := ⟨_, rfl⟩
  obtain ⟨WB, hWB⟩ : ∃ z, W1.alloc (.cells #[.int .i64 x0, .int .i64 x1, .int .i64 x2] 48) = z := ⟨_, rfl⟩
  have hr6 := RowAt.new W1 48 #[.int .i64 x0, .int .i64 x1, .int .i64 x2]
  have hbw := (Below.refl W1.heap.size W1).alloc (Nat.le_refl _) (.cells #[.int .i64 x0, .int .i64 x1, .int .i64 x2] 48)
  rw [hWB] at hr6 hbw
  rw [hN6] at hr6
  have H6 : Hid (RowAt WB N6 48 #[.int .i64 x0, .int .i64 x1, .int .i64 x2] ∧ RowAt WB w.heap.size 34 cf ∧ Below w.heap.size w WB ∧ FactsAt WB (.slice A m c) l) := Lib.hid ⟨hr6, H1.out.1.below hbw H1.out.1.lt, H1.out.2.trans (hbw.mono H1.out.2.size), HV.out.more (H1.out.2.trans (hbw.mono H1.out.2.size))⟩
  have HWB2 := Lib.hid (And.intro hWB hN6)
  clear hr6 hbw hWB hN6
  go_wp2_with fail
  rw [HWB2.out.1, HWB2.out.2]
  go_loopw [5, 7, 8, 9, 10] (fun v5 v7 v8 v9 v10 wr => ∃ i : Nat, v8 = .int .i64 i ∧ i ≤ m ∧ v7 = .bool (runI f (l.take i)).2 ∧ Hid (OwnF wr WB.heap.size v5 (runI f (l.take i)).1 ∧ Below WB.heap.size WB wr)) (fun _ _ v8 _ _ _ => m - (RowKit.intOf v8).toNat)
  case atStart => exact ⟨0, rfl, by omega, rfl, Lib.hid ⟨OwnF.nil _ _, Below.refl _ _⟩⟩
  case round =>
    obtain ⟨i, rfl, hi, rfl, HS⟩ := hrel
    have HLEN0 : Hid ((runI f (l.take i)).1.length ≤ 2 * i) := Lib.hid (by
      have h1 := runI_len f (l.take i)
      rw [List.length_take] at h1
      omega)
    by_cases h1 : i < m
    · have h1d : decide (i < m) = true := by simpa using h1
      obtain ⟨gg, hgg⟩ : ∃ x, l[i]? = some x := ⟨_, List.getElem?_eq_getElem (by have := HM.out; omega)⟩
      obtain ⟨b, o, rfl, hlt0, hcell0⟩ := H6.out.2.2.2.get hgg
      have HST := Lib.hid (runI_take f hgg)
      obtain ⟨⟨out, d⟩, hod⟩ : ∃ z, runI f (l.take i) = z := ⟨_, rfl⟩
      rw [hod] at HST HS HLEN0 ⊢
      have HLEN : Hid (out.length ≤ 1000000) := Lib.hid (by have := HLEN0.out; simp only at this; omega)
      have HLEN2 : Hid ((out ++ [f]).length ≤ 1000000) := Lib.hid (by have := HLEN0.out; simp only at this; rw [List.length_append, List.length_singleton]; omega)
      have HWB : Hid (Below WB.heap.size WB wr) := Lib.hid HS.out.2
      have HSZ : Hid (WB.heap.size ≤ wr.heap.size) := Lib.hid HS.out.2.size
      have HXR : Hid (RowAt wr w.heap.size 34 cf) := Lib.hid (H6.out.2.1.below HS.out.2 H6.out.2.1.lt)
      have HR6 : Hid (RowAt wr N6 48 #[.int .i64 x0, .int .i64 x1, .int .i64 x2]) := Lib.hid (H6.out.1.below HS.out.2 H6.out.1.lt)
      have HGI : Hid ((Tryz.prog.info? 34).map (·.size) = some gg.cells.size) := Lib.hid fact_size
      have HGO := Lib.hid (HL.out gg (List.mem_of_getElem? hgg))
      have KG := Lib.hid (fun W => rkey_any gg W)
      unfold keyV at KG
      have HEK := Lib.hid (eq_key (gg.n 0) (key2 gg).1 (key2 gg).2 (f.n 0) (key2 f).1 (key2 f).2)
      obtain ⟨kq, hkq⟩ : ∃ z, keyEq gg f = z := ⟨_, rfl⟩
      have hq2 : (gg.n 0 == f.n 0 && ((key2 gg).1 == (key2 f).1 && (key2 gg).2 == (key2 f).2)) = kq := hkq
      simp only [hq2] at HEK
      have LS := Lib.hid (fun W => less_any (kT f) (kT gg) W)
      obtain ⟨lk, hlk⟩ : ∃ z, lessK (kT f) (kT gg) = z := ⟨_, rfl⟩
      simp only [hlk] at LS
      unfold kV kT at LS
      have PV := Lib.hid (fun W => rprevails_any f gg W HF.out HGO.out)
      obtain ⟨pv, hpv⟩ : ∃ z, prevB f gg = z := ⟨_, rfl⟩
      simp only [hpv] at PV
      obtain ⟨z0, hz0⟩ : ∃ z, gg.n 0 = z := ⟨_, rfl⟩
      obtain ⟨z1, hz1⟩ : ∃ z, (key2 gg).1 = z := ⟨_, rfl⟩
      obtain ⟨z2, hz2⟩ : ∃ z, (key2 gg).2 = z := ⟨_, rfl⟩
      simp only [hz0, hz1, hz2] at KG HEK LS
      simp only [HKX.out.1, HKX.out.2.1, HKX.out.2.2] at HEK LS
      have HKQ := Lib.hid hkq
      have HLK := Lib.hid hlk
      have HPV := Lib.hid hpv
      obtain ⟨cgg, hcgg⟩ : ∃ z, gg.cells = z := ⟨_, rfl⟩
      have HCG2 := Lib.hid hcgg
      rw [hcgg] at hcell0 HGI
      simp only [hcgg] at KG PV
      simp only [HCF.out] at PV
      have HC0 : Hid (∀ W, Below WB.heap.size WB W → ∀ j2 x, cgg[j2]? = some x → W.cell? ⟨b, o + i * 18 + j2, none⟩ = some x) := Lib.hid (fun W hW j2 x hx => (hW.cell (p := ⟨b, o + i * 18 + j2, none⟩) hlt0).trans (hcell0 j2 x hx))
      have HC1 : Hid (∀ W, Below wr.heap.size wr W → ∀ j2 x, cgg[j2]? = some x → W.cell? ⟨b, o + i * 18 + j2, none⟩ = some x) := Lib.hid (fun W hW j2 x hx => HC0.out W (HWB.out.trans (hW.mono HSZ.out)) j2 x hx)
      have HL7 : Hid (∀ j2 x, cgg[j2]? = some x → wr.cell? ⟨b, o + i * 18 + j2, none⟩ = some x) := Lib.hid (HC1.out wr (Below.refl _ _))
      have HH1 := Lib.hid h1
      clear hgg hlt0 hcell0 hod hkq hq2 hlk hpv hz0 hz1 hz2 hcgg
      go_wp2_with (first | ((with_reducible refine load_at (o := ⟨some 22, _, _, _, _, _⟩) (.tmp 21) b (o + i * 18) cgg HL7.out HGI.out ?_ ?_ ?_ ?_); rfl; rfl; rfl))
      refine (KG.out _).mono ?_
      rintro e W5 ⟨rfl, hb5⟩
      obtain ⟨W6, hW6⟩ : ∃ z, W5.alloc (.cells #[.int .i64 z0, .int .i64 z1, .int .i64 z2] 48) = z := ⟨_, rfl⟩
      have hr9 := RowAt.new W5 48 #[.int .i64 z0, .int .i64 z1, .int .i64 z2]
      have hb6 := (Below.refl W5.heap.size W5).alloc (Nat.le_refl _) (.cells #[.int .i64 z0, .int .i64 z1, .int .i64 z2] 48)
      rw [hW6] at hr9 hb6
      obtain ⟨N9, hN9⟩ : ∃ z, W5.heap.size = z := ⟨_, rfl⟩
      rw [hN9] at hr9
      have HB6 : Hid (Below wr.heap.size wr W6) := Lib.hid (hb5.trans (hb6.mono hb5.size))
      have HO6 : Hid (OwnF W6 WB.heap.size u5 out) := Lib.hid (HS.out.1.below HB6.out)
      have hr6 := HR6.out.below HB6.out HR6.out.lt
      have k0 : W6.cell? ⟨N6, 0, none⟩ = some (.int .i64 x0) := by rw [hr6.cell]; rfl
      have k1 : W6.cell? ⟨N6, 1, none⟩ = some (.int .i64 x1) := by rw [hr6.cell]; rfl
      have k2 : W6.cell? ⟨N6, 2, none⟩ = some (.int .i64 x2) := by rw [hr6.cell]; rfl
      have j0 : W6.cell? ⟨N9, 0, none⟩ = some (.int .i64 z0) := by rw [hr9.cell]; rfl
      have j1 : W6.cell? ⟨N9, 1, none⟩ = some (.int .i64 z1) := by rw [hr9.cell]; rfl
      have j2 : W6.cell? ⟨N9, 2, none⟩ = some (.int .i64 z2) := by rw [hr9.cell]; rfl
      have hek := HEK.out
      have HW6 := Lib.hid (And.intro hW6 hN9)
      clear hb5 hb6 hr9 hr6 hW6 hN9
      go_upto_region 8 with fail
      rw [HW6.out.1, HW6.out.2]
      cases d
      · cases kq
        · go_wp2_with fail
          refine (LS.out _).mono ?_
          rintro e W7 ⟨rfl, hb7⟩
          have HB7 : Hid (Below wr.heap.size wr W7) := Lib.hid (HB6.out.trans (hb7.mono HB6.out.size))
          have HO7 : Hid (OwnF W7 WB.heap.size u5 out) := Lib.hid (HO6.out.below hb7)
          clear hb7
          cases lk
          · have HL4 : Hid (∀ j2 x, cgg[j2]? = some x → W7.cell? ⟨b, o + i * 18 + j2, none⟩ = some x) := Lib.hid (HC1.out W7 HB7.out)
            have HA4 : Hid (Below W7.heap.size W7 (W7.alloc (.cells cgg 34))) := Lib.hid ((Below.refl _ _).alloc (Nat.le_refl _) _)
            have HO4 : Hid (OwnF (W7.alloc (.cells cgg 34)) WB.heap.size u5 (out) ∧ (out).length ≤ 1000000 ∧ WB.heap.size ≤ (W7.alloc (.cells cgg 34)).heap.size ∧ ∀ (j2 : Nat) u, gg.cells.toList[j2]? = some u → (W7.alloc (.cells cgg 34)).cell? ((⟨W7.heap.size, 0, none⟩ : Addr).add j2) = some u) := Lib.hid ⟨HO7.out.below HA4.out, HLEN.out, Nat.le_trans (Nat.le_trans HSZ.out HB7.out.size) HA4.out.size, by rw [← HCG2.out]; exact fact_new W7 gg _⟩
            go_wp2_with (first | ((with_reducible refine load_at (o := ⟨some 64, _, _, _, _, _⟩) (.tmp 63) b (o + i * 18) cgg HL4.out HGI.out ?_ ?_ ?_ ?_); rfl; rfl; rfl) | ((with_reducible refine build_fact (o := ⟨some 65, _, _, _, _, _⟩) (.tmp 64) cgg gg HCG2.out ?_ ?_ ?_ ?_); rfl; rfl; rfl) | ((with_reducible refine append_fact (o := ⟨some 66, _, _, _, _, _⟩) (.tmp 60) (.tmp 65) WB.heap.size (out) gg W7.heap.size u5 HO4.out.1 HO4.out.2.1 HO4.out.2.2.1 HO4.out.2.2.2 ?_ ?_ ?_ ?_ ?_); rfl; rfl; rfl; rfl; intro v4 X4 hown4 hbl4; have HX4 : Hid (OwnF X4 WB.heap.size v4 ((out) ++ [gg]) ∧ Below WB.heap.size WB X4) := Lib.hid ⟨hown4, (HWB.out.trans ((HB7.out.trans (HA4.out.mono HB7.out.size)).mono HSZ.out)).trans hbl4⟩; clear hown4 hbl4))
            go_roundw
            case rel =>
              have hst := HST.out
              have hst2 : stepI f (out, false) gg = (out ++ [gg], false) := by unfold stepI; simp only [HKQ.out, HLK.out]; rfl
              rw [hst2] at hst
              exact ⟨i + 1, by go_num, by have := HH1.out; omega, by rw [hst], Lib.hid ⟨by rw [hst]; exact HX4.out.1, HX4.out.2⟩⟩
            case measure => simp [RowKit.intOf]; have := HH1.out; omega
          · have HL5 : Hid (∀ j2 x, cf[j2]? = some x → W7.cell? ⟨w.heap.size, 0 + j2, none⟩ = some x) := Lib.hid (fun j2 x hx => by rw [Nat.zero_add, (HXR.out.below HB7.out HXR.out.lt).cell]; exact hx)
            have HA5 : Hid (Below W7.heap.size W7 (W7.alloc (.cells cf 34))) := Lib.hid ((Below.refl _ _).alloc (Nat.le_refl _) _)
            have HO5 : Hid (OwnF (W7.alloc (.cells cf 34)) WB.heap.size u5 (out) ∧ (out).length ≤ 1000000 ∧ WB.heap.size ≤ (W7.alloc (.cells cf 34)).heap.size ∧ ∀ (j2 : Nat) u, f.cells.toList[j2]? = some u → (W7.alloc (.cells cf 34)).cell? ((⟨W7.heap.size, 0, none⟩ : Addr).add j2) = some u) := Lib.hid ⟨HO7.out.below HA5.out, HLEN.out, Nat.le_trans (Nat.le_trans HSZ.out HB7.out.size) HA5.out.size, by rw [← HCF.out]; exact fact_new W7 f _⟩
            go_wp2_with (first | ((with_reducible refine load_at (o := ⟨some 57, _, _, _, _, _⟩) (.tmp 3) w.heap.size (0) cf HL5.out HCI.out ?_ ?_ ?_ ?_); rfl; rfl; rfl) | ((with_reducible refine build_fact (o := ⟨some 58, _, _, _, _, _⟩) (.tmp 57) cf f HCF.out ?_ ?_ ?_ ?_); rfl; rfl; rfl) | ((with_reducible refine append_fact (o := ⟨some 59, _, _, _, _, _⟩) (.tmp 56) (.tmp 58) WB.heap.size (out) f W7.heap.size u5 HO5.out.1 HO5.out.2.1 HO5.out.2.2.1 HO5.out.2.2.2 ?_ ?_ ?_ ?_ ?_); rfl; rfl; rfl; rfl; intro v5 X5 hown5 hbl5; have HX5 : Hid (OwnF X5 WB.heap.size v5 ((out) ++ [f]) ∧ Below WB.heap.size WB X5) := Lib.hid ⟨hown5, (HWB.out.trans ((HB7.out.trans (HA5.out.mono HB7.out.size)).mono HSZ.out)).trans hbl5⟩; clear hown5 hbl5; have HL6 : Hid (∀ j2 x, cgg[j2]? = some x → X5.cell? ⟨b, o + i * 18 + j2, none⟩ = some x) := Lib.hid (HC0.out X5 HX5.out.2); have HA6 : Hid (Below X5.heap.size X5 (X5.alloc (.cells cgg 34))) := Lib.hid ((Below.refl _ _).alloc (Nat.le_refl _) _); have HO6 : Hid (OwnF (X5.alloc (.cells cgg 34)) WB.heap.size v5 (out ++ [f]) ∧ (out ++ [f]).length ≤ 1000000 ∧ WB.heap.size ≤ (X5.alloc (.cells cgg 34)).heap.size ∧ ∀ (j2 : Nat) u, gg.cells.toList[j2]? = some u → (X5.alloc (.cells cgg 34)).cell? ((⟨X5.heap.size, 0, none⟩ : Addr).add j2) = some u) := Lib.hid ⟨HX5.out.1.below HA6.out, HLEN2.out, Nat.le_trans HX5.out.2.size HA6.out.size, by rw [← HCG2.out]; exact fact_new X5 gg _⟩) | ((with_reducible refine load_at (o := ⟨some 64, _, _, _, _, _⟩) (.tmp 63) b (o + i * 18) cgg HL6.out HGI.out ?_ ?_ ?_ ?_); rfl; rfl; rfl) | ((with_reducible refine build_fact (o := ⟨some 65, _, _, _, _, _⟩) (.tmp 64) cgg gg HCG2.out ?_ ?_ ?_ ?_); rfl; rfl; rfl) | ((with_reducible refine append_fact (o := ⟨some 66, _, _, _, _, _⟩) (.tmp 60) (.tmp 65) WB.heap.size (out ++ [f]) gg X5.heap.size v5 HO6.out.1 HO6.out.2.1 HO6.out.2.2.1 HO6.out.2.2.2 ?_ ?_ ?_ ?_ ?_); rfl; rfl; rfl; rfl; intro v6 X6 hown6 hbl6; have HX6 : Hid (OwnF X6 WB.heap.size v6 ((out ++ [f]) ++ [gg]) ∧ Below WB.heap.size WB X6) := Lib.hid ⟨hown6, (HX5.out.2.trans (HA6.out.mono HX5.out.2.size)).trans hbl6⟩; clear hown6 hbl6))
            go_roundw
            case rel =>
              have hst := HST.out
              have hst2 : stepI f (out, false) gg = (out ++ [f] ++ [gg], true) := by unfold stepI; simp only [HKQ.out, HLK.out]; rfl
              rw [hst2] at hst
              exact ⟨i + 1, by go_num, by have := HH1.out; omega, by rw [hst], Lib.hid ⟨by rw [hst]; exact HX6.out.1, HX6.out.2⟩⟩
            case measure => simp [RowKit.intOf]; have := HH1.out; omega
        · go_wp2_with fail
          refine wp_region_held_drew (S := fun W => Below W6.heap.size W6 W) (by kernel_rfl) (Below.refl _ _).drew (fun hHeld => ?_)
          refine wpAnyH_take (i := 0) (oi := ⟨_, _, _, _, _, _⟩) rfl (by kernel_rfl) (by kernel_rfl) (by kernel_rfl) (fun _ _ _ h => h) (yields_at 34 (.tmp 3) w.heap.size (0) cf _ (fun W hW j2 x hx => by rw [Nat.zero_add, ((HXR.out.below HB6.out HXR.out.lt).below hW (Nat.lt_of_lt_of_le HXR.out.lt HB6.out.size)).cell]; exact hx) Tryz.underlying34 (by rfl) rfl rfl rfl HCI.out) (by assumption) ?_
          simp only [Act.put, List.setIfInBounds_toArray, List.set_cons_zero, List.set_cons_succ]
          refine wpAnyH_take (i := 1) (oi := ⟨_, _, _, _, _, _⟩) (v := ?_) rfl (by kernel_rfl) (by kernel_rfl) (by kernel_rfl) (fun _ _ _ h => h) (Or.inl ⟨by rfl, ?_⟩) (by assumption) ?_
          rotate_left
          · intro w hSw
            go_simp
            all_goals with_reducible rfl
          simp only [Act.put, List.setIfInBounds_toArray, List.set_cons_zero, List.set_cons_succ]
          refine wpAnyH_take (i := 2) (oi := ⟨_, _, _, _, _, _⟩) (v := ?_) rfl (by kernel_rfl) (by kernel_rfl) (by kernel_rfl) (fun _ _ _ h => h) (Or.inl ⟨by rfl, ?_⟩) (by assumption) ?_
          rotate_left
          · intro w hSw
            go_simp
            all_goals with_reducible rfl
          simp only [Act.put, List.setIfInBounds_toArray, List.set_cons_zero, List.set_cons_succ]
          refine wpAnyH_take (i := 3) (oi := ⟨_, _, _, _, _, _⟩) (v := ?_) rfl (by kernel_rfl) (by kernel_rfl) (by kernel_rfl) (fun _ _ _ h => h) (Or.inl ⟨by rfl, ?_⟩) (by assumption) ?_
          rotate_left
          · intro w hSw
            go_simp
            all_goals with_reducible rfl
          simp only [Act.put, List.setIfInBounds_toArray, List.set_cons_zero, List.set_cons_succ]
          refine wpAnyH_take (i := 4) (oi := ⟨_, _, _, _, _, _⟩) rfl (by kernel_rfl) (by kernel_rfl) (by kernel_rfl) (fun _ _ _ h => h) (yields_at 34 (.tmp 34) b (o + i * 18) cgg _ (fun W hW j2 x hx => HC1.out W (HB6.out.trans (hW.mono HB6.out.size)) j2 x hx) Tryz.underlying34 (by rfl) rfl rfl rfl HGI.out) (by assumption) ?_
          simp only [Act.put, List.setIfInBounds_toArray, List.set_cons_zero, List.set_cons_succ]
          refine wpAnyH_ready (rs := [5]) (by kernel_rfl) (by simp) ?_
          refine AllReadyH.cons (o := ⟨_, _, _, _, _, _⟩) rfl (fun K hK => ?_) AllReadyH.nil
          go_simp
          go_at_call 61
          refine (PV.out _).mono ?_
          rintro e W7 ⟨rfl, hb7⟩
          have HD7 : Hid (Below W6.heap.size W6 W7) := Lib.hid ((Below.refl W6.heap.size W6).drew.trans hb7)
          clear hb7
          go_wp2_with fail
          refine hK.out _ _ HD7.out (fun hHeld => ?_)
          clear hK K
          try simp only [Act.put, List.setIfInBounds_toArray, List.set_cons_zero, List.set_cons_succ]
          refine wpAnyH_ready (rs := [6]) (by kernel_rfl) (by simp) ?_
          refine AllReadyH.cons (o := ⟨_, _, _, _, _, _⟩) rfl (fun K hK => ?_) AllReadyH.nil
          go_simp
          refine hK.out _ _ HD7.out (fun hHeld => ?_)
          clear hK K
          try simp only [Act.put, List.setIfInBounds_toArray, List.set_cons_zero, List.set_cons_succ]
          refine wpAnyH_done (by kernel_rfl) ?_ _
          have HB7 : Hid (Below wr.heap.size wr W7) := Lib.hid (HB6.out.trans (HD7.out.mono HB6.out.size))
          have HO7 : Hid (OwnF W7 WB.heap.size u5 out) := Lib.hid (HO6.out.below HD7.out)
          cases pv
          · have HL2 : Hid (∀ j2 x, cgg[j2]? = some x → W7.cell? ⟨b, o + i * 18 + j2, none⟩ = some x) := Lib.hid (HC1.out W7 HB7.out)
            have HA2 : Hid (Below W7.heap.size W7 (W7.alloc (.cells cgg 34))) := Lib.hid ((Below.refl _ _).alloc (Nat.le_refl _) _)
            have HO2 : Hid (OwnF (W7.alloc (.cells cgg 34)) WB.heap.size u5 (out) ∧ (out).length ≤ 1000000 ∧ WB.heap.size ≤ (W7.alloc (.cells cgg 34)).heap.size ∧ ∀ (j2 : Nat) u, gg.cells.toList[j2]? = some u → (W7.alloc (.cells cgg 34)).cell? ((⟨W7.heap.size, 0, none⟩ : Addr).add j2) = some u) := Lib.hid ⟨HO7.out.below HA2.out, HLEN.out, Nat.le_trans (Nat.le_trans HSZ.out HB7.out.size) HA2.out.size, by rw [← HCG2.out]; exact fact_new W7 gg _⟩
            go_wp2_with (first | ((with_reducible refine load_at (o := ⟨some 46, _, _, _, _, _⟩) (.tmp 45) b (o + i * 18) cgg HL2.out HGI.out ?_ ?_ ?_ ?_); rfl; rfl; rfl) | ((with_reducible refine build_fact (o := ⟨some 47, _, _, _, _, _⟩) (.tmp 46) cgg gg HCG2.out ?_ ?_ ?_ ?_); rfl; rfl; rfl) | ((with_reducible refine append_fact (o := ⟨some 48, _, _, _, _, _⟩) (.tmp 42) (.tmp 47) WB.heap.size (out) gg W7.heap.size u5 HO2.out.1 HO2.out.2.1 HO2.out.2.2.1 HO2.out.2.2.2 ?_ ?_ ?_ ?_ ?_); rfl; rfl; rfl; rfl; intro v2 X2 hown2 hbl2; have HX2 : Hid (OwnF X2 WB.heap.size v2 ((out) ++ [gg]) ∧ Below WB.heap.size WB X2) := Lib.hid ⟨hown2, (HWB.out.trans ((HB7.out.trans (HA2.out.mono HB7.out.size)).mono HSZ.out)).trans hbl2⟩; clear hown2 hbl2))
            go_roundw
            case rel =>
              have hst := HST.out
              have hst2 : stepI f (out, false) gg = (out ++ [gg], true) := by unfold stepI; simp only [HKQ.out, HPV.out]; rfl
              rw [hst2] at hst
              exact ⟨i + 1, by go_num, by have := HH1.out; omega, by rw [hst], Lib.hid ⟨by rw [hst]; exact HX2.out.1, HX2.out.2⟩⟩
            case measure => simp [RowKit.intOf]; have := HH1.out; omega
          · have HL3 : Hid (∀ j2 x, cf[j2]? = some x → W7.cell? ⟨w.heap.size, 0 + j2, none⟩ = some x) := Lib.hid (fun j2 x hx => by rw [Nat.zero_add, (HXR.out.below HB7.out HXR.out.lt).cell]; exact hx)
            have HA3 : Hid (Below W7.heap.size W7 (W7.alloc (.cells cf 34))) := Lib.hid ((Below.refl _ _).alloc (Nat.le_refl _) _)
            have HO3 : Hid (OwnF (W7.alloc (.cells cf 34)) WB.heap.size u5 (out) ∧ (out).length ≤ 1000000 ∧ WB.heap.size ≤ (W7.alloc (.cells cf 34)).heap.size ∧ ∀ (j2 : Nat) u, f.cells.toList[j2]? = some u → (W7.alloc (.cells cf 34)).cell? ((⟨W7.heap.size, 0, none⟩ : Addr).add j2) = some u) := Lib.hid ⟨HO7.out.below HA3.out, HLEN.out, Nat.le_trans (Nat.le_trans HSZ.out HB7.out.size) HA3.out.size, by rw [← HCF.out]; exact fact_new W7 f _⟩
            go_wp2_with (first | ((with_reducible refine load_at (o := ⟨some 39, _, _, _, _, _⟩) (.tmp 3) w.heap.size (0) cf HL3.out HCI.out ?_ ?_ ?_ ?_); rfl; rfl; rfl) | ((with_reducible refine build_fact (o := ⟨some 40, _, _, _, _, _⟩) (.tmp 39) cf f HCF.out ?_ ?_ ?_ ?_); rfl; rfl; rfl) | ((with_reducible refine append_fact (o := ⟨some 41, _, _, _, _, _⟩) (.tmp 38) (.tmp 40) WB.heap.size (out) f W7.heap.size u5 HO3.out.1 HO3.out.2.1 HO3.out.2.2.1 HO3.out.2.2.2 ?_ ?_ ?_ ?_ ?_); rfl; rfl; rfl; rfl; intro v3 X3 hown3 hbl3; have HX3 : Hid (OwnF X3 WB.heap.size v3 ((out) ++ [f]) ∧ Below WB.heap.size WB X3) := Lib.hid ⟨hown3, (HWB.out.trans ((HB7.out.trans (HA3.out.mono HB7.out.size)).mono HSZ.out)).trans hbl3⟩; clear hown3 hbl3))
            go_roundw
            case rel =>
              have hst := HST.out
              have hst2 : stepI f (out, false) gg = (out ++ [f], true) := by unfold stepI; simp only [HKQ.out, HPV.out]; rfl
              rw [hst2] at hst
              exact ⟨i + 1, by go_num, by have := HH1.out; omega, by rw [hst], Lib.hid ⟨by rw [hst]; exact HX3.out.1, HX3.out.2⟩⟩
            case measure => simp [RowKit.intOf]; have := HH1.out; omega
      · have HL1 : Hid (∀ j2 x, cgg[j2]? = some x → W6.cell? ⟨b, o + i * 18 + j2, none⟩ = some x) := Lib.hid (HC1.out W6 HB6.out)
        have HA1 : Hid (Below W6.heap.size W6 (W6.alloc (.cells cgg 34))) := Lib.hid ((Below.refl _ _).alloc (Nat.le_refl _) _)
        have HO1 : Hid (OwnF (W6.alloc (.cells cgg 34)) WB.heap.size u5 (out) ∧ (out).length ≤ 1000000 ∧ WB.heap.size ≤ (W6.alloc (.cells cgg 34)).heap.size ∧ ∀ (j2 : Nat) u, gg.cells.toList[j2]? = some u → (W6.alloc (.cells cgg 34)).cell? ((⟨W6.heap.size, 0, none⟩ : Addr).add j2) = some u) := Lib.hid ⟨HO6.out.below HA1.out, HLEN.out, Nat.le_trans (Nat.le_trans HSZ.out HB6.out.size) HA1.out.size, by rw [← HCG2.out]; exact fact_new W6 gg _⟩
        go_wp2_with (first | ((with_reducible refine load_at (o := ⟨some 64, _, _, _, _, _⟩) (.tmp 63) b (o + i * 18) cgg HL1.out HGI.out ?_ ?_ ?_ ?_); rfl; rfl; rfl) | ((with_reducible refine build_fact (o := ⟨some 65, _, _, _, _, _⟩) (.tmp 64) cgg gg HCG2.out ?_ ?_ ?_ ?_); rfl; rfl; rfl) | ((with_reducible refine append_fact (o := ⟨some 66, _, _, _, _, _⟩) (.tmp 60) (.tmp 65) WB.heap.size (out) gg W6.heap.size u5 HO1.out.1 HO1.out.2.1 HO1.out.2.2.1 HO1.out.2.2.2 ?_ ?_ ?_ ?_ ?_); rfl; rfl; rfl; rfl; intro v1 X1 hown1 hbl1; have HX1 : Hid (OwnF X1 WB.heap.size v1 ((out) ++ [gg]) ∧ Below WB.heap.size WB X1) := Lib.hid ⟨hown1, (HWB.out.trans ((HB6.out.trans (HA1.out.mono HB6.out.size)).mono HSZ.out)).trans hbl1⟩; clear hown1 hbl1))
        go_roundw
        case rel =>
          have hst := HST.out
          have hst2 : stepI f (out, true) gg = (out ++ [gg], true) := by unfold stepI; rfl
          rw [hst2] at hst
          exact ⟨i + 1, by go_num, by have := HH1.out; omega, by rw [hst], Lib.hid ⟨by rw [hst]; exact HX1.out.1, HX1.out.2⟩⟩
        case measure => simp [RowKit.intOf]; have := HH1.out; omega
    · obtain rfl : i = m := by omega
      have h1d : decide (i < i) = false := by simp
      have htk : l.take i = l := List.take_of_length_le (by rw [HM.out]; omega)
      rw [htk] at HS HLEN0 ⊢
      have hins : insL f l = if (runI f l).2 then (runI f l).1 else (runI f l).1 ++ [f] := rfl
      obtain ⟨⟨out, d⟩, hod⟩ : ∃ z, runI f l = z := ⟨_, rfl⟩
      rw [hod] at hins HS HLEN0 ⊢
      have HINS := Lib.hid hins
      have HLEN : Hid (out.length ≤ 1000000) := Lib.hid (by have := HLEN0.out; simp only at this; omega)
      have HWB : Hid (Below WB.heap.size WB wr) := Lib.hid HS.out.2
      have HSZ : Hid (WB.heap.size ≤ wr.heap.size) := Lib.hid HS.out.2.size
      have HXR : Hid (RowAt wr w.heap.size 34 cf) := Lib.hid (H6.out.2.1.below HS.out.2 H6.out.2.1.lt)
      have HBR : Hid (Below wr.heap.size wr wr) := Lib.hid (Below.refl _ _)
      have HOR : Hid (OwnF wr WB.heap.size u5 out) := Lib.hid HS.out.1
      clear hod hins htk
      cases d
      · have HL7 : Hid (∀ j2 x, cf[j2]? = some x → wr.cell? ⟨w.heap.size, 0 + j2, none⟩ = some x) := Lib.hid (fun j2 x hx => by rw [Nat.zero_add, (HXR.out.below HBR.out HXR.out.lt).cell]; exact hx)
        have HA7 : Hid (Below wr.heap.size wr (wr.alloc (.cells cf 34))) := Lib.hid ((Below.refl _ _).alloc (Nat.le_refl _) _)
        have HO7 : Hid (OwnF (wr.alloc (.cells cf 34)) WB.heap.size u5 (out) ∧ (out).length ≤ 1000000 ∧ WB.heap.size ≤ (wr.alloc (.cells cf 34)).heap.size ∧ ∀ (j2 : Nat) u, f.cells.toList[j2]? = some u → (wr.alloc (.cells cf 34)).cell? ((⟨wr.heap.size, 0, none⟩ : Addr).add j2) = some u) := Lib.hid ⟨HOR.out.below HA7.out, HLEN.out, Nat.le_trans (Nat.le_trans HSZ.out HBR.out.size) HA7.out.size, by rw [← HCF.out]; exact fact_new wr f _⟩
        go_wp2_with (first | ((with_reducible refine load_at (o := ⟨some 70, _, _, _, _, _⟩) (.tmp 3) w.heap.size (0) cf HL7.out HCI.out ?_ ?_ ?_ ?_); rfl; rfl; rfl) | ((with_reducible refine build_fact (o := ⟨some 71, _, _, _, _, _⟩) (.tmp 70) cf f HCF.out ?_ ?_ ?_ ?_); rfl; rfl; rfl) | ((with_reducible refine append_fact (o := ⟨some 72, _, _, _, _, _⟩) (.tmp 69) (.tmp 71) WB.heap.size (out) f wr.heap.size u5 HO7.out.1 HO7.out.2.1 HO7.out.2.2.1 HO7.out.2.2.2 ?_ ?_ ?_ ?_ ?_); rfl; rfl; rfl; rfl; intro v7 X7 hown7 hbl7; have HX7 : Hid (OwnF X7 WB.heap.size v7 ((out) ++ [f]) ∧ Below WB.heap.size WB X7) := Lib.hid ⟨hown7, (HWB.out.trans ((HBR.out.trans (HA7.out.mono HBR.out.size)).mono HSZ.out)).trans hbl7⟩; clear hown7 hbl7))
        go_ret
        exact ⟨_, rfl, by rw [HINS.out]; exact OwnF.lower HX7.out.1 H6.out.2.2.1.size, H6.out.2.2.1.trans (HX7.out.2.mono H6.out.2.2.1.size)⟩
      · go_wp2_with fail
        go_ret
        exact ⟨_, rfl, by rw [HINS.out]; exact OwnF.lower HS.out.1 H6.out.2.2.1.size, H6.out.2.2.1.trans (HS.out.2.mono H6.out.2.2.1.size)⟩
end Go.Proofs.YtgjajhopjcdflaaGreat
namespace Go.Proofs.YtgjajhopjcdflaaGreat
open Go Go.RowKit Go.Lib Go.Shelf Go.Maps

def insR (f : FactV) : List FactV → List FactV
  | [] => [f]
  | g :: L => if keyEq g f then (if prevB f g then f else g) :: L else if lessK (kT f) (kT g) then f :: g :: L else g :: insR f L
theorem run_done (f : FactV) : ∀ (l out : List FactV), l.foldl (stepI f) (out, true) = (out ++ l, true)
  | [], out => by simp
  | g :: l, out => by
    rw [List.foldl_cons, show stepI f (out, true) g = (out ++ [g], true) from rfl, run_done f l]
    simp
theorem run_open (f : FactV) : ∀ (l out : List FactV), (if (l.foldl (stepI f) (out, false)).2 then (l.foldl (stepI f) (out, false)).1 else (l.foldl (stepI f) (out, false)).1 ++ [f]) = out ++ insR f l
  | [], out => by simp [insR]
  | g :: l, out => by
    rw [List.foldl_cons]
    unfold insR
    by_cases h1 : keyEq g f = true
    · have e : stepI f (out, false) g = (out ++ [if prevB f g then f else g], true) := by unfold stepI; simp [h1]
      rw [e, run_done]
      simp [h1]
    · by_cases h2 : lessK (kT f) (kT g) = true
      · have e : stepI f (out, false) g = (out ++ [f] ++ [g], true) := by unfold stepI; simp [h1, h2]
        rw [e, run_done]
        simp [h1, h2]
      · have e : stepI f (out, false) g = (out ++ [g], false) := by unfold stepI; simp [h1, h2]
        rw [e, run_open f l]
        simp [h1, h2]
theorem insL_eq (f : FactV) (l : List FactV) : insL f l = insR f l := by
  have := run_open f l []
  rw [List.nil_append] at this
  exact this
theorem keq_kT {f g : FactV} : keyEq f g = true ↔ kT f = kT g := by
  unfold keyEq kT
  simp [Prod.ext_iff]
theorem kLt_total {a b : Int × Int × Int} (h1 : a ≠ b) (h2 : ¬ kLt a b) : kLt b a := by
  have h3 : ¬ (a.1 = b.1 ∧ a.2.1 = b.2.1 ∧ a.2.2 = b.2.2) := fun h => h1 (Prod.ext h.1 (Prod.ext h.2.1 h.2.2))
  unfold kLt at *
  omega
theorem insR_mem (f : FactV) : ∀ (L : List FactV), L.Pairwise (fun a b => kLt (kT a) (kT b)) → ∀ x, x ∈ insR f L ↔ (x ∈ L ∧ keyEq x f = false) ∨ (x = f ∧ ∀ g ∈ L, keyEq g f = true → prevB f g = true) ∨ (x ∈ L ∧ keyEq x f = true ∧ prevB f x = false)
  | [], _, x => by simp [insR]
  | g :: L, hs, x => by
    rw [List.pairwise_cons] at hs
    have ih := insR_mem f L hs.2
    unfold insR
    by_cases h1 : keyEq g f = true
    · have hno : ∀ y ∈ L, keyEq y f = false := fun y hy => by
        cases h : keyEq y f
        · rfl
        · have h3 := hs.1 y hy
          rw [keq_kT.1 h, keq_kT.1 h1] at h3
          exact absurd h3 (kLt_irr _)
      rw [if_pos h1]
      cases hp : prevB f g
      · simp only [Bool.false_eq_true, if_false, List.mem_cons]
        constructor
        · rintro (rfl | h)
          · exact .inr (.inr ⟨.inl rfl, h1, hp⟩)
          · exact .inl ⟨.inr h, hno x h⟩
        · rintro (⟨rfl | h, h2⟩ | ⟨rfl, h2⟩ | ⟨rfl | h, h2⟩)
          · rw [h1] at h2; cases h2
          · exact .inr h
          · have := h2 g (.inl rfl) h1; rw [hp] at this; cases this
          · exact .inl rfl
          · exact .inr h
      · simp only [if_true, List.mem_cons]
        constructor
        · rintro (rfl | h)
          · refine .inr (.inl ⟨rfl, fun y hy hk => ?_⟩)
            rcases hy with rfl | hy
            · exact hp
            · rw [hno y hy] at hk; cases hk
          · exact .inl ⟨.inr h, hno x h⟩
        · rintro (⟨rfl | h, h2⟩ | ⟨rfl, h2⟩ | ⟨rfl | h, h2, h3⟩)
          · rw [h1] at h2; cases h2
          · exact .inr h
          · exact .inl rfl
          · rw [hp] at h3; cases h3
          · rw [hno x h] at h2; cases h2
    · have h1f : keyEq g f = false := by cases h : keyEq g f; rfl; exact absurd h h1
      rw [if_neg h1]
      by_cases h2 : lessK (kT f) (kT g) = true
      · have hno : ∀ y ∈ L, keyEq y f = false := fun y hy => by
          cases h : keyEq y f
          · rfl
          · have h3 := kLt_trans (lessK_iff.1 h2) (hs.1 y hy)
            rw [keq_kT.1 h] at h3
            exact absurd h3 (kLt_irr _)
        rw [if_pos h2]
        simp only [List.mem_cons]
        constructor
        · rintro (rfl | rfl | h)
          · refine .inr (.inl ⟨rfl, fun y hy hk => ?_⟩)
            rcases hy with rfl | hy
            · exact absurd hk h1
            · rw [hno y hy] at hk; cases hk
          · exact .inl ⟨.inl rfl, h1f⟩
          · exact .inl ⟨.inr h, hno x h⟩
        · rintro (⟨h, _⟩ | ⟨rfl, _⟩ | ⟨h, _⟩)
          · exact .inr h
          · exact .inl rfl
          · exact .inr h
      · rw [if_neg h2]
        simp only [List.mem_cons]
        rw [ih x]
        constructor
        · rintro (rfl | h | h | h)
          · exact .inl ⟨.inl rfl, h1f⟩
          · exact .inl ⟨.inr h.1, h.2⟩
          · refine .inr (.inl ⟨h.1, fun y hy hk => ?_⟩)
            rcases hy with rfl | hy
            · exact absurd hk h1
            · exact h.2 y hy hk
          · exact .inr (.inr ⟨.inr h.1, h.2⟩)
        · rintro (⟨rfl | h, h3⟩ | h | ⟨rfl | h, h3, h4⟩)
          · exact .inl rfl
          · exact .inr (.inl ⟨h, h3⟩)
          · exact .inr (.inr (.inl ⟨h.1, fun y hy hk => h.2 y (.inr hy) hk⟩))
          · exact .inl rfl
          · exact .inr (.inr (.inr ⟨h, h3, h4⟩))
theorem insR_sorted (f : FactV) : ∀ (L : List FactV), L.Pairwise (fun a b => kLt (kT a) (kT b)) → (insR f L).Pairwise (fun a b => kLt (kT a) (kT b))
  | [], _ => by simp [insR]
  | g :: L, hs => by
    have hs0 := hs
    rw [List.pairwise_cons] at hs
    unfold insR
    by_cases h1 : keyEq g f = true
    · rw [if_pos h1, List.pairwise_cons]
      refine ⟨fun y hy => ?_, hs.2⟩
      split
      · rw [← keq_kT.1 h1]; exact hs.1 y hy
      · exact hs.1 y hy
    · rw [if_neg h1]
      by_cases h2 : lessK (kT f) (kT g) = true
      · rw [if_pos h2, List.pairwise_cons]
        refine ⟨fun y hy => ?_, hs0⟩
        rcases List.mem_cons.1 hy with rfl | hy
        · exact lessK_iff.1 h2
        · exact kLt_trans (lessK_iff.1 h2) (hs.1 y hy)
      · rw [if_neg h2, List.pairwise_cons]
        refine ⟨fun y hy => ?_, insR_sorted f L hs.2⟩
        rcases (insR_mem f L hs.2 y).1 hy with h | h | h
        · exact hs.1 y h.1
        · rw [h.1]
          exact kLt_total (fun e => h1 (keq_kT.2 e.symm)) (fun h => h2 (lessK_iff.2 h))
        · exact hs.1 y h.1
/-- the reference's ten lists behind the facts of l -/
def stepR (Ls : Nat → List FactV) (f : FactV) : Nat → List FactV := if validB f then (fun q => if kindF q f then insL f (Ls q) else Ls q) else Ls
def refL (l : List FactV) : Nat → List FactV := l.foldl stepR (fun _ => [])
theorem refL_snoc (l : List FactV) (f : FactV) : refL (l ++ [f]) = stepR (refL l) f := by simp [refL]
theorem kindq {q : Nat} {f : FactV} : kindF q f = true ↔ f.n 0 = (q : Int) + 1 := by unfold kindF; simp
theorem refL_law (l : List FactV) : (∀ f ∈ l, Canon f) → ∀ q, (refL l q).Pairwise (fun a b => kLt (kT a) (kT b)) ∧ ∀ x, x ∈ refL l q ↔ x ∈ bestL l ∧ kindF q x = true := by
  refine snoc_ind (P := fun l => (∀ f ∈ l, Canon f) → ∀ q, (refL l q).Pairwise (fun a b => kLt (kT a) (kT b)) ∧ ∀ x, x ∈ refL l q ↔ x ∈ bestL l ∧ kindF q x = true) ?_ ?_ l
  · intro _ q
    exact ⟨by simp [refL], fun x => by simp [refL, bestL]⟩
  · intro l f ih hc q
    have hcl : ∀ g ∈ l, Canon g := fun g hg => hc g (by simp [hg])
    obtain ⟨i1, i2⟩ := ih hcl q
    rw [refL_snoc, bestL_snoc]
    unfold stepR
    by_cases hv : validB f = true
    · rw [if_pos hv]
      have one : ∀ g h : FactV, g ∈ bestL l → h ∈ bestL l → keyEq g h = true → g = h := fun g h hg hh hk => Best.one (((bestL_iff l hcl).1 g).1 hg) (((bestL_iff l hcl).1 h).1 hh) hk
      have kk : ∀ g : FactV, keyEq g f = true → g.n 0 = f.n 0 := fun g hk => by have := keq_kT.1 hk; unfold kT at this; exact (Prod.mk.inj this).1
      have fin : ∀ x, x ∈ stepB (bestL l) f ↔ (x ∈ bestL l ∧ keyEq x f = false) ∨ (x = f ∧ ∀ g ∈ bestL l, keyEq g f = true → prevB f g = true) ∨ (x ∈ bestL l ∧ keyEq x f = true ∧ prevB f x = false) := by
        intro x
        unfold stepB
        rw [if_pos hv]
        have sw : ∀ y : FactV, keyEq f y = keyEq y f := fun y => by
          cases h : keyEq y f
          · cases h2 : keyEq f y
            · rfl
            · rw [keyEq_symm h2] at h; cases h
          · exact keyEq_symm h
        cases hf : (bestL l).find? (keyEq f) with
        | none =>
          rw [List.find?_eq_none] at hf
          have hn : ∀ y ∈ bestL l, keyEq y f = false := fun y hy => by
            have := hf y hy
            rw [sw y] at this
            simpa using this
          simp only
          rw [mem_putL]
          constructor
          · rintro (⟨h, h2⟩ | h)
            · exact .inl ⟨h, by rw [← sw]; exact h2⟩
            · exact .inr (.inl ⟨h, fun g hg hk => by rw [hn g hg] at hk; cases hk⟩)
          · rintro (⟨h, h2⟩ | h | ⟨h, h2, _⟩)
            · exact .inl ⟨h, by rw [sw]; exact h2⟩
            · exact .inr h.1
            · rw [hn x h] at h2; cases h2
        | some g =>
          have hg := List.mem_of_find?_eq_some hf
          have hk : keyEq f g = true := List.find?_some hf
          have hk2 : keyEq g f = true := keyEq_symm hk
          simp only
          cases hp : prevB f g
          · simp only [Bool.false_eq_true, if_false]
            constructor
            · intro h
              cases hx : keyEq x f
              · exact .inl ⟨h, rfl⟩
              · have : x = g := one x g h hg (keyEq_trans hx hk)
                subst this
                exact .inr (.inr ⟨h, rfl, hp⟩)
            · rintro (⟨h, _⟩ | ⟨_, h2⟩ | ⟨h, _⟩)
              · exact h
              · have := h2 g hg hk2; rw [hp] at this; cases this
              · exact h
          · simp only [if_true]
            rw [mem_putL]
            constructor
            · rintro (⟨h, h2⟩ | h)
              · exact .inl ⟨h, by rw [← sw]; exact h2⟩
              · refine .inr (.inl ⟨h, fun y hy hky => ?_⟩)
                have : y = g := one y g hy hg (keyEq_trans hky hk)
                subst this
                exact hp
            · rintro (⟨h, h2⟩ | h | ⟨h, h2, h3⟩)
              · exact .inl ⟨h, by rw [sw]; exact h2⟩
              · exact .inr h.1
              · have : x = g := one x g h hg (keyEq_trans h2 hk)
                subst this
                rw [hp] at h3; cases h3
      by_cases hq : kindF q f = true
      · simp only [hq, if_true]
        rw [insL_eq]
        refine ⟨insR_sorted f _ i1, fun x => ?_⟩
        rw [insR_mem f _ i1 x, fin x]
        constructor
        · rintro (⟨h, h2⟩ | ⟨h, h2⟩ | ⟨h, h2, h3⟩)
          · exact ⟨.inl ⟨((i2 x).1 h).1, h2⟩, ((i2 x).1 h).2⟩
          · refine ⟨.inr (.inl ⟨h, fun g hg hk => h2 g ((i2 g).2 ⟨hg, ?_⟩) hk⟩), by rw [h]; exact hq⟩
            rw [kindq, kk g hk]; exact kindq.1 hq
          · exact ⟨.inr (.inr ⟨((i2 x).1 h).1, h2, h3⟩), ((i2 x).1 h).2⟩
        · rintro ⟨⟨h, h2⟩ | ⟨h, h2⟩ | ⟨h, h2, h3⟩, h4⟩
          · exact .inl ⟨(i2 x).2 ⟨h, h4⟩, h2⟩
          · exact .inr (.inl ⟨h, fun g hg hk => h2 g ((i2 g).1 hg).1 hk⟩)
          · exact .inr (.inr ⟨(i2 x).2 ⟨h, h4⟩, h2, h3⟩)
      · have hqf : kindF q f = false := by cases h : kindF q f; rfl; exact absurd h hq
        simp only [hqf, Bool.false_eq_true, if_false]
        refine ⟨i1, fun x => ?_⟩
        rw [i2 x, fin x]
        have hnk : kindF q x = true → keyEq x f = false := fun h => by
          cases h2 : keyEq x f
          · rfl
          · exact absurd (kindq.2 (by rw [← kk x h2]; exact kindq.1 h)) hq
        constructor
        · rintro ⟨h, h2⟩; exact ⟨.inl ⟨h, hnk h2⟩, h2⟩
        · rintro ⟨⟨h, _⟩ | ⟨h, _⟩ | ⟨h, h3, _⟩, h2⟩
          · exact ⟨h, h2⟩
          · rw [h] at h2; exact absurd h2 hq
          · exact ⟨h, h2⟩
    · rw [if_neg hv, show stepB (bestL l) f = bestL l by unfold stepB; rw [if_neg hv]]
      exact ⟨i1, i2⟩
/-- the lists of the program's base and of the reference's are the same -/
theorem refL_eq {l fs : List FactV} (hc : ∀ f ∈ l, Canon f) (hp : fs.Perm (bestL l)) (hs : fs.Pairwise (fun a b => kLt (kT a) (kT b))) (q : Nat) : refL l q = fs.filter (kindF q) :=
  sorted_unique _ _ (refL_law l hc q).1 (hs.filter _) (fun x => by rw [(refL_law l hc q).2 x, List.mem_filter, hp.mem_iff])
end Go.Proofs.YtgjajhopjcdflaaGreat
namespace Go.Proofs.YtgjajhopjcdflaaGreat
open Go Go.RowKit Go.Lib Go.Shelf Go.Maps

theorem insR_len (f : FactV) : ∀ L : List FactV, (insR f L).length ≤ L.length + 1
  | [] => by simp [insR]
  | g :: L => by
    have ih := insR_len f L
    unfold insR
    split
    · simp
    · split
      · simp
      · simp; omega
theorem refL_len (l : List FactV) (q : Nat) : (refL l q).length ≤ l.length := by
  refine snoc_ind (P := fun l => (refL l q).length ≤ l.length) ?_ ?_ l
  · simp [refL]
  · intro l x ih
    rw [refL_snoc]
    unfold stepR
    split
    · dsimp only
      split
      · have := insR_len x (refL l q)
        rw [insL_eq, List.length_append, List.length_singleton]
        omega
      · rw [List.length_append, List.length_singleton]; omega
    · rw [List.length_append, List.length_singleton]; omega
theorem refL_take (l : List FactV) {i : Nat} {g : FactV} (h : l[i]? = some g) : refL (l.take (i + 1)) = stepR (refL (l.take i)) g := by
  rw [take_next h, refL_snoc]
theorem refL_in {l : List FactV} (hc : ∀ f ∈ l, Canon f) {q : Nat} {x : FactV} (h : x ∈ refL l q) : x ∈ l := (((bestL_iff l hc).1 x).1 (((refL_law l hc q).2 x).1 h).1).1
/-- ten slices in a row, each a list of facts of its own, in blocks above 'N' -/
structure RL (W : World) (N : Nat) (bs : Array Value) (Ls : Nat → List FactV) : Prop where
  size : bs.size = 10
  own : ∀ q, q < 10 → ∃ v, bs[q]? = some v ∧ OwnF W (N + 1) v (Ls q)
theorem RL.below {W W' : World} {N : Nat} {bs : Array Value} {Ls : Nat → List FactV} (h : RL W N bs Ls) (hb : Below W.heap.size W W') : RL W' N bs Ls :=
  ⟨h.size, fun q hq => by obtain ⟨v, h1, h2⟩ := h.own q hq; exact ⟨v, h1, h2.below hb⟩⟩
theorem RL.put {W : World} {N q : Nat} {bs : Array Value} {Ls : Nat → List FactV} {v : Value} {L : List FactV} (h : RL W N bs Ls) (hq : q < 10) (_hr : RowAt W N 27 bs) (ho : OwnF W (N + 1) v L) : RL (W.setCell ⟨N, q, none⟩ v) N (bs.setIfInBounds q v) (fun p => if p = q then L else Ls p) := by
  have far : ∀ (u : Value) (M : List FactV), OwnF W (N + 1) u M → OwnF (W.setCell ⟨N, q, none⟩ v) (N + 1) u M := fun u M hu => owns_other hu (fun j h1 _ => Below.heap_setCell W ⟨N, q, none⟩ v j (by show j ≠ N; omega))
  refine ⟨by simp [h.size], fun p hp => ?_⟩
  by_cases e : p = q
  · subst e
    refine ⟨v, by rw [Array.getElem?_setIfInBounds, if_pos rfl, if_pos (by rw [h.size]; exact hp)], ?_⟩
    simp only [if_true]
    exact far v L ho
  · obtain ⟨u, h1, h2⟩ := h.own p hp
    refine ⟨u, by rw [Array.getElem?_setIfInBounds, if_neg (Ne.symm e)]; exact h1, ?_⟩
    simp only [if_neg e]
    exact far u _ h2
theorem RL.read {W : World} {N : Nat} {bs : Array Value} {Ls : Nat → List FactV} (h : RL W N bs Ls) : BaseR W bs Ls :=
  ⟨h.size, fun q hq => by obtain ⟨v, h1, h2⟩ := h.own q hq; exact ⟨v, h1, h2.facts⟩⟩
set_option linter.unusedSimpArgs false in
set_option maxRecDepth 100000 in
set_option maxHeartbeats 20000000 in
theorem rof_any (l : List FactV) (v : Value) (w : World) (hn : l.length ≤ 1000) (hok : ∀ f ∈ l, FactOk f ∧ Canon f) (hv : FactsAt w v l) :
    Calls Tryz.prog 9 #[v] w fun e w' => ∃ bs, e = .returned (.agg bs) ∧ BaseR w' bs (refL l) ∧ Below w.heap.size w w' := by
  have HV0 := Lib.hid hv
  have HOK := Lib.hid hok
  obtain ⟨A, c, rfl⟩ := hv.sl
  obtain ⟨m, hm⟩ : ∃ z, l.length = z := ⟨_, rfl⟩
  rw [hm] at HV0 hn ⊢
  have HM := Lib.hid hm
  have hr2 := (RowAt.new w 27 #[.slice none 0 0, .slice none 0 0, .slice none 0 0, .slice none 0 0, .slice none 0 0, .slice none 0 0, .slice none 0 0, .slice none 0 0, .slice none 0 0, .slice none 0 0]).alloc (.cells #[.slice none 0 0, .slice none 0 0, .slice none 0 0, .slice none 0 0, .slice none 0 0, .slice none 0 0, .slice none 0 0, .slice none 0 0, .slice none 0 0, .slice none 0 0] 27)
  have hr3 := RowAt.new (w.alloc (.cells #[.slice none 0 0, .slice none 0 0, .slice none 0 0, .slice none 0 0, .slice none 0 0, .slice none 0 0, .slice none 0 0, .slice none 0 0, .slice none 0 0, .slice none 0 0] 27)) 27 #[.slice none 0 0, .slice none 0 0, .slice none 0 0, .slice none 0 0, .slice none 0 0, .slice none 0 0, .slice none 0 0, .slice none 0 0, .slice none 0 0, .slice none 0 0]
  have e1 : (w.alloc (.cells #[.slice none 0 0, .slice none 0 0, .slice none 0 0, .slice none 0 0, .slice none 0 0, .slice none 0 0, .slice none 0 0, .slice none 0 0, .slice none 0 0, .slice none 0 0] 27)).heap.size = w.heap.size + 1 := by simp
  rw [e1] at hr3
  obtain ⟨WB, hWB⟩ : ∃ z, (w.alloc (.cells #[.slice none 0 0, .slice none 0 0, .slice none 0 0, .slice none 0 0, .slice none 0 0, .slice none 0 0, .slice none 0 0, .slice none 0 0, .slice none 0 0, .slice none 0 0] 27)).alloc (.cells #[.slice none 0 0, .slice none 0 0, .slice none 0 0, .slice none 0 0, .slice none 0 0, .slice none 0 0, .slice none 0 0, .slice none 0 0, .slice none 0 0, .slice none 0 0] 27) = z := ⟨_, rfl⟩
  have hbw : Below w.heap.size w WB := by rw [← hWB]; exact ((Below.refl _ _).alloc (Nat.le_refl _) _).alloc (by simp) _
  rw [hWB] at hr2 hr3
  obtain ⟨N2, hN2⟩ : ∃ z, w.heap.size = z := ⟨_, rfl⟩
  obtain ⟨N3, hN3⟩ : ∃ z, w.heap.size + 1 = z := ⟨_, rfl⟩
  rw [hN2] at hr2
  rw [hN3] at hr3
  have HWB := Lib.hid hWB
  have HNN : Hid (w.heap.size = N2 ∧ N2 + 1 = N3) := Lib.hid ⟨hN2, by omega⟩
  have H0 : Hid (RL WB N3 #[.slice none 0 0, .slice none 0 0, .slice none 0 0, .slice none 0 0, .slice none 0 0, .slice none 0 0, .slice none 0 0, .slice none 0 0, .slice none 0 0, .slice none 0 0] (refL (l.take 0)) ∧ RowAt WB N3 27 #[.slice none 0 0, .slice none 0 0, .slice none 0 0, .slice none 0 0, .slice none 0 0, .slice none 0 0, .slice none 0 0, .slice none 0 0, .slice none 0 0, .slice none 0 0] ∧ RowAt WB N2 27 #[.slice none 0 0, .slice none 0 0, .slice none 0 0, .slice none 0 0, .slice none 0 0, .slice none 0 0, .slice none 0 0, .slice none 0 0, .slice none 0 0, .slice none 0 0] ∧ Below w.heap.size w WB) := Lib.hid ⟨⟨rfl, fun q hq => ⟨.slice none 0 0, by rcases (by omega : q = 0 ∨ q = 1 ∨ q = 2 ∨ q = 3 ∨ q = 4 ∨ q = 5 ∨ q = 6 ∨ q = 7 ∨ q = 8 ∨ q = 9) with rfl | rfl | rfl | rfl | rfl | rfl | rfl | rfl | rfl | rfl <;> rfl, OwnF.nil _ _⟩⟩, hr3, hr2, hbw⟩
  have HN2x := Lib.hid hN2
  have HN3x := Lib.hid hN3
  clear hv hok hm hr2 hr3 e1 hbw hWB hN2 hN3
  go_enter Tryz.func9, Tryz.ntmps9
  go_upto_region 3 with fail
  rw [HWB.out, HN3x.out, HN2x.out]
  go_loopw [4, 5, 6] (fun v4 v5 v6 wr => ∃ (i : Nat) (bs : Array Value), v4 = .int .i64 i ∧ i ≤ m ∧ Hid (RL wr N3 bs (refL (l.take i)) ∧ RowAt wr N3 27 bs ∧ RowAt wr N2 27 #[.slice none 0 0, .slice none 0 0, .slice none 0 0, .slice none 0 0, .slice none 0 0, .slice none 0 0, .slice none 0 0, .slice none 0 0, .slice none 0 0, .slice none 0 0] ∧ Below w.heap.size w wr)) (fun v4 _ _ _ => m - (RowKit.intOf v4).toNat)
  case atStart => exact ⟨0, _, rfl, by omega, H0⟩
  case round =>
    obtain ⟨i, bs, rfl, hi, HS⟩ := hrel
    by_cases h1 : i < m
    · have h1d : decide (i < m) = true := by simpa using h1
      obtain ⟨gg, hgg⟩ : ∃ x, l[i]? = some x := ⟨_, List.getElem?_eq_getElem (by have := HM.out; omega)⟩
      obtain ⟨b, o, rfl, hlt0, hcell0⟩ := (HV0.out.more HS.out.2.2.2).get hgg
      have HST := Lib.hid (refL_take l hgg)
      have HGO := Lib.hid (HOK.out gg (List.mem_of_getElem? hgg)).1
      have hct : ∀ f ∈ l.take i, Canon f := fun f hf => (HOK.out f (List.mem_of_mem_take hf)).2
      have HLEN : Hid (∀ q, (refL (l.take i) q).length ≤ 1000) := Lib.hid (fun q => by
        have h := refL_len (l.take i) q
        rw [List.length_take] at h
        omega)
      have HOKR : Hid (∀ q, ∀ g ∈ refL (l.take i) q, FactOk g) := Lib.hid (fun q g hg => (HOK.out g (List.mem_of_mem_take (refL_in hct hg))).1)
      have VA := Lib.hid (fun W => rvalid_any gg W HGO.out)
      have HCI : Hid ((Tryz.prog.info? 34).map (·.size) = some gg.cells.size ∧ gg.cells.all (·.oneCell') = true ∧ z18c.size = gg.cells.size) := Lib.hid ⟨fact_size, gg.cells_one, rfl⟩
      obtain ⟨cgg, hcgg⟩ : ∃ z, gg.cells = z := ⟨_, rfl⟩
      have HCG := Lib.hid hcgg
      rw [hcgg] at hcell0 HCI
      simp only [hcgg] at VA
      have HL0 := Lib.hid hcell0
      obtain ⟨NF, hNF⟩ : ∃ z, wr.heap.size = z := ⟨_, rfl⟩
      obtain ⟨W1, hW1⟩ : ∃ z, wr.alloc (.cells cgg 34) = z := ⟨_, rfl⟩
      have hr1 := RowAt.new wr 34 cgg
      have hb1 := (Below.refl wr.heap.size wr).alloc (Nat.le_refl _) (.cells cgg 34)
      rw [hW1] at hr1 hb1
      rw [hNF] at hr1
      have H1 : Hid (RL W1 N3 bs (refL (l.take i)) ∧ RowAt W1 NF 34 cgg ∧ RowAt W1 N3 27 bs ∧ RowAt W1 N2 27 #[.slice none 0 0, .slice none 0 0, .slice none 0 0, .slice none 0 0, .slice none 0 0, .slice none 0 0, .slice none 0 0, .slice none 0 0, .slice none 0 0, .slice none 0 0] ∧ Below w.heap.size w W1) := Lib.hid ⟨HS.out.1.below hb1, hr1, HS.out.2.1.below hb1 HS.out.2.1.lt, HS.out.2.2.1.below hb1 HS.out.2.2.1.lt, HS.out.2.2.2.trans (hb1.mono HS.out.2.2.2.size)⟩
      have HL1 : Hid (∀ j v, cgg[j]? = some v → W1.cell? ⟨NF, 0 + j, none⟩ = some v) := Lib.hid (fun j v h => by rw [Nat.zero_add, H1.out.2.1.cell]; exact h)
      have HW1 := Lib.hid (And.intro hW1 hNF)
      have HH1 := Lib.hid h1
      clear hgg hlt0 hcell0 hct hcgg hr1 hb1 hW1 hNF
      go_upto_region 6 with (first | ((with_reducible refine load_at (o := ⟨some 17, _, _, _, _, _⟩) (.tmp 16) b (o + i * 18) cgg HL0.out HCI.out.1 ?_ ?_ ?_ ?_); rfl; rfl; rfl) | ((with_reducible refine store_cs (o := ⟨none, _, _, _, _, _⟩) (.tmp 5) (.tmp 17) wr.heap.size rfl _ cgg HCI.out.1 HCI.out.2.1 HCI.out.2.2 ?_ ?_ ?_ ?_ ?_); rfl; rfl; rfl; rfl))
      rw [HW1.out.1, HW1.out.2]
      go_wp2_with (first | ((with_reducible refine load_cs (o := ⟨some 18, _, _, _, _, _⟩) (.tmp 5) NF cgg HL1.out HCI.out.1 ?_ ?_ ?_ ?_); rfl; rfl; rfl))
      cases hvd : validB gg
      · have VA2 := VA.out W1
        rw [hvd] at VA2
        refine VA2.mono ?_
        rintro e W2 ⟨rfl, hb2⟩
        have H2 : Hid (RL W2 N3 bs (refL (l.take i)) ∧ RowAt W2 N3 27 bs ∧ RowAt W2 N2 27 #[.slice none 0 0, .slice none 0 0, .slice none 0 0, .slice none 0 0, .slice none 0 0, .slice none 0 0, .slice none 0 0, .slice none 0 0, .slice none 0 0, .slice none 0 0] ∧ Below w.heap.size w W2) := Lib.hid ⟨H1.out.1.below hb2, H1.out.2.2.1.below hb2 H1.out.2.2.1.lt, H1.out.2.2.2.1.below hb2 H1.out.2.2.2.1.lt, H1.out.2.2.2.2.trans (hb2.mono H1.out.2.2.2.2.size)⟩
        have HNV := Lib.hid hvd
        clear hb2 hvd VA2
        go_wp2_with fail
        go_roundw
        case rel =>
          have hst : refL (l.take (i + 1)) = refL (l.take i) := by rw [HST.out]; unfold stepR; rw [HNV.out]; rfl
          exact ⟨i + 1, bs, by go_num, by have := HH1.out; omega, by rw [hst]; exact H2⟩
        case measure => simp [RowKit.intOf]; have := HH1.out; omega
      · have HV := Lib.hid hvd
        have VA2 := VA.out W1
        rw [hvd] at VA2
        obtain ⟨q, hq10, hq⟩ := valid_kind hvd
        refine VA2.mono ?_
        rintro e W2 ⟨rfl, hb2⟩
        have H2 : Hid (RL W2 N3 bs (refL (l.take i)) ∧ RowAt W2 NF 34 cgg) := Lib.hid ⟨H1.out.1.below hb2, H1.out.2.1.below hb2 H1.out.2.1.lt⟩
        have HRB2 : Hid (RowAt W2 N3 27 bs) := Lib.hid (H1.out.2.2.1.below hb2 H1.out.2.2.1.lt)
        have HZ2 : Hid (RowAt W2 N2 27 #[.slice none 0 0, .slice none 0 0, .slice none 0 0, .slice none 0 0, .slice none 0 0, .slice none 0 0, .slice none 0 0, .slice none 0 0, .slice none 0 0, .slice none 0 0]) := Lib.hid (H1.out.2.2.2.1.below hb2 H1.out.2.2.2.1.lt)
        have HB2 : Hid (Below w.heap.size w W2) := Lib.hid (H1.out.2.2.2.2.trans (hb2.mono H1.out.2.2.2.2.size))
        have HL2 : Hid (∀ j v, cgg[j]? = some v → W2.cell? ⟨NF, 0 + j, none⟩ = some v) := Lib.hid (fun j v h => by rw [Nat.zero_add, H2.out.2.cell]; exact h)
        have HN3 : Hid (N3 + 1 ≤ W2.heap.size) := Lib.hid HRB2.out.lt
        clear hb2 hvd VA2
        rcases (by omega : q = 0 ∨ q = 1 ∨ q = 2 ∨ q = 3 ∨ q = 4 ∨ q = 5 ∨ q = 6 ∨ q = 7 ∨ q = 8 ∨ q = 9) with rfl | rfl | rfl | rfl | rfl | rfl | rfl | rfl | rfl | rfl
        · have hkq : kindF 0 gg = true := kindq.2 hq
          have HKQ : Hid (kindF 0 gg = true) := Lib.hid hkq
          have hc0 : W2.cell? ⟨NF, 0, none⟩ = some (.int .i64 1) := by rw [H2.out.2.cell, ← HCG.out, cells_get gg 0 (by omega), hq]; rfl
          obtain ⟨v, hv, ho⟩ := H2.out.1.own 0 (by omega)
          have HVO := Lib.hid (And.intro hv ho)
          obtain ⟨Av, nv, cv, rfl⟩ := own_slice ho
          have hcq : W2.cell? ⟨N3, 0, none⟩ = some (.slice Av nv cv) := by rw [HRB2.out.cell]; exact hv
          have INS := Lib.hid (insert_any gg (refL (l.take i) 0) (.slice Av nv cv) W2 (HLEN.out 0) ho.facts HGO.out (HOKR.out 0))
          rw [HCG.out] at INS
          clear hq hkq hv ho
          go_wp2_with (first | ((with_reducible refine load_cs (o := ⟨some 28, _, _, _, _, _⟩) (.tmp 5) NF cgg HL2.out HCI.out.1 ?_ ?_ ?_ ?_); rfl; rfl; rfl))
          refine INS.out.mono ?_
          rintro e W3 ⟨v', rfl, ho', hb3⟩
          obtain ⟨Av', nv', cv', rfl⟩ := own_slice ho'
          have HRB3 := HRB2.out.below hb3 HRB2.out.lt
          have hc3 : W3.cell? ⟨N3, 0, none⟩ = some (.slice Av nv cv) := by rw [HRB3.cell]; exact HVO.out.1
          have hf3 : W3.frozen? ⟨N3, 0, none⟩ = false := HRB3.free 0
          have H3 : Hid (OwnF W3 W2.heap.size (.slice Av' nv' cv') (insL gg (refL (l.take i) 0)) ∧ Below W2.heap.size W2 W3 ∧ RowAt W3 N3 27 bs) := Lib.hid ⟨ho', hb3, HRB3⟩
          clear ho' hb3 HRB3 hc0 hcq
          go_wp2_with fail
          go_roundw
          case rel =>
            have hst : refL (l.take (i + 1)) = fun p => if p = 0 then insL gg (refL (l.take i) 0) else refL (l.take i) p := by
              rw [HST.out]
              unfold stepR
              rw [if_pos HV.out]
              funext p
              by_cases hp : p = 0
              · subst hp; rw [if_pos rfl, HKQ.out]; rfl
              · have : kindF p gg = false := by
                  cases h : kindF p gg
                  · rfl
                  · have h1 := kindq.1 h
                    have h2 := kindq.1 HKQ.out
                    exact absurd (show p = 0 by omega) hp
                rw [if_neg hp, this]; rfl
            refine ⟨i + 1, bs.setIfInBounds 0 (.slice Av' nv' cv'), by go_num, by have := HH1.out; omega, Lib.hid ⟨?_, ?_, ?_, ?_⟩⟩
            · rw [hst]
              exact RL.put (H2.out.1.below H3.out.2.1) (by omega) H3.out.2.2 (OwnF.lower H3.out.1 HN3.out)
            · exact H3.out.2.2.set 0 _
            · exact (Below.heap_setCell W3 ⟨N3, 0, none⟩ _ N2 (by have := HNN.out; show N2 ≠ N3; omega)).trans ((H3.out.2.1.block N2 (by have := HNN.out; have := HRB2.out.lt; omega)).trans HZ2.out)
            · exact (HB2.out.trans (H3.out.2.1.mono HB2.out.size)).setCell (by have := HNN.out; show w.heap.size ≤ N3; omega) _
          case measure => simp [RowKit.intOf]; have := HH1.out; omega
        · have hkq : kindF 1 gg = true := kindq.2 hq
          have HKQ : Hid (kindF 1 gg = true) := Lib.hid hkq
          have hc0 : W2.cell? ⟨NF, 0, none⟩ = some (.int .i64 2) := by rw [H2.out.2.cell, ← HCG.out, cells_get gg 0 (by omega), hq]; rfl
          obtain ⟨v, hv, ho⟩ := H2.out.1.own 1 (by omega)
          have HVO := Lib.hid (And.intro hv ho)
          obtain ⟨Av, nv, cv, rfl⟩ := own_slice ho
          have hcq : W2.cell? ⟨N3, 1, none⟩ = some (.slice Av nv cv) := by rw [HRB2.out.cell]; exact hv
          have INS := Lib.hid (insert_any gg (refL (l.take i) 1) (.slice Av nv cv) W2 (HLEN.out 1) ho.facts HGO.out (HOKR.out 1))
          rw [HCG.out] at INS
          clear hq hkq hv ho
          go_wp2_with (first | ((with_reducible refine load_cs (o := ⟨some 35, _, _, _, _, _⟩) (.tmp 5) NF cgg HL2.out HCI.out.1 ?_ ?_ ?_ ?_); rfl; rfl; rfl))
          refine INS.out.mono ?_
          rintro e W3 ⟨v', rfl, ho', hb3⟩
          obtain ⟨Av', nv', cv', rfl⟩ := own_slice ho'
          have HRB3 := HRB2.out.below hb3 HRB2.out.lt
          have hc3 : W3.cell? ⟨N3, 1, none⟩ = some (.slice Av nv cv) := by rw [HRB3.cell]; exact HVO.out.1
          have hf3 : W3.frozen? ⟨N3, 1, none⟩ = false := HRB3.free 1
          have H3 : Hid (OwnF W3 W2.heap.size (.slice Av' nv' cv') (insL gg (refL (l.take i) 1)) ∧ Below W2.heap.size W2 W3 ∧ RowAt W3 N3 27 bs) := Lib.hid ⟨ho', hb3, HRB3⟩
          clear ho' hb3 HRB3 hc0 hcq
          go_wp2_with fail
          go_roundw
          case rel =>
            have hst : refL (l.take (i + 1)) = fun p => if p = 1 then insL gg (refL (l.take i) 1) else refL (l.take i) p := by
              rw [HST.out]
              unfold stepR
              rw [if_pos HV.out]
              funext p
              by_cases hp : p = 1
              · subst hp; rw [if_pos rfl, HKQ.out]; rfl
              · have : kindF p gg = false := by
                  cases h : kindF p gg
                  · rfl
                  · have h1 := kindq.1 h
                    have h2 := kindq.1 HKQ.out
                    exact absurd (show p = 1 by omega) hp
                rw [if_neg hp, this]; rfl
            refine ⟨i + 1, bs.setIfInBounds 1 (.slice Av' nv' cv'), by go_num, by have := HH1.out; omega, Lib.hid ⟨?_, ?_, ?_, ?_⟩⟩
            · rw [hst]
              exact RL.put (H2.out.1.below H3.out.2.1) (by omega) H3.out.2.2 (OwnF.lower H3.out.1 HN3.out)
            · exact H3.out.2.2.set 1 _
            · exact (Below.heap_setCell W3 ⟨N3, 1, none⟩ _ N2 (by have := HNN.out; show N2 ≠ N3; omega)).trans ((H3.out.2.1.block N2 (by have := HNN.out; have := HRB2.out.lt; omega)).trans HZ2.out)
            · exact (HB2.out.trans (H3.out.2.1.mono HB2.out.size)).setCell (by have := HNN.out; show w.heap.size ≤ N3; omega) _
          case measure => simp [RowKit.intOf]; have := HH1.out; omega
        · have hkq : kindF 2 gg = true := kindq.2 hq
          have HKQ : Hid (kindF 2 gg = true) := Lib.hid hkq
          have hc0 : W2.cell? ⟨NF, 0, none⟩ = some (.int .i64 3) := by rw [H2.out.2.cell, ← HCG.out, cells_get gg 0 (by omega), hq]; rfl
          obtain ⟨v, hv, ho⟩ := H2.out.1.own 2 (by omega)
          have HVO := Lib.hid (And.intro hv ho)
          obtain ⟨Av, nv, cv, rfl⟩ := own_slice ho
          have hcq : W2.cell? ⟨N3, 2, none⟩ = some (.slice Av nv cv) := by rw [HRB2.out.cell]; exact hv
          have INS := Lib.hid (insert_any gg (refL (l.take i) 2) (.slice Av nv cv) W2 (HLEN.out 2) ho.facts HGO.out (HOKR.out 2))
          rw [HCG.out] at INS
          clear hq hkq hv ho
          go_wp2_with (first | ((with_reducible refine load_cs (o := ⟨some 42, _, _, _, _, _⟩) (.tmp 5) NF cgg HL2.out HCI.out.1 ?_ ?_ ?_ ?_); rfl; rfl; rfl))
          refine INS.out.mono ?_
          rintro e W3 ⟨v', rfl, ho', hb3⟩
          obtain ⟨Av', nv', cv', rfl⟩ := own_slice ho'
          have HRB3 := HRB2.out.below hb3 HRB2.out.lt
          have hc3 : W3.cell? ⟨N3, 2, none⟩ = some (.slice Av nv cv) := by rw [HRB3.cell]; exact HVO.out.1
          have hf3 : W3.frozen? ⟨N3, 2, none⟩ = false := HRB3.free 2
          have H3 : Hid (OwnF W3 W2.heap.size (.slice Av' nv' cv') (insL gg (refL (l.take i) 2)) ∧ Below W2.heap.size W2 W3 ∧ RowAt W3 N3 27 bs) := Lib.hid ⟨ho', hb3, HRB3⟩
          clear ho' hb3 HRB3 hc0 hcq
          go_wp2_with fail
          go_roundw
          case rel =>
            have hst : refL (l.take (i + 1)) = fun p => if p = 2 then insL gg (refL (l.take i) 2) else refL (l.take i) p := by
              rw [HST.out]
              unfold stepR
              rw [if_pos HV.out]
              funext p
              by_cases hp : p = 2
              · subst hp; rw [if_pos rfl, HKQ.out]; rfl
              · have : kindF p gg = false := by
                  cases h : kindF p gg
                  · rfl
                  · have h1 := kindq.1 h
                    have h2 := kindq.1 HKQ.out
                    exact absurd (show p = 2 by omega) hp
                rw [if_neg hp, this]; rfl
            refine ⟨i + 1, bs.setIfInBounds 2 (.slice Av' nv' cv'), by go_num, by have := HH1.out; omega, Lib.hid ⟨?_, ?_, ?_, ?_⟩⟩
            · rw [hst]
              exact RL.put (H2.out.1.below H3.out.2.1) (by omega) H3.out.2.2 (OwnF.lower H3.out.1 HN3.out)
            · exact H3.out.2.2.set 2 _
            · exact (Below.heap_setCell W3 ⟨N3, 2, none⟩ _ N2 (by have := HNN.out; show N2 ≠ N3; omega)).trans ((H3.out.2.1.block N2 (by have := HNN.out; have := HRB2.out.lt; omega)).trans HZ2.out)
            · exact (HB2.out.trans (H3.out.2.1.mono HB2.out.size)).setCell (by have := HNN.out; show w.heap.size ≤ N3; omega) _
          case measure => simp [RowKit.intOf]; have := HH1.out; omega
        · have hkq : kindF 3 gg = true := kindq.2 hq
          have HKQ : Hid (kindF 3 gg = true) := Lib.hid hkq
          have hc0 : W2.cell? ⟨NF, 0, none⟩ = some (.int .i64 4) := by rw [H2.out.2.cell, ← HCG.out, cells_get gg 0 (by omega), hq]; rfl
          obtain ⟨v, hv, ho⟩ := H2.out.1.own 3 (by omega)
          have HVO := Lib.hid (And.intro hv ho)
          obtain ⟨Av, nv, cv, rfl⟩ := own_slice ho
          have hcq : W2.cell? ⟨N3, 3, none⟩ = some (.slice Av nv cv) := by rw [HRB2.out.cell]; exact hv
          have INS := Lib.hid (insert_any gg (refL (l.take i) 3) (.slice Av nv cv) W2 (HLEN.out 3) ho.facts HGO.out (HOKR.out 3))
          rw [HCG.out] at INS
          clear hq hkq hv ho
          go_wp2_with (first | ((with_reducible refine load_cs (o := ⟨some 49, _, _, _, _, _⟩) (.tmp 5) NF cgg HL2.out HCI.out.1 ?_ ?_ ?_ ?_); rfl; rfl; rfl))
          refine INS.out.mono ?_
          rintro e W3 ⟨v', rfl, ho', hb3⟩
          obtain ⟨Av', nv', cv', rfl⟩ := own_slice ho'
          have HRB3 := HRB2.out.below hb3 HRB2.out.lt
          have hc3 : W3.cell? ⟨N3, 3, none⟩ = some (.slice Av nv cv) := by rw [HRB3.cell]; exact HVO.out.1
          have hf3 : W3.frozen? ⟨N3, 3, none⟩ = false := HRB3.free 3
          have H3 : Hid (OwnF W3 W2.heap.size (.slice Av' nv' cv') (insL gg (refL (l.take i) 3)) ∧ Below W2.heap.size W2 W3 ∧ RowAt W3 N3 27 bs) := Lib.hid ⟨ho', hb3, HRB3⟩
          clear ho' hb3 HRB3 hc0 hcq
          go_wp2_with fail
          go_roundw
          case rel =>
            have hst : refL (l.take (i + 1)) = fun p => if p = 3 then insL gg (refL (l.take i) 3) else refL (l.take i) p := by
              rw [HST.out]
              unfold stepR
              rw [if_pos HV.out]
              funext p
              by_cases hp : p = 3
              · subst hp; rw [if_pos rfl, HKQ.out]; rfl
              · have : kindF p gg = false := by
                  cases h : kindF p gg
                  · rfl
                  · have h1 := kindq.1 h
                    have h2 := kindq.1 HKQ.out
                    exact absurd (show p = 3 by omega) hp
                rw [if_neg hp, this]; rfl
            refine ⟨i + 1, bs.setIfInBounds 3 (.slice Av' nv' cv'), by go_num, by have := HH1.out; omega, Lib.hid ⟨?_, ?_, ?_, ?_⟩⟩
            · rw [hst]
              exact RL.put (H2.out.1.below H3.out.2.1) (by omega) H3.out.2.2 (OwnF.lower H3.out.1 HN3.out)
            · exact H3.out.2.2.set 3 _
            · exact (Below.heap_setCell W3 ⟨N3, 3, none⟩ _ N2 (by have := HNN.out; show N2 ≠ N3; omega)).trans ((H3.out.2.1.block N2 (by have := HNN.out; have := HRB2.out.lt; omega)).trans HZ2.out)
            · exact (HB2.out.trans (H3.out.2.1.mono HB2.out.size)).setCell (by have := HNN.out; show w.heap.size ≤ N3; omega) _
          case measure => simp [RowKit.intOf]; have := HH1.out; omega
        · have hkq : kindF 4 gg = true := kindq.2 hq
          have HKQ : Hid (kindF 4 gg = true) := Lib.hid hkq
          have hc0 : W2.cell? ⟨NF, 0, none⟩ = some (.int .i64 5) := by rw [H2.out.2.cell, ← HCG.out, cells_get gg 0 (by omega), hq]; rfl
          obtain ⟨v, hv, ho⟩ := H2.out.1.own 4 (by omega)
          have HVO := Lib.hid (And.intro hv ho)
          obtain ⟨Av, nv, cv, rfl⟩ := own_slice ho
          have hcq : W2.cell? ⟨N3, 4, none⟩ = some (.slice Av nv cv) := by rw [HRB2.out.cell]; exact hv
          have INS := Lib.hid (insert_any gg (refL (l.take i) 4) (.slice Av nv cv) W2 (HLEN.out 4) ho.facts HGO.out (HOKR.out 4))
          rw [HCG.out] at INS
          clear hq hkq hv ho
          go_wp2_with (first | ((with_reducible refine load_cs (o := ⟨some 56, _, _, _, _, _⟩) (.tmp 5) NF cgg HL2.out HCI.out.1 ?_ ?_ ?_ ?_); rfl; rfl; rfl))
          refine INS.out.mono ?_
          rintro e W3 ⟨v', rfl, ho', hb3⟩
          obtain ⟨Av', nv', cv', rfl⟩ := own_slice ho'
          have HRB3 := HRB2.out.below hb3 HRB2.out.lt
          have hc3 : W3.cell? ⟨N3, 4, none⟩ = some (.slice Av nv cv) := by rw [HRB3.cell]; exact HVO.out.1
          have hf3 : W3.frozen? ⟨N3, 4, none⟩ = false := HRB3.free 4
          have H3 : Hid (OwnF W3 W2.heap.size (.slice Av' nv' cv') (insL gg (refL (l.take i) 4)) ∧ Below W2.heap.size W2 W3 ∧ RowAt W3 N3 27 bs) := Lib.hid ⟨ho', hb3, HRB3⟩
          clear ho' hb3 HRB3 hc0 hcq
          go_wp2_with fail
          go_roundw
          case rel =>
            have hst : refL (l.take (i + 1)) = fun p => if p = 4 then insL gg (refL (l.take i) 4) else refL (l.take i) p := by
              rw [HST.out]
              unfold stepR
              rw [if_pos HV.out]
              funext p
              by_cases hp : p = 4
              · subst hp; rw [if_pos rfl, HKQ.out]; rfl
              · have : kindF p gg = false := by
                  cases h : kindF p gg
                  · rfl
                  · have h1 := kindq.1 h
                    have h2 := kindq.1 HKQ.out
                    exact absurd (show p = 4 by omega) hp
                rw [if_neg hp, this]; rfl
            refine ⟨i + 1, bs.setIfInBounds 4 (.slice Av' nv' cv'), by go_num, by have := HH1.out; omega, Lib.hid ⟨?_, ?_, ?_, ?_⟩⟩
            · rw [hst]
              exact RL.put (H2.out.1.below H3.out.2.1) (by omega) H3.out.2.2 (OwnF.lower H3.out.1 HN3.out)
            · exact H3.out.2.2.set 4 _
            · exact (Below.heap_setCell W3 ⟨N3, 4, none⟩ _ N2 (by have := HNN.out; show N2 ≠ N3; omega)).trans ((H3.out.2.1.block N2 (by have := HNN.out; have := HRB2.out.lt; omega)).trans HZ2.out)
            · exact (HB2.out.trans (H3.out.2.1.mono HB2.out.size)).setCell (by have := HNN.out; show w.heap.size ≤ N3; omega) _
          case measure => simp [RowKit.intOf]; have := HH1.out; omega
        · have hkq : kindF 5 gg = true := kindq.2 hq
          have HKQ : Hid (kindF 5 gg = true) := Lib.hid hkq
          have hc0 : W2.cell? ⟨NF, 0, none⟩ = some (.int .i64 6) := by rw [H2.out.2.cell, ← HCG.out, cells_get gg 0 (by omega), hq]; rfl
          obtain ⟨v, hv, ho⟩ := H2.out.1.own 5 (by omega)
          have HVO := Lib.hid (And.intro hv ho)
          obtain ⟨Av, nv, cv, rfl⟩ := own_slice ho
          have hcq : W2.cell? ⟨N3, 5, none⟩ = some (.slice Av nv cv) := by rw [HRB2.out.cell]; exact hv
          have INS := Lib.hid (insert_any gg (refL (l.take i) 5) (.slice Av nv cv) W2 (HLEN.out 5) ho.facts HGO.out (HOKR.out 5))
          rw [HCG.out] at INS
          clear hq hkq hv ho
          go_wp2_with (first | ((with_reducible refine load_cs (o := ⟨some 63, _, _, _, _, _⟩) (.tmp 5) NF cgg HL2.out HCI.out.1 ?_ ?_ ?_ ?_); rfl; rfl; rfl))
          refine INS.out.mono ?_
          rintro e W3 ⟨v', rfl, ho', hb3⟩
          obtain ⟨Av', nv', cv', rfl⟩ := own_slice ho'
          have HRB3 := HRB2.out.below hb3 HRB2.out.lt
          have hc3 : W3.cell? ⟨N3, 5, none⟩ = some (.slice Av nv cv) := by rw [HRB3.cell]; exact HVO.out.1
          have hf3 : W3.frozen? ⟨N3, 5, none⟩ = false := HRB3.free 5
          have H3 : Hid (OwnF W3 W2.heap.size (.slice Av' nv' cv') (insL gg (refL (l.take i) 5)) ∧ Below W2.heap.size W2 W3 ∧ RowAt W3 N3 27 bs) := Lib.hid ⟨ho', hb3, HRB3⟩
          clear ho' hb3 HRB3 hc0 hcq
          go_wp2_with fail
          go_roundw
          case rel =>
            have hst : refL (l.take (i + 1)) = fun p => if p = 5 then insL gg (refL (l.take i) 5) else refL (l.take i) p := by
              rw [HST.out]
              unfold stepR
              rw [if_pos HV.out]
              funext p
              by_cases hp : p = 5
              · subst hp; rw [if_pos rfl, HKQ.out]; rfl
              · have : kindF p gg = false := by
                  cases h : kindF p gg
                  · rfl
                  · have h1 := kindq.1 h
                    have h2 := kindq.1 HKQ.out
                    exact absurd (show p = 5 by omega) hp
                rw [if_neg hp, this]; rfl
            refine ⟨i + 1, bs.setIfInBounds 5 (.slice Av' nv' cv'), by go_num, by have := HH1.out; omega, Lib.hid ⟨?_, ?_, ?_, ?_⟩⟩
            · rw [hst]
              exact RL.put (H2.out.1.below H3.out.2.1) (by omega) H3.out.2.2 (OwnF.lower H3.out.1 HN3.out)
            · exact H3.out.2.2.set 5 _
            · exact (Below.heap_setCell W3 ⟨N3, 5, none⟩ _ N2 (by have := HNN.out; show N2 ≠ N3; omega)).trans ((H3.out.2.1.block N2 (by have := HNN.out; have := HRB2.out.lt; omega)).trans HZ2.out)
            · exact (HB2.out.trans (H3.out.2.1.mono HB2.out.size)).setCell (by have := HNN.out; show w.heap.size ≤ N3; omega) _
          case measure => simp [RowKit.intOf]; have := HH1.out; omega
        · have hkq : kindF 6 gg = true := kindq.2 hq
          have HKQ : Hid (kindF 6 gg = true) := Lib.hid hkq
          have hc0 : W2.cell? ⟨NF, 0, none⟩ = some (.int .i64 7) := by rw [H2.out.2.cell, ← HCG.out, cells_get gg 0 (by omega), hq]; rfl
          obtain ⟨v, hv, ho⟩ := H2.out.1.own 6 (by omega)
          have HVO := Lib.hid (And.intro hv ho)
          obtain ⟨Av, nv, cv, rfl⟩ := own_slice ho
          have hcq : W2.cell? ⟨N3, 6, none⟩ = some (.slice Av nv cv) := by rw [HRB2.out.cell]; exact hv
          have INS := Lib.hid (insert_any gg (refL (l.take i) 6) (.slice Av nv cv) W2 (HLEN.out 6) ho.facts HGO.out (HOKR.out 6))
          rw [HCG.out] at INS
          clear hq hkq hv ho
          go_wp2_with (first | ((with_reducible refine load_cs (o := ⟨some 70, _, _, _, _, _⟩) (.tmp 5) NF cgg HL2.out HCI.out.1 ?_ ?_ ?_ ?_); rfl; rfl; rfl))
          refine INS.out.mono ?_
          rintro e W3 ⟨v', rfl, ho', hb3⟩
          obtain ⟨Av', nv', cv', rfl⟩ := own_slice ho'
          have HRB3 := HRB2.out.below hb3 HRB2.out.lt
          have hc3 : W3.cell? ⟨N3, 6, none⟩ = some (.slice Av nv cv) := by rw [HRB3.cell]; exact HVO.out.1
          have hf3 : W3.frozen? ⟨N3, 6, none⟩ = false := HRB3.free 6
          have H3 : Hid (OwnF W3 W2.heap.size (.slice Av' nv' cv') (insL gg (refL (l.take i) 6)) ∧ Below W2.heap.size W2 W3 ∧ RowAt W3 N3 27 bs) := Lib.hid ⟨ho', hb3, HRB3⟩
          clear ho' hb3 HRB3 hc0 hcq
          go_wp2_with fail
          go_roundw
          case rel =>
            have hst : refL (l.take (i + 1)) = fun p => if p = 6 then insL gg (refL (l.take i) 6) else refL (l.take i) p := by
              rw [HST.out]
              unfold stepR
              rw [if_pos HV.out]
              funext p
              by_cases hp : p = 6
              · subst hp; rw [if_pos rfl, HKQ.out]; rfl
              · have : kindF p gg = false := by
                  cases h : kindF p gg
                  · rfl
                  · have h1 := kindq.1 h
                    have h2 := kindq.1 HKQ.out
                    exact absurd (show p = 6 by omega) hp
                rw [if_neg hp, this]; rfl
            refine ⟨i + 1, bs.setIfInBounds 6 (.slice Av' nv' cv'), by go_num, by have := HH1.out; omega, Lib.hid ⟨?_, ?_, ?_, ?_⟩⟩
            · rw [hst]
              exact RL.put (H2.out.1.below H3.out.2.1) (by omega) H3.out.2.2 (OwnF.lower H3.out.1 HN3.out)
            · exact H3.out.2.2.set 6 _
            · exact (Below.heap_setCell W3 ⟨N3, 6, none⟩ _ N2 (by have := HNN.out; show N2 ≠ N3; omega)).trans ((H3.out.2.1.block N2 (by have := HNN.out; have := HRB2.out.lt; omega)).trans HZ2.out)
            · exact (HB2.out.trans (H3.out.2.1.mono HB2.out.size)).setCell (by have := HNN.out; show w.heap.size ≤ N3; omega) _
          case measure => simp [RowKit.intOf]; have := HH1.out; omega
        · have hkq : kindF 7 gg = true := kindq.2 hq
          have HKQ : Hid (kindF 7 gg = true) := Lib.hid hkq
          have hc0 : W2.cell? ⟨NF, 0, none⟩ = some (.int .i64 8) := by rw [H2.out.2.cell, ← HCG.out, cells_get gg 0 (by omega), hq]; rfl
          obtain ⟨v, hv, ho⟩ := H2.out.1.own 7 (by omega)
          have HVO := Lib.hid (And.intro hv ho)
          obtain ⟨Av, nv, cv, rfl⟩ := own_slice ho
          have hcq : W2.cell? ⟨N3, 7, none⟩ = some (.slice Av nv cv) := by rw [HRB2.out.cell]; exact hv
          have INS := Lib.hid (insert_any gg (refL (l.take i) 7) (.slice Av nv cv) W2 (HLEN.out 7) ho.facts HGO.out (HOKR.out 7))
          rw [HCG.out] at INS
          clear hq hkq hv ho
          go_wp2_with (first | ((with_reducible refine load_cs (o := ⟨some 77, _, _, _, _, _⟩) (.tmp 5) NF cgg HL2.out HCI.out.1 ?_ ?_ ?_ ?_); rfl; rfl; rfl))
          refine INS.out.mono ?_
          rintro e W3 ⟨v', rfl, ho', hb3⟩
          obtain ⟨Av', nv', cv', rfl⟩ := own_slice ho'
          have HRB3 := HRB2.out.below hb3 HRB2.out.lt
          have hc3 : W3.cell? ⟨N3, 7, none⟩ = some (.slice Av nv cv) := by rw [HRB3.cell]; exact HVO.out.1
          have hf3 : W3.frozen? ⟨N3, 7, none⟩ = false := HRB3.free 7
          have H3 : Hid (OwnF W3 W2.heap.size (.slice Av' nv' cv') (insL gg (refL (l.take i) 7)) ∧ Below W2.heap.size W2 W3 ∧ RowAt W3 N3 27 bs) := Lib.hid ⟨ho', hb3, HRB3⟩
          clear ho' hb3 HRB3 hc0 hcq
          go_wp2_with fail
          go_roundw
          case rel =>
            have hst : refL (l.take (i + 1)) = fun p => if p = 7 then insL gg (refL (l.take i) 7) else refL (l.take i) p := by
              rw [HST.out]
              unfold stepR
              rw [if_pos HV.out]
              funext p
              by_cases hp : p = 7
              · subst hp; rw [if_pos rfl, HKQ.out]; rfl
              · have : kindF p gg = false := by
                  cases h : kindF p gg
                  · rfl
                  · have h1 := kindq.1 h
                    have h2 := kindq.1 HKQ.out
                    exact absurd (show p = 7 by omega) hp
                rw [if_neg hp, this]; rfl
            refine ⟨i + 1, bs.setIfInBounds 7 (.slice Av' nv' cv'), by go_num, by have := HH1.out; omega, Lib.hid ⟨?_, ?_, ?_, ?_⟩⟩
            · rw [hst]
              exact RL.put (H2.out.1.below H3.out.2.1) (by omega) H3.out.2.2 (OwnF.lower H3.out.1 HN3.out)
            · exact H3.out.2.2.set 7 _
            · exact (Below.heap_setCell W3 ⟨N3, 7, none⟩ _ N2 (by have := HNN.out; show N2 ≠ N3; omega)).trans ((H3.out.2.1.block N2 (by have := HNN.out; have := HRB2.out.lt; omega)).trans HZ2.out)
            · exact (HB2.out.trans (H3.out.2.1.mono HB2.out.size)).setCell (by have := HNN.out; show w.heap.size ≤ N3; omega) _
          case measure => simp [RowKit.intOf]; have := HH1.out; omega
        · have hkq : kindF 8 gg = true := kindq.2 hq
          have HKQ : Hid (kindF 8 gg = true) := Lib.hid hkq
          have hc0 : W2.cell? ⟨NF, 0, none⟩ = some (.int .i64 9) := by rw [H2.out.2.cell, ← HCG.out, cells_get gg 0 (by omega), hq]; rfl
          obtain ⟨v, hv, ho⟩ := H2.out.1.own 8 (by omega)
          have HVO := Lib.hid (And.intro hv ho)
          obtain ⟨Av, nv, cv, rfl⟩ := own_slice ho
          have hcq : W2.cell? ⟨N3, 8, none⟩ = some (.slice Av nv cv) := by rw [HRB2.out.cell]; exact hv
          have INS := Lib.hid (insert_any gg (refL (l.take i) 8) (.slice Av nv cv) W2 (HLEN.out 8) ho.facts HGO.out (HOKR.out 8))
          rw [HCG.out] at INS
          clear hq hkq hv ho
          go_wp2_with (first | ((with_reducible refine load_cs (o := ⟨some 84, _, _, _, _, _⟩) (.tmp 5) NF cgg HL2.out HCI.out.1 ?_ ?_ ?_ ?_); rfl; rfl; rfl))
          refine INS.out.mono ?_
          rintro e W3 ⟨v', rfl, ho', hb3⟩
          obtain ⟨Av', nv', cv', rfl⟩ := own_slice ho'
          have HRB3 := HRB2.out.below hb3 HRB2.out.lt
          have hc3 : W3.cell? ⟨N3, 8, none⟩ = some (.slice Av nv cv) := by rw [HRB3.cell]; exact HVO.out.1
          have hf3 : W3.frozen? ⟨N3, 8, none⟩ = false := HRB3.free 8
          have H3 : Hid (OwnF W3 W2.heap.size (.slice Av' nv' cv') (insL gg (refL (l.take i) 8)) ∧ Below W2.heap.size W2 W3 ∧ RowAt W3 N3 27 bs) := Lib.hid ⟨ho', hb3, HRB3⟩
          clear ho' hb3 HRB3 hc0 hcq
          go_wp2_with fail
          go_roundw
          case rel =>
            have hst : refL (l.take (i + 1)) = fun p => if p = 8 then insL gg (refL (l.take i) 8) else refL (l.take i) p := by
              rw [HST.out]
              unfold stepR
              rw [if_pos HV.out]
              funext p
              by_cases hp : p = 8
              · subst hp; rw [if_pos rfl, HKQ.out]; rfl
              · have : kindF p gg = false := by
                  cases h : kindF p gg
                  · rfl
                  · have h1 := kindq.1 h
                    have h2 := kindq.1 HKQ.out
                    exact absurd (show p = 8 by omega) hp
                rw [if_neg hp, this]; rfl
            refine ⟨i + 1, bs.setIfInBounds 8 (.slice Av' nv' cv'), by go_num, by have := HH1.out; omega, Lib.hid ⟨?_, ?_, ?_, ?_⟩⟩
            · rw [hst]
              exact RL.put (H2.out.1.below H3.out.2.1) (by omega) H3.out.2.2 (OwnF.lower H3.out.1 HN3.out)
            · exact H3.out.2.2.set 8 _
            · exact (Below.heap_setCell W3 ⟨N3, 8, none⟩ _ N2 (by have := HNN.out; show N2 ≠ N3; omega)).trans ((H3.out.2.1.block N2 (by have := HNN.out; have := HRB2.out.lt; omega)).trans HZ2.out)
            · exact (HB2.out.trans (H3.out.2.1.mono HB2.out.size)).setCell (by have := HNN.out; show w.heap.size ≤ N3; omega) _
          case measure => simp [RowKit.intOf]; have := HH1.out; omega
        · have hkq : kindF 9 gg = true := kindq.2 hq
          have HKQ : Hid (kindF 9 gg = true) := Lib.hid hkq
          have hc0 : W2.cell? ⟨NF, 0, none⟩ = some (.int .i64 10) := by rw [H2.out.2.cell, ← HCG.out, cells_get gg 0 (by omega), hq]; rfl
          obtain ⟨v, hv, ho⟩ := H2.out.1.own 9 (by omega)
          have HVO := Lib.hid (And.intro hv ho)
          obtain ⟨Av, nv, cv, rfl⟩ := own_slice ho
          have hcq : W2.cell? ⟨N3, 9, none⟩ = some (.slice Av nv cv) := by rw [HRB2.out.cell]; exact hv
          have INS := Lib.hid (insert_any gg (refL (l.take i) 9) (.slice Av nv cv) W2 (HLEN.out 9) ho.facts HGO.out (HOKR.out 9))
          rw [HCG.out] at INS
          clear hq hkq hv ho
          go_wp2_with (first | ((with_reducible refine load_cs (o := ⟨some 91, _, _, _, _, _⟩) (.tmp 5) NF cgg HL2.out HCI.out.1 ?_ ?_ ?_ ?_); rfl; rfl; rfl))
          refine INS.out.mono ?_
          rintro e W3 ⟨v', rfl, ho', hb3⟩
          obtain ⟨Av', nv', cv', rfl⟩ := own_slice ho'
          have HRB3 := HRB2.out.below hb3 HRB2.out.lt
          have hc3 : W3.cell? ⟨N3, 9, none⟩ = some (.slice Av nv cv) := by rw [HRB3.cell]; exact HVO.out.1
          have hf3 : W3.frozen? ⟨N3, 9, none⟩ = false := HRB3.free 9
          have H3 : Hid (OwnF W3 W2.heap.size (.slice Av' nv' cv') (insL gg (refL (l.take i) 9)) ∧ Below W2.heap.size W2 W3 ∧ RowAt W3 N3 27 bs) := Lib.hid ⟨ho', hb3, HRB3⟩
          clear ho' hb3 HRB3 hc0 hcq
          go_wp2_with fail
          go_roundw
          case rel =>
            have hst : refL (l.take (i + 1)) = fun p => if p = 9 then insL gg (refL (l.take i) 9) else refL (l.take i) p := by
              rw [HST.out]
              unfold stepR
              rw [if_pos HV.out]
              funext p
              by_cases hp : p = 9
              · subst hp; rw [if_pos rfl, HKQ.out]; rfl
              · have : kindF p gg = false := by
                  cases h : kindF p gg
                  · rfl
                  · have h1 := kindq.1 h
                    have h2 := kindq.1 HKQ.out
                    exact absurd (show p = 9 by omega) hp
                rw [if_neg hp, this]; rfl
            refine ⟨i + 1, bs.setIfInBounds 9 (.slice Av' nv' cv'), by go_num, by have := HH1.out; omega, Lib.hid ⟨?_, ?_, ?_, ?_⟩⟩
            · rw [hst]
              exact RL.put (H2.out.1.below H3.out.2.1) (by omega) H3.out.2.2 (OwnF.lower H3.out.1 HN3.out)
            · exact H3.out.2.2.set 9 _
            · exact (Below.heap_setCell W3 ⟨N3, 9, none⟩ _ N2 (by have := HNN.out; show N2 ≠ N3; omega)).trans ((H3.out.2.1.block N2 (by have := HNN.out; have := HRB2.out.lt; omega)).trans HZ2.out)
            · exact (HB2.out.trans (H3.out.2.1.mono HB2.out.size)).setCell (by have := HNN.out; show w.heap.size ≤ N3; omega) _
          case measure => simp [RowKit.intOf]; have := HH1.out; omega
    · obtain rfl : i = m := by omega
      have h1d : decide (i < i) = false := by simp
      have htk : l.take i = l := List.take_of_length_le (by rw [HM.out]; omega)
      rw [htk] at HS
      have HLB : Hid (∀ j v, bs[j]? = some v → wr.cell? ⟨N3, 0 + j, none⟩ = some v) := Lib.hid (fun j v h => by rw [Nat.zero_add, HS.out.2.1.cell]; exact h)
      have HBI : Hid ((Tryz.prog.info? 27).map (·.size) = some bs.size ∧ (#[.slice none 0 0, .slice none 0 0, .slice none 0 0, .slice none 0 0, .slice none 0 0, .slice none 0 0, .slice none 0 0, .slice none 0 0, .slice none 0 0, .slice none 0 0] : Array Value).size = bs.size ∧ bs.all (·.oneCell') = true) := Lib.hid ⟨by rw [HS.out.1.size]; exact base_size, by rw [HS.out.1.size]; rfl, HS.out.1.read.one⟩
      go_wp2_with (first | ((with_reducible refine load_base (o := ⟨some 94, _, _, _, _, _⟩) (.tmp 3) N3 bs HLB.out HBI.out.1 ?_ ?_ ?_ ?_); rfl; rfl; rfl) | ((with_reducible refine store_base (o := ⟨none, _, _, _, _, _⟩) (.tmp 2) (.tmp 94) N2 bs _ HS.out.2.2.1 HBI.out.1 HBI.out.2.1 HBI.out.2.2 ?_ ?_ ?_ ?_ ?_); rfl; rfl; rfl; rfl))
      have hrow : RowAt (wr.setRow N2 bs) N2 27 bs := setRow_at HS.out.2.2.1
      have hl := run_loadVar_at (P := Tryz.prog) _ N2 0 27 bs _ (fun j2 x hx => by rw [Nat.zero_add, hrow.cell]; exact hx) Tryz.underlying27 rfl HBI.out.1
      refine bodyPost_ret (results_cell1 (p := 2) rfl _ _ _ _ rfl hl) rfl ⟨bs, rfl, ⟨HS.out.1.size, fun q hq => ?_⟩, below_setR HS.out.2.2.2 (by have := HNN.out; omega)⟩
      obtain ⟨u, h1, h2⟩ := HS.out.1.own q hq
      exact ⟨u, h1, OwnF.facts (base := N3 + 1) (owns_other h2 (fun j hj _ => setRow_far (by have := HNN.out; omega)))⟩
end Go.Proofs.YtgjajhopjcdflaaGreat
