import Derived.Test.YtgjajhopjcdflaaGreatFkQ
import Derived.Test.YtgjajhopjcdflaaGreatFkShelf
import Derived.Shelf.SlSortCmp.NoneTotal
namespace Go.Proofs.YtgjajhopjcdflaaGreat
open Go Go.RowKit Go.Lib Go.Shelf Go.Maps

def cmpK (a b : Int × Int × Int) : Int :=
  if Lib.compareInt a.1 b.1 = 0 then (if Lib.compareInt a.2.1 b.2.1 = 0 then Lib.compareInt a.2.2 b.2.2 else Lib.compareInt a.2.1 b.2.1) else Lib.compareInt a.1 b.1
theorem cmpInt_bd (x y : Int) : -1 ≤ Lib.compareInt x y ∧ Lib.compareInt x y ≤ 1 := by
  unfold Lib.compareInt
  repeat' split
  all_goals omega

set_option maxRecDepth 100000 in
set_option maxHeartbeats 2000000 in
theorem compare3 (p q : Nat) (a b : Int × Int × Int) (w : World) (hp : ∀ j x, (kCell a)[j]? = some x → w.cell? ⟨p, j, none⟩ = some x) (hq : ∀ j x, (kCell b)[j]? = some x → w.cell? ⟨q, j, none⟩ = some x) :
    Calls Tryz.prog 33 #[.slice (some ⟨p, 0, none⟩) 3 3, .slice (some ⟨q, 0, none⟩) 3 3] w fun e w' => e = .returned (.int .i64 (cmpK a b)) ∧ w' = w := by
  obtain ⟨a0, a1, a2⟩ := a
  obtain ⟨b0, b1, b2⟩ := b
  have p0 : w.cell? ⟨p, 0, none⟩ = some (.int .i64 a0) := hp 0 _ rfl
  have p1 : w.cell? ⟨p, 1, none⟩ = some (.int .i64 a1) := hp 1 _ rfl
  have p2 : w.cell? ⟨p, 2, none⟩ = some (.int .i64 a2) := hp 2 _ rfl
  have q0 : w.cell? ⟨q, 0, none⟩ = some (.int .i64 b0) := hq 0 _ rfl
  have q1 : w.cell? ⟨q, 1, none⟩ = some (.int .i64 b1) := hq 1 _ rfl
  have q2 : w.cell? ⟨q, 2, none⟩ = some (.int .i64 b2) := hq 2 _ rfl
  have HC0 := Lib.hid (fun W => Tryz.cmp_Compare_int a0 b0 W)
  have HC1 := Lib.hid (fun W => Tryz.cmp_Compare_int a1 b1 W)
  have HC2 := Lib.hid (fun W => Tryz.cmp_Compare_int a2 b2 W)
  have HR : Hid (cmpK (a0, a1, a2) (b0, b1, b2) = if Lib.compareInt a0 b0 = 0 then (if Lib.compareInt a1 b1 = 0 then Lib.compareInt a2 b2 else Lib.compareInt a1 b1) else Lib.compareInt a0 b0) := Lib.hid rfl
  obtain ⟨c0, h0⟩ : ∃ z, Lib.compareInt a0 b0 = z := ⟨_, rfl⟩
  obtain ⟨c1, h1⟩ : ∃ z, Lib.compareInt a1 b1 = z := ⟨_, rfl⟩
  obtain ⟨c2, h2⟩ : ∃ z, Lib.compareInt a2 b2 = z := ⟨_, rfl⟩
  rw [h0] at HC0 HR
  rw [h1] at HC1 HR
  rw [h2] at HC2 HR
  clear hp hq h0 h1 h2
  by_cases e0 : c0 = 0
  · subst e0
    by_cases e1 : c1 = 0
    · subst e1
      by_cases e2 : c2 = 0
      · subst e2
        go_enter Tryz.func33, Tryz.ntmps33
        go_wp2_with fail
        refine wp_loop_rounds 4 ?_
        rw [rounds_succ]; go_wp2_with (go_at_call 50; refine (HC0.out _).mono ?_; rintro e w' ⟨rfl, rfl⟩)
        rw [rounds_succ]; go_wp2_with (go_at_call 50; refine (HC1.out _).mono ?_; rintro e w' ⟨rfl, rfl⟩)
        rw [rounds_succ]; go_wp2_with (go_at_call 50; refine (HC2.out _).mono ?_; rintro e w' ⟨rfl, rfl⟩)
        rw [rounds_succ]; go_wp2_with fail
        go_ret
        exact ⟨by rw [HR.out]; rfl, rfl⟩
      · have d2 : (c2 == 0) = false := by simpa using e2
        have E2 := Lib.hid e2
        clear e2
        go_enter Tryz.func33, Tryz.ntmps33
        go_wp2_with fail
        refine wp_loop_rounds 4 ?_
        rw [rounds_succ]; go_wp2_with (go_at_call 50; refine (HC0.out _).mono ?_; rintro e w' ⟨rfl, rfl⟩)
        rw [rounds_succ]; go_wp2_with (go_at_call 50; refine (HC1.out _).mono ?_; rintro e w' ⟨rfl, rfl⟩)
        rw [rounds_succ]; go_wp2_with (go_at_call 50; refine (HC2.out _).mono ?_; rintro e w' ⟨rfl, rfl⟩)
        go_ret
        exact ⟨by rw [HR.out]; simp, rfl⟩
    · have d1 : (c1 == 0) = false := by simpa using e1
      have E1 := Lib.hid e1
      clear e1
      go_enter Tryz.func33, Tryz.ntmps33
      go_wp2_with fail
      refine wp_loop_rounds 4 ?_
      rw [rounds_succ]; go_wp2_with (go_at_call 50; refine (HC0.out _).mono ?_; rintro e w' ⟨rfl, rfl⟩)
      rw [rounds_succ]; go_wp2_with (go_at_call 50; refine (HC1.out _).mono ?_; rintro e w' ⟨rfl, rfl⟩)
      go_ret
      exact ⟨by rw [HR.out]; simp [E1.out], rfl⟩
  · have d0 : (c0 == 0) = false := by simpa using e0
    have E0 := Lib.hid e0
    clear e0
    go_enter Tryz.func33, Tryz.ntmps33
    go_wp2_with fail
    refine wp_loop_rounds 4 ?_
    rw [rounds_succ]; go_wp2_with (go_at_call 50; refine (HC0.out _).mono ?_; rintro e w' ⟨rfl, rfl⟩)
    go_ret
    exact ⟨by rw [HR.out, if_neg E0.out]; rfl, rfl⟩
theorem grow2 (W : World) (o1 o2 : Obj) (n : Nat) : ((W.alloc o1).alloc o2).drewN n = Go.Sort.grow (W.drewN n) #[o1, o2] := by
  have h : (W.alloc o1).alloc o2 = Go.Sort.grow W #[o1, o2] := by rw [Go.Sort.alloc_eq_grow, Go.Sort.alloc_eq_grow, Go.Sort.grow_grow]; rfl
  rw [h]
  rfl
theorem kCell_row (k : Int × Int × Int) : (kCell k).toArray = #[.int .i64 k.1, .int .i64 k.2.1, .int .i64 k.2.2] := rfl
set_option maxRecDepth 100000 in
set_option maxHeartbeats 2000000 in
theorem closure3 (a b : Int × Int × Int) (W : World) :
    Calls Tryz.prog 32 #[.agg (kCell a).toArray, .agg (kCell b).toArray] W fun e w' => e = .returned (.int .i64 (cmpK a b)) ∧ ∃ q os', w' = Go.Sort.grow (W.drewN q) os' := by
  have r1 : RowAt ((W.alloc (.cells (kCell a).toArray 48)).alloc (.cells (kCell b).toArray 48)) W.heap.size 48 (kCell a).toArray := (RowAt.new W _ _).alloc _
  have r2 : RowAt ((W.alloc (.cells (kCell a).toArray 48)).alloc (.cells (kCell b).toArray 48)) (W.heap.size + 1) 48 (kCell b).toArray := by
    have h := RowAt.new (W.alloc (.cells (kCell a).toArray 48)) 48 (kCell b).toArray
    simpa using h
  have HC := Lib.hid (fun n => compare3 W.heap.size (W.heap.size + 1) a b (((W.alloc (.cells (kCell a).toArray 48)).alloc (.cells (kCell b).toArray 48)).drewN n) (fun j x hx => by rw [(r1.drewN n).cell]; simpa using hx) (fun j x hx => by rw [(r2.drewN n).cell]; simpa using hx))
  rw [kCell_row, kCell_row] at HC ⊢
  clear r1 r2
  obtain ⟨c, hc⟩ : ∃ z, cmpK a b = z := ⟨_, rfl⟩
  rw [hc] at HC ⊢
  obtain ⟨a0, a1, a2⟩ := a
  obtain ⟨b0, b1, b2⟩ := b
  dsimp only at HC ⊢
  clear hc
  go_enter Tryz.func32, Tryz.ntmps32
  go_wp2_with fail
  go_quiet ((go_at_call 33; exact (HC.out _).mono (fun e w' h => ⟨h.1, _, h.2⟩)))
  go_wp2_with fail
  go_ret
  exact ⟨rfl, nq, _, grow2 W _ _ nq⟩
end Go.Proofs.YtgjajhopjcdflaaGreat
namespace Go.Proofs.YtgjajhopjcdflaaGreat
open Go Go.RowKit Go.Lib Go.Shelf Go.Maps
open Go.Sort hiding Below

/-- a key comes ahead of another one -/
def kLt (a b : Int × Int × Int) : Prop := a.1 < b.1 ∨ (a.1 = b.1 ∧ (a.2.1 < b.2.1 ∨ (a.2.1 = b.2.1 ∧ a.2.2 < b.2.2)))
instance (a b : Int × Int × Int) : Decidable (kLt a b) := by unfold kLt; infer_instance
theorem cmpInt_lt (x y : Int) : (Lib.compareInt x y < 0 ↔ x < y) ∧ (Lib.compareInt x y = 0 ↔ x = y) := by
  unfold Lib.compareInt
  repeat' split
  all_goals omega
theorem cmpK_lt (a b : Int × Int × Int) : cmpK a b < 0 ↔ kLt a b := by
  unfold cmpK kLt
  have h0 := cmpInt_lt a.1 b.1
  have h1 := cmpInt_lt a.2.1 b.2.1
  have h2 := cmpInt_lt a.2.2 b.2.2
  by_cases e0 : Lib.compareInt a.1 b.1 = 0
  · by_cases e1 : Lib.compareInt a.2.1 b.2.1 = 0
    · rw [if_pos e0, if_pos e1]; omega
    · rw [if_pos e0, if_neg e1]; omega
  · rw [if_neg e0]; omega
theorem ltOf_k (a b : Int × Int × Int) : ltOf cmpK a b = decide (kLt a b) := by
  unfold ltOf
  exact decide_eq_decide.2 (cmpK_lt a b)
theorem swoK : SWO (ltOf cmpK) where
  irrefl x := by rw [ltOf_k]; simp [kLt]
  trans x y z h1 h2 := by
    rw [ltOf_k, decide_eq_true_eq] at h1 h2 ⊢
    unfold kLt at *
    omega
  ntrans x y z h1 h2 := by
    rw [ltOf_k, decide_eq_false_iff_not] at h1 h2 ⊢
    unfold kLt at *
    omega
theorem flat_keys (ks : List (Int × Int × Int)) : flatK kCell 3 ks.toArray = (kCells ks).toArray := by
  apply Array.ext_getElem?
  intro t
  by_cases ht : t < ks.length * 3
  · have h1 : t / 3 < ks.length := by omega
    have h2 := kCells_get ks (t / 3) ks[t / 3] (by simp [h1]) (t % 3) ((kCell ks[t / 3])[t % 3]!) (by
      have h3 : t % 3 < (kCell ks[t / 3]).length := by simp [kCell]; omega
      rw [List.getElem?_eq_getElem h3, List.getElem!_eq_getElem?_getD, List.getElem?_eq_getElem h3]
      rfl)
    rw [show t / 3 * 3 + t % 3 = t by omega] at h2
    rw [show (kCells ks).toArray[t]? = (kCells ks)[t]? from List.getElem?_toArray, h2]
    have h4 : t < (flatK kCell 3 ks.toArray).size := by rw [Go.Sort.size_flatK]; simpa using ht
    rw [Array.getElem?_eq_getElem h4, ← getElem!_pos (flatK kCell 3 ks.toArray) t h4, Go.Sort.get_flatK _ _ _ _ (by simpa using ht)]
    simp [h1]
  · rw [Array.getElem?_eq_none (by rw [Go.Sort.size_flatK]; simp; omega), show (kCells ks).toArray[t]? = (kCells ks)[t]? from List.getElem?_toArray, List.getElem?_eq_none (by rw [kCells_len]; omega)]
theorem heap_sorted {w : World} {g n : Nat} {os : Array Obj} {cur : Array Value} {e : TypeId} {fr : Nat × Nat} (F : Array Value) (hb : w.heap[g]? = some (.cells cur e fr)) :
    (grow (putRow id (Go.Sort.ahead w n) g 0 F) os).heap[g]? = some (.cells (putCells id 0 F cur) e fr) := by
  have hg : g < w.heap.size := (Array.getElem?_eq_some_iff.1 hb).1
  rw [heap_grow_old _ _ (by simpa using hg)]
  simp [putRow, Go.Sort.mapBlock, Go.Sort.ahead, Array.getElem?_modify, hb, Go.Sort.onCells]
theorem grownBy_srt {w : World} {g n : Nat} {os : Array Obj} (F : Array Value) : w.grownBy (grow (putRow id (Go.Sort.ahead w n) g 0 F) os) (some g) := by
  refine ⟨rfl, rfl, rfl, by simp, fun k hk hne => ?_⟩
  rw [heap_grow_old _ _ (by simpa using hk)]
  have : g ≠ k := fun e => hne (by rw [e])
  simp [putRow, Go.Sort.mapBlock, Go.Sort.ahead, Array.getElem?_modify, this]
theorem take_put (cur F : Array Value) (h : F.size ≤ cur.size) : (putCells id 0 F cur).toList.take F.size = F.toList := by
  apply List.ext_getElem?
  intro j
  by_cases hj : j < F.size
  · rw [List.getElem?_take_of_lt hj, Array.getElem?_toList, Array.getElem?_toList]
    simp [putCells, hj, show j < cur.size by omega]
  · rw [List.getElem?_take_eq_none (by omega), List.getElem?_eq_none (by simp; omega)]
set_option maxHeartbeats 1000000 in
theorem sort_any (base : Nat) (v : Value) (ks : List (Int × Int × Int)) (w : World) (hown : OwnK w base v ks) (hlen : ks.length ≤ 1000000) :
    Calls Tryz.prog 31 #[v, .func (.func 32) #[] #[]] w fun e w' => e = .returned (.tuple #[]) ∧ ∃ ks' : List (Int × Int × Int), ks'.Perm ks ∧ ks'.Pairwise (fun a b => ¬ kLt b a) ∧ OwnK w' base v ks' ∧ w.grownBy w' v.ownBlock := by
  rcases hown.2 with ⟨rfl, hn⟩ | ⟨g, cap, cur, rfl, hbg, hg, hnc, hcm, hcs, ht⟩
  · obtain rfl := List.length_eq_zero_iff.1 hn
    refine (AnyF.slices_SortFunc_none Tryz.laysSlF06_f31 none 0 (.func (.func 32) #[] #[]) w).mono ?_
    rintro e w' ⟨rfl, rfl⟩
    exact ⟨rfl, [], List.Perm.refl _, List.Pairwise.nil, hown, ⟨rfl, rfl, rfl, Nat.le_refl _, fun _ _ _ => rfl⟩⟩
  · have eg : ∀ args w, (callFunc 32 args).run Tryz.prog w = .ok (.enter 32 args) w := enters_of Tryz.func32 (by kernel_rfl) rfl
    have hH : HoldsK kCell 3 w g 0 ks.toArray := by
      unfold HoldsK
      rw [flat_keys]
      intro j hj
      have hj' : j < ks.length * 3 := by have := hj; simp [kCells_len] at this; exact this
      refine ⟨?_, by simp [World.frozen?, hg]⟩
      have h1 : (cur.toList.take (ks.length * 3))[j]? = (kCells ks)[j]? := by rw [ht]
      rw [List.getElem?_take_of_lt hj'] at h1
      rw [Nat.zero_add, cell_of_row w g j cur _ _ hg, ← Array.getElem?_toList, h1, List.getElem?_eq_getElem (by rw [kCells_len]; exact hj')]
      simp [kCells_len, hj']
    have hsz : ks.toArray.size = ks.length := by simp
    have hcon := Tryz.slices_SortFunc 3 Tryz.isAgg48 Tryz.sizeOf48 kCell (fun _ => rfl) (fun x v hv => by simp [kCell] at hv; rcases hv with rfl | rfl | rfl <;> rfl) cmpK swoK 32 #[] g 0 cap ks.toArray w eg (fun m os dk _ x y => closure3 x y _) hH (Array.getElem?_eq_some_iff.1 hg).1 (by rw [hsz]; omega)
    rw [hsz] at hcon
    refine hcon.mono ?_
    rintro e w' ⟨rfl, d', n, os, hp, hs, rfl⟩
    obtain ⟨hp1, _, hp3⟩ := hp
    have hdl : d'.toList.length = ks.length := by rw [Array.length_toList, hp1, hsz]
    have hp4 : d'.toList.Perm ks := by
      have e1 : (d'.extract 0 ks.length).toList = d'.toList := by
        simp only [Array.toList_extract, List.extract_eq_take_drop, Nat.sub_zero, List.drop_zero]
        exact List.take_of_length_le (by omega)
      have e2 : (ks.toArray.extract 0 ks.length).toList = ks := by simp
      rw [e1, e2] at hp3
      exact hp3
    refine ⟨rfl, d'.toList, hp4, ?_, ?_, ?_⟩
    · rw [List.pairwise_iff_getElem]
      intro i j hi hj hij
      have h := hs i j (Nat.zero_le _) hij (by rw [← hdl]; exact hj)
      rw [ltOf_k, decide_eq_false_iff_not, getElem!_pos d' j (by simpa using hj), getElem!_pos d' i (by simpa using hi)] at h
      simpa using h
    · refine ⟨by rw [kCells_len], .inr ⟨g, cap, putCells id 0 (kCells d'.toList).toArray cur, by rw [hdl], hbg, ?_, by rw [hdl]; exact hnc, hcm, by simp [putCells, hcs], ?_⟩⟩
      · unfold sortWorldK putRowK
        rw [show d' = d'.toList.toArray by simp, flat_keys]
        exact heap_sorted _ hg
      · have h := take_put cur (kCells d'.toList).toArray (by simp [kCells_len, hp1, hcs]; omega)
        simpa [kCells_len] using h
    · unfold sortWorldK putRowK
      exact grownBy_srt _
end Go.Proofs.YtgjajhopjcdflaaGreat
namespace Go.Proofs.YtgjajhopjcdflaaGreat
open Go Go.RowKit Go.Lib Go.Shelf Go.Maps

def pV (bb k : Nat) : Value := .pointer (some ⟨bb, k, none⟩)
def inElem (v : Value) : Option (DataW Value × List MemPlace) := some (.held v, [])
def inAll (bb : Nat) : DataW Value := ((((((((((DataW.map []).put (.int .i64 1) (.held (pV bb 0))).put (.int .i64 2) (.held (pV bb 1))).put (.int .i64 3) (.held (pV bb 2))).put (.int .i64 4) (.held (pV bb 3))).put (.int .i64 5) (.held (pV bb 4))).put (.int .i64 6) (.held (pV bb 5))).put (.int .i64 7) (.held (pV bb 6))).put (.int .i64 8) (.held (pV bb 7))).put (.int .i64 9) (.held (pV bb 8))).put (.int .i64 10) (.held (pV bb 9))
def IntoAt (w : World) (ib bb : Nat) : Prop := w.ownsMap Tryz.prog 3 inElem ib 10 (inAll bb)
theorem IntoAt.kept {w w' : World} {ib bb : Nat} (h : IntoAt w ib bb) (hb : w'.heap[ib]? = w.heap[ib]?) : IntoAt w' ib bb := by
  obtain ⟨es, clock, hh, F, hs, hD⟩ := h
  exact ⟨es, clock, hb.trans hh, F, hs, hD⟩
theorem IntoAt.lt {w : World} {ib bb : Nat} (h : IntoAt w ib bb) : ib < w.heap.size := by
  obtain ⟨es, clock, hh, _⟩ := h
  exact (Array.getElem?_eq_some_iff.1 hh).1
abbrev TI : TypeId := 55
theorem into_chain (W : World) (ib bb : Nat) (hib : W.heap.size = ib) : ∃ w1 w2 w3 w4 w5 w6 w7 w8 w9 w10 : World, (Instr.mapUpdate TI (.map (some ib)) (.int .i64 1) (.pointer (some ⟨bb, 0, none⟩))).run Tryz.prog (W.alloc (.map #[] 0)) = .ok () w1 ∧ (Instr.mapUpdate TI (.map (some ib)) (.int .i64 2) (.pointer (some ⟨bb, 1, none⟩))).run Tryz.prog w1 = .ok () w2 ∧ (Instr.mapUpdate TI (.map (some ib)) (.int .i64 3) (.pointer (some ⟨bb, 2, none⟩))).run Tryz.prog w2 = .ok () w3 ∧ (Instr.mapUpdate TI (.map (some ib)) (.int .i64 4) (.pointer (some ⟨bb, 3, none⟩))).run Tryz.prog w3 = .ok () w4 ∧ (Instr.mapUpdate TI (.map (some ib)) (.int .i64 5) (.pointer (some ⟨bb, 4, none⟩))).run Tryz.prog w4 = .ok () w5 ∧ (Instr.mapUpdate TI (.map (some ib)) (.int .i64 6) (.pointer (some ⟨bb, 5, none⟩))).run Tryz.prog w5 = .ok () w6 ∧ (Instr.mapUpdate TI (.map (some ib)) (.int .i64 7) (.pointer (some ⟨bb, 6, none⟩))).run Tryz.prog w6 = .ok () w7 ∧ (Instr.mapUpdate TI (.map (some ib)) (.int .i64 8) (.pointer (some ⟨bb, 7, none⟩))).run Tryz.prog w7 = .ok () w8 ∧ (Instr.mapUpdate TI (.map (some ib)) (.int .i64 9) (.pointer (some ⟨bb, 8, none⟩))).run Tryz.prog w8 = .ok () w9 ∧ (Instr.mapUpdate TI (.map (some ib)) (.int .i64 10) (.pointer (some ⟨bb, 9, none⟩))).run Tryz.prog w9 = .ok () w10 ∧ IntoAt w10 ib bb ∧ Below W.heap.size W w10 := by
  subst hib
  have m0 := World.ownsMap_made W Tryz.prog 3 inElem
  obtain ⟨w1, r1, m1, g1⟩ := m0.update (int_keyed Tryz.underlying3) Tryz.underlying55 (by decide) (keyOf_int_mk Tryz.underlying3 (show (Lit.int .i64 1).wf = true by decide)) (show inElem (pV bb 0) = _ from rfl)
  obtain ⟨w2, r2, m2, g2⟩ := m1.update (int_keyed Tryz.underlying3) Tryz.underlying55 (by decide) (keyOf_int_mk Tryz.underlying3 (show (Lit.int .i64 2).wf = true by decide)) (show inElem (pV bb 1) = _ from rfl)
  obtain ⟨w3, r3, m3, g3⟩ := m2.update (int_keyed Tryz.underlying3) Tryz.underlying55 (by decide) (keyOf_int_mk Tryz.underlying3 (show (Lit.int .i64 3).wf = true by decide)) (show inElem (pV bb 2) = _ from rfl)
  obtain ⟨w4, r4, m4, g4⟩ := m3.update (int_keyed Tryz.underlying3) Tryz.underlying55 (by decide) (keyOf_int_mk Tryz.underlying3 (show (Lit.int .i64 4).wf = true by decide)) (show inElem (pV bb 3) = _ from rfl)
  obtain ⟨w5, r5, m5, g5⟩ := m4.update (int_keyed Tryz.underlying3) Tryz.underlying55 (by decide) (keyOf_int_mk Tryz.underlying3 (show (Lit.int .i64 5).wf = true by decide)) (show inElem (pV bb 4) = _ from rfl)
  obtain ⟨w6, r6, m6, g6⟩ := m5.update (int_keyed Tryz.underlying3) Tryz.underlying55 (by decide) (keyOf_int_mk Tryz.underlying3 (show (Lit.int .i64 6).wf = true by decide)) (show inElem (pV bb 5) = _ from rfl)
  obtain ⟨w7, r7, m7, g7⟩ := m6.update (int_keyed Tryz.underlying3) Tryz.underlying55 (by decide) (keyOf_int_mk Tryz.underlying3 (show (Lit.int .i64 7).wf = true by decide)) (show inElem (pV bb 6) = _ from rfl)
  obtain ⟨w8, r8, m8, g8⟩ := m7.update (int_keyed Tryz.underlying3) Tryz.underlying55 (by decide) (keyOf_int_mk Tryz.underlying3 (show (Lit.int .i64 8).wf = true by decide)) (show inElem (pV bb 7) = _ from rfl)
  obtain ⟨w9, r9, m9, g9⟩ := m8.update (int_keyed Tryz.underlying3) Tryz.underlying55 (by decide) (keyOf_int_mk Tryz.underlying3 (show (Lit.int .i64 9).wf = true by decide)) (show inElem (pV bb 8) = _ from rfl)
  obtain ⟨w10, r10, m10, g10⟩ := m9.update (int_keyed Tryz.underlying3) Tryz.underlying55 (by decide) (keyOf_int_mk Tryz.underlying3 (show (Lit.int .i64 10).wf = true by decide)) (show inElem (pV bb 9) = _ from rfl)
  have b0 : Below W.heap.size W (W.alloc (.map #[] 0)) := (Below.refl _ _).alloc (Nat.le_refl _) _
  have gb : ∀ j, some W.heap.size = some j → W.heap.size ≤ j := fun j e => by cases e; exact Nat.le_refl _
  have b1 : Below W.heap.size W w1 := b0.grown g1 b0.size gb
  have b2 : Below W.heap.size W w2 := b1.grown g2 b1.size gb
  have b3 : Below W.heap.size W w3 := b2.grown g3 b2.size gb
  have b4 : Below W.heap.size W w4 := b3.grown g4 b3.size gb
  have b5 : Below W.heap.size W w5 := b4.grown g5 b4.size gb
  have b6 : Below W.heap.size W w6 := b5.grown g6 b5.size gb
  have b7 : Below W.heap.size W w7 := b6.grown g7 b6.size gb
  have b8 : Below W.heap.size W w8 := b7.grown g8 b7.size gb
  have b9 : Below W.heap.size W w9 := b8.grown g9 b8.size gb
  have b10 : Below W.heap.size W w10 := b9.grown g10 b9.size gb
  exact ⟨w1, w2, w3, w4, w5, w6, w7, w8, w9, w10, r1, r2, r3, r4, r5, r6, r7, r8, r9, r10, m10, b10⟩
theorem inAll_at (bb k : Nat) (h1 : 1 ≤ k) (h2 : k ≤ 10) (zd : DataW Value) : (inAll bb).atKey (.int .i64 (k : Int)) zd = .held (pV bb (k - 1)) := by
  have o : ∀ (D : DataW Value) (a b : Int) (d : DataW Value), a ≠ b → (D.put (.int .i64 b) d).atKey (.int .i64 a) zd = D.atKey (.int .i64 a) zd := fun D a b d h => atKey_put_other (fun e => h (by simpa using e)) d zd
  have s : ∀ (D : DataW Value) (a : Int) (d : DataW Value), IsMap D → (D.put (.int .i64 a) d).atKey (.int .i64 a) zd = d := fun D a d h => atKey_put_same (k := .int .i64 a) h trivial d zd
  have m : ∀ (D : DataW Value) (k : Lit) (d : DataW Value), IsMap D → IsMap (D.put k d) := fun D k d h => h.put k d
  have m0 : IsMap (DataW.map [] : DataW Value) := ⟨[], rfl⟩
  unfold inAll
  rcases (by omega : k = 1 ∨ k = 2 ∨ k = 3 ∨ k = 4 ∨ k = 5 ∨ k = 6 ∨ k = 7 ∨ k = 8 ∨ k = 9 ∨ k = 10) with rfl | rfl | rfl | rfl | rfl | rfl | rfl | rfl | rfl | rfl
  · show DataW.atKey _ (.int .i64 1) zd = _
    rw [o _ 1 10 _ (by decide), o _ 1 9 _ (by decide), o _ 1 8 _ (by decide), o _ 1 7 _ (by decide), o _ 1 6 _ (by decide), o _ 1 5 _ (by decide), o _ 1 4 _ (by decide), o _ 1 3 _ (by decide), o _ 1 2 _ (by decide), s _ 1 _ m0]
  · show DataW.atKey _ (.int .i64 2) zd = _
    rw [o _ 2 10 _ (by decide), o _ 2 9 _ (by decide), o _ 2 8 _ (by decide), o _ 2 7 _ (by decide), o _ 2 6 _ (by decide), o _ 2 5 _ (by decide), o _ 2 4 _ (by decide), o _ 2 3 _ (by decide), s _ 2 _ (m _ _ _ m0)]
  · show DataW.atKey _ (.int .i64 3) zd = _
    rw [o _ 3 10 _ (by decide), o _ 3 9 _ (by decide), o _ 3 8 _ (by decide), o _ 3 7 _ (by decide), o _ 3 6 _ (by decide), o _ 3 5 _ (by decide), o _ 3 4 _ (by decide), s _ 3 _ (m _ _ _ (m _ _ _ m0))]
  · show DataW.atKey _ (.int .i64 4) zd = _
    rw [o _ 4 10 _ (by decide), o _ 4 9 _ (by decide), o _ 4 8 _ (by decide), o _ 4 7 _ (by decide), o _ 4 6 _ (by decide), o _ 4 5 _ (by decide), s _ 4 _ (m _ _ _ (m _ _ _ (m _ _ _ m0)))]
  · show DataW.atKey _ (.int .i64 5) zd = _
    rw [o _ 5 10 _ (by decide), o _ 5 9 _ (by decide), o _ 5 8 _ (by decide), o _ 5 7 _ (by decide), o _ 5 6 _ (by decide), s _ 5 _ (m _ _ _ (m _ _ _ (m _ _ _ (m _ _ _ m0))))]
  · show DataW.atKey _ (.int .i64 6) zd = _
    rw [o _ 6 10 _ (by decide), o _ 6 9 _ (by decide), o _ 6 8 _ (by decide), o _ 6 7 _ (by decide), s _ 6 _ (m _ _ _ (m _ _ _ (m _ _ _ (m _ _ _ (m _ _ _ m0)))))]
  · show DataW.atKey _ (.int .i64 7) zd = _
    rw [o _ 7 10 _ (by decide), o _ 7 9 _ (by decide), o _ 7 8 _ (by decide), s _ 7 _ (m _ _ _ (m _ _ _ (m _ _ _ (m _ _ _ (m _ _ _ (m _ _ _ m0))))))]
  · show DataW.atKey _ (.int .i64 8) zd = _
    rw [o _ 8 10 _ (by decide), o _ 8 9 _ (by decide), s _ 8 _ (m _ _ _ (m _ _ _ (m _ _ _ (m _ _ _ (m _ _ _ (m _ _ _ (m _ _ _ m0)))))))]
  · show DataW.atKey _ (.int .i64 9) zd = _
    rw [o _ 9 10 _ (by decide), s _ 9 _ (m _ _ _ (m _ _ _ (m _ _ _ (m _ _ _ (m _ _ _ (m _ _ _ (m _ _ _ (m _ _ _ m0))))))))]
  · show DataW.atKey _ (.int .i64 10) zd = _
    rw [s _ 10 _ (m _ _ _ (m _ _ _ (m _ _ _ (m _ _ _ (m _ _ _ (m _ _ _ (m _ _ _ (m _ _ _ (m _ _ _ m0)))))))))]
theorem nil_zero (w : World) : (zeroValue 54).run Tryz.prog w = .ok (.pointer none) w := Tryz.zeroValue54 w
theorem into_look {w : World} {ib bb : Nat} (h : IntoAt w ib bb) (k : Nat) (h1 : 1 ≤ k) (h2 : k ≤ 10) :
    (Instr.lookup TI (.map (some ib)) (.int .i64 (k : Int)) false).run Tryz.prog w = .ok (.pointer (some ⟨bb, k - 1, none⟩)) w := by
  have hkey : keyOf Tryz.prog 3 (.int .i64 (k : Int)) = some (.int .i64 (k : Int)) := keyOf_int_mk Tryz.underlying3 (WalkArith.wf_i64 (by omega))
  obtain ⟨v, ps, hrun, hv⟩ := World.ownsMap.lookup h (int_keyed Tryz.underlying3) Tryz.underlying55 (nil_zero w) (show inElem (.pointer none) = some (.held (.pointer none), []) from rfl) hkey
  rw [inAll_at bb k h1 h2] at hv
  have hv2 : v = pV bb (k - 1) := by
    unfold inElem at hv
    simp only [Option.some.injEq, Prod.mk.injEq, DataW.held.injEq] at hv
    exact hv.1
  rw [hrun, hv2]
  rfl
end Go.Proofs.YtgjajhopjcdflaaGreat
namespace Go.Proofs.YtgjajhopjcdflaaGreat
open Go Go.RowKit Go.Lib Go.Shelf Go.Maps

def kindF (q : Nat) (f : FactV) : Bool := decide (f.n 0 = (q : Int) + 1)
/-- ten slices, each of the facts of a kind, in blocks of their own -/
structure Lists (w : World) (base : Nat) (bs : Array Value) (fs : List FactV) : Prop where
  size : bs.size = 10
  own : ∀ q, q < 10 → ∃ v, bs[q]? = some v ∧ OwnF w base v (fs.filter (kindF q))
  apart : ∀ (q q' : Nat) (v v' : Value) (b : Nat), q ≠ q' → bs[q]? = some v → bs[q']? = some v' → v.ownBlock = some b → v'.ownBlock ≠ some b
theorem Lists.below {w w' : World} {base : Nat} {bs : Array Value} {fs : List FactV} (h : Lists w base bs fs) (hb : Below w.heap.size w w') : Lists w' base bs fs :=
  ⟨h.size, fun q hq => by obtain ⟨v, h1, h2⟩ := h.own q hq; exact ⟨v, h1, h2.below hb⟩, h.apart⟩
theorem Lists.other {w w' : World} {base : Nat} {bs : Array Value} {fs : List FactV} (h : Lists w base bs fs) (ho : ∀ j, base ≤ j → j < w.heap.size → w'.heap[j]? = w.heap[j]?) : Lists w' base bs fs :=
  ⟨h.size, fun q hq => by obtain ⟨v, h1, h2⟩ := h.own q hq; exact ⟨v, h1, owns_other h2 ho⟩, h.apart⟩
theorem own_lt {w : World} {base : Nat} {v : Value} {l : List FactV} (h : OwnF w base v l) {b : Nat} (hb : v.ownBlock = some b) : base ≤ b ∧ b < w.heap.size := h.lt b hb
theorem Lists.put {w w' : World} {base : Nat} {bs : Array Value} {fs : List FactV} {f : FactV} {q : Nat} {v v' : Value} (h : Lists w base bs fs) (hq : q < 10) (hk : f.n 0 = (q : Int) + 1) (hv : bs[q]? = some v)
    (hown : OwnF w' base v' (fs.filter (kindF q) ++ [f])) (hg : w.grownBy w' v.ownBlock) (hb : v'.ownBlock = v.ownBlock ∨ v'.ownBlock = some w.heap.size) : Lists w' base (bs.setIfInBounds q v') (fs ++ [f]) := by
  have hfq : kindF q f = true := by unfold kindF; simpa using hk
  refine ⟨by simp [h.size], fun p hp => ?_, ?_⟩
  · by_cases hpq : q = p
    · subst hpq
      refine ⟨v', by rw [Array.getElem?_setIfInBounds, if_pos rfl, if_pos (by rw [h.size]; exact hq)], ?_⟩
      rw [List.filter_append]
      simpa [hfq] using hown
    · obtain ⟨u, h1, h2⟩ := h.own p hp
      refine ⟨u, by rw [Array.getElem?_setIfInBounds, if_neg hpq]; exact h1, ?_⟩
      have hfp : kindF p f = false := by
        unfold kindF
        rw [hk]
        simp
        omega
      rw [List.filter_append, List.filter_cons, hfp]
      simp only [Bool.false_eq_true, if_false, List.filter_nil, List.append_nil]
      refine World.ownsRow.kept h2 hg ?_
      cases hu : u.ownBlock with
      | none => exact .inl rfl
      | some b => exact .inr (fun e => h.apart p q u v b (Ne.symm hpq) h1 hv hu e.symm)
  · intro p p' u u' b hpp hu hu' hb1 hb2
    rw [Array.getElem?_setIfInBounds] at hu hu'
    by_cases e1 : q = p
    · subst e1
      rw [if_pos rfl, if_pos (by rw [h.size]; exact hq)] at hu
      rw [if_neg (fun e => hpp e)] at hu'
      cases hu
      rcases hb with e | e
      · exact h.apart q p' v u' b hpp hv hu' (e ▸ hb1) hb2
      · rw [e] at hb1
        cases hb1
        have hp' : p' < 10 := by have := (Array.getElem?_eq_some_iff.1 hu').1; rw [h.size] at this; exact this
        obtain ⟨x, h1, h2⟩ := h.own p' hp'
        rw [h1] at hu'
        cases hu'
        exact absurd (own_lt h2 hb2).2 (Nat.lt_irrefl _)
    · rw [if_neg e1] at hu
      by_cases e2 : q = p'
      · subst e2
        rw [if_pos rfl, if_pos (by rw [h.size]; exact hq)] at hu'
        cases hu'
        rcases hb with e | e
        · exact h.apart p q u v b hpp hu hv hb1 (e ▸ hb2)
        · rw [e] at hb2
          cases hb2
          have hp' : p < 10 := by have := (Array.getElem?_eq_some_iff.1 hu).1; rw [h.size] at this; exact this
          obtain ⟨x, h1, h2⟩ := h.own p hp'
          rw [h1] at hu
          cases hu
          exact absurd (own_lt h2 hb1).2 (Nat.lt_irrefl _)
      · rw [if_neg e2] at hu'
        exact h.apart p p' u u' b hpp hu hu' hb1 hb2
theorem Lists.start (w : World) (base : Nat) : Lists w base #[.slice none 0 0, .slice none 0 0, .slice none 0 0, .slice none 0 0, .slice none 0 0, .slice none 0 0, .slice none 0 0, .slice none 0 0, .slice none 0 0, .slice none 0 0] [] := by
  have hg : ∀ q, q < 10 → (#[Value.slice none 0 0, .slice none 0 0, .slice none 0 0, .slice none 0 0, .slice none 0 0, .slice none 0 0, .slice none 0 0, .slice none 0 0, .slice none 0 0, .slice none 0 0] : Array Value)[q]? = some (.slice none 0 0) := by
    intro q hq
    rcases (by omega : q = 0 ∨ q = 1 ∨ q = 2 ∨ q = 3 ∨ q = 4 ∨ q = 5 ∨ q = 6 ∨ q = 7 ∨ q = 8 ∨ q = 9) with rfl | rfl | rfl | rfl | rfl | rfl | rfl | rfl | rfl | rfl <;> rfl
  refine ⟨rfl, fun q hq => ⟨_, hg q hq, OwnF.nil w base⟩, ?_⟩
  intro q q' v v' b _ h1 _ h3
  have hq := (Array.getElem?_eq_some_iff.1 h1).1
  rw [hg q hq] at h1
  cases h1
  cases h3
theorem wp_build_fact {o : Oper} {a : Act} {w : World} {K : Act → World → Prop} {Q : Exit → Act → World → Prop} (x : Operand) (cs : Array Value) (f : FactV) (hcs : f.cells = cs) (ho : o.op = .buildSlice 23 1 #[(0, x)]) (hx : a.eval x = .agg cs)
    (h : K (a.put o.dst (.slice (some ⟨w.heap.size, 0, none⟩) 1 1)) (w.alloc (.cells cs 34))) : o.wp Tryz.prog a w K Q := by
  subst hcs
  obtain ⟨i0, hi, hz0, hz1, hz2⟩ := info_parts fact_info
  refine wp_buildSlice 23 34 1 #[(0, x)] ho f.cells i0 _ Tryz.underlying23 hi hz0 (by rw [hz1]; decide) (by rw [hz1]; decide) ?_ h
  rw [hz1]
  simp only [List.map_toArray, List.map_cons, List.map_nil, hx]
  exact fill_fact f
theorem wp_append_fact {o : Oper} {a : Act} {w : World} {K : Act → World → Prop} {Q : Exit → Act → World → Prop} (s x : Operand) (base : Nat) (L : List FactV) (f : FactV) (b : Nat) (v : Value) (hown : OwnF w base v L) (hlen : L.length ≤ 1000000) (hbase : base ≤ w.heap.size)
    (hnews : ∀ (j : Nat) u, f.cells.toList[j]? = some u → w.cell? ((⟨b, 0, none⟩ : Addr).add j) = some u)
    (ho : o.op = .call { callee := .builtin .append, args := #[s, x], argTypes := #[23, 23] })
    (hs : a.eval s = v) (hx : a.eval x = .slice (some ⟨b, 0, none⟩) 1 1)
    (h : ∀ v' w', OwnF w' base v' (L ++ [f]) → w.grownBy w' v.ownBlock → (v'.ownBlock = v.ownBlock ∨ v'.ownBlock = some w.heap.size) → K (a.put o.dst v') w') : o.wp Tryz.prog a w K Q := by
  obtain ⟨i0, hi, hz0, hz1, hz2⟩ := info_parts fact_info
  obtain ⟨v', w', hr, h2, h3, _, h5⟩ := run_append_own_at (P := Tryz.prog) w base 23 o.type 34 i0 _ 18 152 Tryz.underlying23 hi hz0 hz1 hz2 rfl (by decide) v L.length (ffCells L) hown ⟨b, 0, none⟩ 1 1 f.cells.toList (by simp [FactV.cells_size]) hnews (fact_ones f) (by unfold maxLen; omega) (by omega) hbase
  unfold Oper.wp execOp
  simp only [ho, resolve, invoke, builtin, Sem.run_bind, Sem.run_pure, Result.andThen_ok, List.map_toArray, List.map_cons, List.map_nil, hs, hx, hr]
  refine h v' w' ?_ h3 h5
  unfold OwnF
  rw [ffCells_app, List.length_append]
  exact h2
theorem putL_mem {L : List FactV} {f x : FactV} (h : x ∈ putL L f) : x ∈ L ∨ x = f := by
  unfold putL at h
  split at h
  · obtain ⟨y, hy, he⟩ := List.mem_map.1 h
    split at he
    · exact .inr he.symm
    · exact .inl (he ▸ hy)
  · rcases List.mem_append.1 h with h | h
    · exact .inl h
    · exact .inr (List.mem_singleton.1 h)
theorem stepB_mem {L : List FactV} {f x : FactV} (h : x ∈ stepB L f) : x ∈ L ∨ (x = f ∧ validB f = true) := by
  unfold stepB at h
  split at h
  · rename_i hv
    split at h
    · exact (putL_mem h).imp id (fun e => ⟨e, hv⟩)
    · split at h
      · exact (putL_mem h).imp id (fun e => ⟨e, hv⟩)
      · exact .inl h
  · exact .inl h
theorem fold_valid : ∀ (l L : List FactV), (∀ f ∈ L, validB f = true) → ∀ f ∈ l.foldl stepB L, validB f = true
  | [], _, h => h
  | x :: l, L, h => fold_valid l (stepB L x) (fun f hf => (stepB_mem hf).elim (h f) (fun e => e.1 ▸ e.2))
theorem bestL_valid (l : List FactV) : ∀ f ∈ bestL l, validB f = true := fold_valid l [] (by simp)
theorem valid_kind {f : FactV} (h : validB f = true) : ∃ q : Nat, q < 10 ∧ f.n 0 = (q : Int) + 1 := by
  unfold validB at h
  simp only [Bool.and_eq_true, decide_eq_true_eq] at h
  exact ⟨(f.n 0 - 1).toNat, by omega, by omega⟩
/-- what the last round keeps: the lists of the facts whose keys were taken -/
structure Of3 (w wo : World) (v : Value) (l : List FactV) (j R ib bb : Nat) (v9 : Value) (ks : List (Int × Int × Int)) (i : Nat) (bs : Array Value) (fs : List FactV) (wx : World) : Prop where
  keys : OwnK wx (R + 1) v9 ks
  map : MapF wx (w.heap.size + 1) j (bestL l)
  into : IntoAt wx ib bb
  row : RowAt wx bb 27 bs
  lists : Lists wx (ib + 1) bs fs
  zb : ∃ z, RowAt wx w.heap.size 27 z ∧ z.size = 10
  below : Below w.heap.size w wx
  done : fs.map kT = ks.take i
  best : ∀ f ∈ fs, f ∈ bestL l
  size : ib + 1 ≤ wx.heap.size
theorem Of3.more {w wo wx W : World} {v v9 : Value} {l : List FactV} {j R ib bb i : Nat} {ks : List (Int × Int × Int)} {bs : Array Value} {fs : List FactV} (h : Of3 w wo v l j R ib bb v9 ks i bs fs wx) (hb : Below wx.heap.size wx W) : Of3 w wo v l j R ib bb v9 ks i bs fs W :=
  ⟨h.keys.below hb, h.map.kept (hb.block _ h.map.lt), h.into.kept (hb.block _ h.into.lt), h.row.below hb h.row.lt, h.lists.below hb, by obtain ⟨z, h1, h2⟩ := h.zb; exact ⟨z, h1.below hb h1.lt, h2⟩, h.below.trans (hb.mono h.below.size), h.done, h.best, Nat.le_trans h.size hb.size⟩
end Go.Proofs.YtgjajhopjcdflaaGreat
