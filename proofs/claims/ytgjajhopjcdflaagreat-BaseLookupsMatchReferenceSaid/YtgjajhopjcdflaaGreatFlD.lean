import Derived.Test.YtgjajhopjcdflaaGreatFlB
import Derived.Test.YtgjajhopjcdflaaGreatFkShelg
namespace Go.Proofs.YtgjajhopjcdflaaGreat
open Go Go.RowKit Go.Lib Go.Shelf Go.Maps
open Go.Sort hiding Below

def OwnI (w : World) (base : Nat) (v : Value) (xs : List Int) : Prop := w.ownsRow base 3 1 v xs.length (xs.map (Value.int .i64))
theorem OwnI.nil (w : World) (base : Nat) : OwnI w base (.slice none 0 0) [] := World.ownsRow_nil _ _ _ _
theorem OwnI.below {w w' : World} {base : Nat} {v : Value} {xs : List Int} (h : OwnI w base v xs) (hb : Below w.heap.size w w') : OwnI w' base v xs := owns_below h hb
/-- a slice of integers that is empty, or lies in memory -/
def IntsR (w : World) (v : Value) (xs : List Int) : Prop := ∃ A c, v = .slice A xs.length c ∧ (xs = [] ∨ ∃ b, A = some ⟨b, 0, none⟩ ∧ b < w.heap.size ∧ ∀ j x, xs[j]? = some x → w.cell? ⟨b, j, none⟩ = some (.int .i64 x))
def sortI (xs : List Int) : List Int := xs.mergeSort (fun x y => !(ltOf Lib.compareInt) y x)
theorem ltOf_int (x y : Int) : ltOf Lib.compareInt x y = decide (x < y) := by
  unfold ltOf
  exact decide_eq_decide.2 (cmpInt_lt x y).1
theorem swoI : SWO (ltOf Lib.compareInt) where
  irrefl x := by rw [ltOf_int]; simp
  trans x y z h1 h2 := by rw [ltOf_int, decide_eq_true_eq] at *; omega
  ntrans x y z h1 h2 := by rw [ltOf_int, decide_eq_false_iff_not] at *; omega
theorem holds_int {w : World} {g : Nat} {cur : Array Value} {xs : List Int} (hb : w.heap[g]? = some (.cells cur 3 (0, 0))) (ht : cur.toList.take xs.length = xs.map (Value.int .i64)) : Holds (Value.int .i64) w g 0 xs.toArray := by
  intro j hj
  have hj' : j < xs.length := by simpa using hj
  refine ⟨?_, by simp [World.frozen?, hb]⟩
  have h1 : (cur.toList.take xs.length)[j]? = (xs.map (Value.int .i64))[j]? := by rw [ht]
  rw [List.getElem?_take_of_lt hj'] at h1
  rw [Nat.zero_add, cell_of_row w g j cur _ _ hb, ← Array.getElem?_toList, h1]
  simp [hj']
theorem heap_srtI {w : World} {g n : Nat} {os : Array Obj} {cur : Array Value} {e : TypeId} {fr : Nat × Nat} (d : Array Int) (hb : w.heap[g]? = some (.cells cur e fr)) :
    (grow (putRow (Value.int .i64) (Go.Sort.ahead w n) g 0 d) os).heap[g]? = some (.cells (putCells (Value.int .i64) 0 d cur) e fr) := by
  have hg : g < w.heap.size := (Array.getElem?_eq_some_iff.1 hb).1
  rw [heap_grow_old _ _ (by simpa using hg)]
  simp [putRow, Go.Sort.mapBlock, Go.Sort.ahead, Array.getElem?_modify, hb, Go.Sort.onCells]
theorem grown_srtI {w : World} {g n : Nat} {os : Array Obj} (d : Array Int) : w.grownBy (grow (putRow (Value.int .i64) (Go.Sort.ahead w n) g 0 d) os) (some g) := by
  refine ⟨rfl, rfl, rfl, by simp, fun k hk hne => ?_⟩
  rw [heap_grow_old _ _ (by simpa using hk)]
  have : g ≠ k := fun e => hne (by rw [e])
  simp [putRow, Go.Sort.mapBlock, Go.Sort.ahead, Array.getElem?_modify, this]
theorem take_putI (cur : Array Value) (ts : List Int) (h : ts.length ≤ cur.size) : (putCells (Value.int .i64) 0 ts.toArray cur).toList.take ts.length = ts.map (Value.int .i64) := by
  apply List.ext_getElem?
  intro j
  by_cases hj : j < ts.length
  · rw [List.getElem?_take_of_lt hj, Array.getElem?_toList]
    simp [putCells, hj, show j < cur.size by omega]
  · rw [List.getElem?_take_eq_none (by omega), List.getElem?_eq_none (by simp; omega)]
set_option maxHeartbeats 1000000 in
theorem sortInts_any (base : Nat) (v : Value) (xs : List Int) (w : World) (hown : OwnI w base v xs) (hlen : xs.length ≤ 10000000) :
    Calls Tryz.prog 49 #[v, .func (.func 50) #[] #[]] w fun e w' => e = .returned (.tuple #[]) ∧ OwnI w' base v (sortI xs) ∧ w.grownBy w' v.ownBlock := by
  rcases hown.2 with ⟨rfl, hn⟩ | ⟨g, cap, cur, rfl, hbg, hg, hnc, hcm, hcs, ht⟩
  · obtain rfl := List.length_eq_zero_iff.1 hn
    refine (Tryz.slices_SortFunc_none_f49 (α := Int) none 0 (.func (.func 50) #[] #[]) w).mono ?_
    rintro e w' ⟨rfl, rfl⟩
    exact ⟨rfl, by unfold sortI; simpa using hown, ⟨rfl, rfl, rfl, Nat.le_refl _, fun _ _ _ => rfl⟩⟩
  · have eg : ∀ args w, (callFunc 50 args).run Tryz.prog w = .ok (.enter 50 args) w := enters_of Tryz.func50 (by kernel_rfl) rfl
    have hH : Holds (Value.int .i64) w g 0 xs.toArray := holds_int hg (by rw [Nat.mul_one] at ht; exact ht)
    have hcon := Tryz.slices_SortFunc_total (Value.int .i64) (fun x => rfl) Lib.compareInt swoI 50 #[] g 0 cap xs.toArray w eg (fun m os dk _ x y => (Tryz.cmp_Compare_int x y _).mono (fun e w' h => ⟨h.1, 0, #[], by rw [h.2, grow_empty]; rfl⟩)) hH (Array.getElem?_eq_some_iff.1 hg).1 (by simp; omega) (fun x y h1 h2 => by rw [ltOf_int, decide_eq_false_iff_not] at h1 h2; omega)
    have hsz : xs.toArray.size = xs.length := by simp
    rw [hsz] at hcon
    refine hcon.mono ?_
    rintro e w' ⟨rfl, n, os, rfl⟩
    have hl : (sortI xs).length = xs.length := by unfold sortI; simp
    refine ⟨rfl, ?_, grown_srtI _⟩
    refine ⟨by simp, .inr ⟨g, cap, putCells (Value.int .i64) 0 (sortI xs).toArray cur, by rw [hl], hbg, heap_srtI _ hg, by rw [hl]; exact hnc, hcm, by simp [putCells, hcs], ?_⟩⟩
    rw [Nat.mul_one]
    exact take_putI cur (sortI xs) (by omega)
theorem compact_any (base : Nat) (v : Value) (xs : List Int) (w : World) (hown : OwnI w base v xs) (hlen : xs.length ≤ 10000000) :
    Calls Tryz.prog 51 #[v] w fun e w' => ∃ v', e = .returned v' ∧ IntsR w' v' (Lib.compact xs) ∧ Below base w w' := by
  rcases hown.2 with ⟨rfl, hn⟩ | ⟨g, cap, cur, rfl, hbg, hg, hnc, hcm, hcs, ht⟩
  · obtain rfl := List.length_eq_zero_iff.1 hn
    refine (Tryz.slices_Compact_int_empty none 0 w).mono ?_
    rintro e w' ⟨rfl, rfl⟩
    exact ⟨_, rfl, ⟨none, 0, rfl, .inl rfl⟩, Below.refl _ _⟩
  · have hH : Holds (Value.int .i64) w g 0 xs.toArray := holds_int hg (by rw [Nat.mul_one] at ht; exact ht)
    refine (Tryz.slices_Compact_int g 0 cap xs w hH (by omega) hnc).mono ?_
    rintro e w' ⟨rfl, q, rfl⟩
    have hcl := Lib.compact_length_le xs
    obtain ⟨ys, hys⟩ : ∃ z, Lib.compact xs ++ List.replicate (xs.length - (Lib.compact xs).length) 0 = z := ⟨_, rfl⟩
    have hyl : ys.length = xs.length := by rw [← hys]; simp; omega
    rw [hys]
    have hpre : ∀ (j : Nat) (x : Int), (Lib.compact xs)[j]? = some x → ys[j]? = some x := by
      intro j x hx
      rw [← hys, List.getElem?_append_left (List.getElem?_eq_some_iff.1 hx).1]
      exact hx
    have hheap := heap_srtI (os := #[]) (n := q) ys.toArray hg
    rw [grow_empty] at hheap
    refine ⟨_, rfl, ⟨some ⟨g, 0, none⟩, cap, rfl, .inr ⟨g, rfl, by rw [size_putRow]; exact (Array.getElem?_eq_some_iff.1 hg).1, fun j x hx => ?_⟩⟩, ?_⟩
    · rw [cell_of_row _ g j _ _ _ hheap, ← Array.getElem?_toList]
      have h1 := take_putI cur ys (by omega)
      have hj : j < ys.length := by have := (List.getElem?_eq_some_iff.1 (hpre j x hx)).1; exact this
      have h2 : ((putCells (Value.int .i64) 0 ys.toArray cur).toList.take ys.length)[j]? = (ys.map (Value.int .i64))[j]? := by rw [h1]
      rw [List.getElem?_take_of_lt hj] at h2
      rw [h2, List.getElem?_map, hpre j x hx]
      rfl
    · have h3 := grown_srtI (w := w) (g := g) (n := q) (os := #[]) ys.toArray
      rw [grow_empty] at h3
      exact (Below.refl base w).grown h3 (by have := (Array.getElem?_eq_some_iff.1 hg).1; omega) (fun k hk => by cases hk; exact hbg)
end Go.Proofs.YtgjajhopjcdflaaGreat
namespace Go.Proofs.YtgjajhopjcdflaaGreat
open Go Go.RowKit Go.Lib Go.Shelf Go.Maps

def hol (l : List FactV) : List Int := l.map (·.n 9)
def holdersF (LA : Nat → List FactV) : List Int := Lib.compact (sortI (hol (LA 2) ++ hol (LA 3)))
theorem hol_take {l : List FactV} {j : Nat} {f : FactV} (h : l[j]? = some f) : hol (l.take (j + 1)) = hol (l.take j) ++ [f.n 9] := by
  rw [take_next h]
  simp [hol]
theorem int_info : (Tryz.prog.info? 3).map (fun i => (i.zero, i.size, i.bytes)) = some (some (.int .i64 0), 1, 8) := by kernel_rfl
theorem append_int {ops : Array Oper} {rest : List Oper} {o : Oper} {a : Act} {w : World} {Q : Exit → Act → World → Prop} (s x : Operand) (base : Nat) (xs : List Int) (y : Int) (b : Nat) (v : Value) (hown : OwnI w base v xs) (hlen : xs.length ≤ 10000000) (hbase : base ≤ w.heap.size)
    (hnew : w.cell? ⟨b, 0, none⟩ = some (.int .i64 y)) (hgd : o.guard = none) (ho : o.op = .call { callee := .builtin .append, args := #[s, x], argTypes := #[32, 32] })
    (hs : a.eval s = v) (hx : a.eval x = .slice (some ⟨b, 0, none⟩) 1 1)
    (h : ∀ v' w', OwnI w' base v' (xs ++ [y]) → Below base w w' → wpList Tryz.prog ops Q rest (a.put o.dst v') w') : wpList Tryz.prog ops Q (o :: rest) a w := by
  obtain ⟨i0, hi, hz0, hz1, hz2⟩ := info_parts int_info
  refine wpList_append_own _ hgd s x 32 ho base 3 i0 _ 1 8 Tryz.underlying32 hi hz0 hz1 hz2 rfl (by decide) v xs.length (xs.map (Value.int .i64)) hs hown ⟨b, 0, none⟩ 1 1 [.int .i64 y] hx rfl ?_ (by intro u hu; simp at hu; subst hu; rfl) (by unfold maxLen; omega) (by omega) hbase fun v' w' h1 h2 _ => h v' w' ?_ ?_
  · intro j u hj
    match j, hj with
    | 0, hj => simp at hj; subst hj; simpa [Addr.add] using hnew
  · unfold OwnI
    rw [List.length_append, List.map_append]
    exact h1
  · exact (Below.refl _ _).grown h2 hbase (fun j e => (World.ownsRow.lt hown j e).1)
def accH (LA : Nat → List FactV) (i : Nat) : List Int := ((List.range i).map (fun q => hol (LA (q + 2)))).flatten
theorem accH_succ (LA : Nat → List FactV) (i : Nat) : accH LA (i + 1) = accH LA i ++ hol (LA (i + 2)) := by
  simp [accH, List.range_succ]
theorem accH_len (LA : Nat → List FactV) (hn : ∀ q, (LA q).length ≤ 1000000) : ∀ i, (accH LA i).length ≤ i * 1000000
  | 0 => by simp [accH]
  | i + 1 => by
    rw [accH_succ, List.length_append]
    have h1 := accH_len LA hn i
    have h2 := hn (i + 2)
    have h3 : (hol (LA (i + 2))).length = (LA (i + 2)).length := by simp [hol]
    omega
set_option maxRecDepth 100000 in
set_option maxHeartbeats 8000000 in
theorem holders_any (bs : Array Value) (LA : Nat → List FactV) (w : World) (h : BaseR w bs LA) (hn : ∀ q, (LA q).length ≤ 1000000) :
    Calls Tryz.prog 25 #[.agg bs] w fun e w' => ∃ v, e = .returned v ∧ IntsR w' v (holdersF LA) ∧ Below w.heap.size w w' := by
  obtain ⟨v2, hv2, hf2⟩ := h.at_ 2 (by omega)
  obtain ⟨v3, hv3, hf3⟩ := h.at_ 3 (by omega)
  obtain ⟨W1, hW1⟩ : ∃ z, w.alloc (.cells bs 27) = z := ⟨_, rfl⟩
  have r1 : RowAt W1 w.heap.size 27 bs := by rw [← hW1]; exact RowAt.new w _ _
  have hbw : Below w.heap.size w W1 := by rw [← hW1]; exact (Below.refl _ _).alloc (Nat.le_refl _) _
  have c2 : W1.cell? ⟨w.heap.size, 2, none⟩ = some v2 := base_load _ _ _ _ _ r1 hv2
  have c3 : W1.cell? ⟨w.heap.size, 3, none⟩ = some v3 := base_load _ _ _ _ _ r1 hv3
  have HF2 := Lib.hid (hf2.more hbw)
  have HF3 := Lib.hid (hf3.more hbw)
  obtain ⟨A2, d2, rfl⟩ := hf2.sl
  obtain ⟨A3, d3, rfl⟩ := hf3.sl
  have HN := Lib.hid hn
  have HBW := Lib.hid hbw
  clear hv2 hv3 hf2 hf3 r1 h hn hbw
  go_enter Tryz.func25, Tryz.ntmps25
  obtain ⟨R, hR⟩ : ∃ z, W1.heap.size = z := ⟨_, rfl⟩
  have HR := Lib.hid hR
  have HX : Hid (OwnI (W1.alloc (.cells #[.slice A2 (LA 2).length d2, .slice A3 (LA 3).length d3] 23)) (R + 1) (.slice none 0 0) (accH LA 0) ∧ RowAt (W1.alloc (.cells #[.slice A2 (LA 2).length d2, .slice A3 (LA 3).length d3] 23)) R 23 #[.slice A2 (LA 2).length d2, .slice A3 (LA 3).length d3] ∧ Below W1.heap.size W1 (W1.alloc (.cells #[.slice A2 (LA 2).length d2, .slice A3 (LA 3).length d3] 23)) ∧ R + 1 ≤ (W1.alloc (.cells #[.slice A2 (LA 2).length d2, .slice A3 (LA 3).length d3] 23)).heap.size) := Lib.hid ⟨OwnI.nil _ _, by rw [← hR]; exact RowAt.new _ _ _, (Below.refl _ _).alloc (Nat.le_refl _) _, by simp [hR]⟩
  go_wp2_with fail
  clear hR hW1
  go_loopw [14, 3] (fun v14 v3 wr => ∃ i : Nat, v14 = .int .i64 i ∧ i ≤ 2 ∧ Hid (OwnI wr (R + 1) v3 (accH LA i) ∧ RowAt wr R 23 #[.slice A2 (LA 2).length d2, .slice A3 (LA 3).length d3] ∧ Below W1.heap.size W1 wr ∧ R + 1 ≤ wr.heap.size)) (fun v14 _ _ => 2 - (RowKit.intOf v14).toNat)
  case atStart => exact ⟨0, rfl, by omega, HX⟩
  case round =>
    obtain ⟨i, rfl, hi, HS⟩ := hrel
    by_cases hi2 : i < 2
    · have hid : decide ((i : Int) < 2) = true := by simp; omega
      obtain ⟨Aq, dq, hcell, hfq⟩ : ∃ Aq dq, wr.cell? ⟨R, i, none⟩ = some (.slice Aq (LA (i + 2)).length dq) ∧ FactsAt W1 (.slice Aq (LA (i + 2)).length dq) (LA (i + 2)) := by
        rcases (by omega : i = 0 ∨ i = 1) with rfl | rfl
        · exact ⟨A2, d2, by rw [HS.out.2.1.cell]; rfl, HF2.out⟩
        · exact ⟨A3, d3, by rw [HS.out.2.1.cell]; rfl, HF3.out⟩
      have HFQ := Lib.hid hfq
      have hnq := HN.out (i + 2)
      obtain ⟨L, hL⟩ : ∃ z, LA (i + 2) = z := ⟨_, rfl⟩
      have HL := Lib.hid hL
      rw [hL] at hcell HFQ hnq
      obtain ⟨m, hm⟩ : ∃ z, L.length = z := ⟨_, rfl⟩
      have HM := Lib.hid hm
      rw [hm] at hcell HFQ hnq
      have HAC := Lib.hid (accH_len LA HN.out i)
      have HI2 := Lib.hid hi2
      clear hfq hL hm
      go_wp2_with fail
      obtain ⟨wo, rfl⟩ : ∃ z, z = wr := ⟨_, rfl⟩
      go_loopw [20, 3] (fun v20 v3 wx => ∃ k : Nat, v20 = .int .i64 k ∧ k ≤ m ∧ Hid (OwnI wx (R + 1) v3 (accH LA i ++ hol (L.take k)) ∧ RowAt wx R 23 #[.slice A2 (LA 2).length d2, .slice A3 (LA 3).length d3] ∧ Below W1.heap.size W1 wx ∧ Below (R + 1) wo wx ∧ R + 1 ≤ wx.heap.size)) (fun v20 _ _ => m - (RowKit.intOf v20).toNat)
      case atStart => exact ⟨0, rfl, by omega, Lib.hid ⟨by simpa [hol] using HS.out.1, HS.out.2.1, HS.out.2.2.1, Below.refl _ _, HS.out.2.2.2⟩⟩
      case round =>
        obtain ⟨k, rfl, hk, HK⟩ := hrel
        by_cases hk2 : k < m
        · have hkd : decide (k < m) = true := by simpa using hk2
          obtain ⟨f, hf⟩ : ∃ x, L[k]? = some x := ⟨_, List.getElem?_eq_getElem (by have := HM.out; omega)⟩
          obtain ⟨b, o, rfl, hlt, hc⟩ := (HFQ.out.more HK.out.2.2.1).get hf
          have HF := Lib.hid hf
          have HCF : Hid ((Tryz.prog.info? 34).map (·.size) = some f.cells.size ∧ f.cells.all (·.oneCell') = true ∧ z18c.size = f.cells.size) := Lib.hid ⟨fact_size, f.cells_one, rfl⟩
          have HF9 : Hid (f.cells[9]? = some (.int .i64 (f.n 9))) := Lib.hid rfl
          obtain ⟨cf, hcf⟩ : ∃ z, f.cells = z := ⟨_, rfl⟩
          rw [hcf] at HCF HF9 hc
          obtain ⟨y, hy⟩ : ∃ z, f.n 9 = z := ⟨_, rfl⟩
          rw [hy] at HF9
          have HY := Lib.hid hy
          have HC := Lib.hid hc
          obtain ⟨N, hN⟩ : ∃ z, wr.heap.size = z := ⟨_, rfl⟩
          have HNN := Lib.hid hN
          obtain ⟨X1, hX1⟩ : ∃ z, wr.alloc (.cells cf 34) = z := ⟨_, rfl⟩
          have c9 : X1.cell? ⟨N, 9, none⟩ = some (.int .i64 y) := by
            have h : RowAt X1 N 34 cf := by rw [← hX1, ← hN]; exact RowAt.new _ _ _
            rw [h.cell]; exact HF9.out
          have HBX : Hid (Below wr.heap.size wr X1) := Lib.hid (by rw [← hX1]; exact (Below.refl _ _).alloc (Nat.le_refl _) _)
          have HOX := Lib.hid (OwnI.below HK.out.1 HBX.out)
          have HLN : Hid ((accH LA i ++ hol (L.take k)).length ≤ 10000000) := Lib.hid (by
            rw [List.length_append]
            have h1 := HAC.out
            have h2 : (hol (L.take k)).length ≤ k := by simp [hol]; omega
            have h3 := HI2.out
            omega)
          have HSX : Hid (R + 1 ≤ X1.heap.size) := Lib.hid (by have := HBX.out.size; have := HK.out.2.2.2.2; omega)
          have HB1 : Hid (Below X1.heap.size X1 (X1.alloc (.cells #[.int .i64 y] 3))) := Lib.hid ((Below.refl _ _).alloc (Nat.le_refl _) _)
          have HNC : Hid ((X1.alloc (.cells #[.int .i64 y] 3)).cell? ⟨X1.heap.size, 0, none⟩ = some (.int .i64 y)) := Lib.hid (by rw [(RowAt.new X1 3 #[.int .i64 y]).cell]; rfl)
          clear hf hcf hy hc hlt
          go_wp2_with (first | ((with_reducible refine load_at (o := ⟨some 23, _, _, _, _, _⟩) (.tmp 22) b (o + k * 18) cf HC.out HCF.out.1 ?_ ?_ ?_ ?_); rfl; rfl; rfl) | ((with_reducible refine store_cs (o := ⟨none, _, _, _, _, _⟩) (.tmp 7) (.tmp 23) N HNN.out _ cf HCF.out.1 HCF.out.2.1 HCF.out.2.2 ?_ ?_ ?_ ?_ ?_); rfl; rfl; rfl; rfl) | ((with_reducible refine append_int (o := ⟨some 28, _, _, _, _, _⟩) (.tmp 24) (.tmp 27) (R + 1) (accH LA i ++ hol (L.take k)) y X1.heap.size u3 (OwnI.below HOX.out HB1.out) HLN.out (Nat.le_trans HSX.out HB1.out.size) HNC.out ?_ ?_ ?_ ?_ ?_); rfl; rfl; rfl; rfl; intro v' W5 hown' hbl))
          go_roundw
          case rel =>
            have hb5 : Below (R + 1) wr W5 := (HBX.out.mono HK.out.2.2.2.2).trans ((HB1.out.mono HSX.out).trans hbl)
            refine ⟨k + 1, by go_num, by omega, Lib.hid ⟨?_, HK.out.2.1.below hb5 (by omega), HK.out.2.2.1.trans (hb5.mono (by have := HR.out; omega)), HK.out.2.2.2.1.trans hb5, by have := hb5.size; have := HK.out.2.2.2.2; omega⟩⟩
            rw [hol_take HF.out, HY.out, ← List.append_assoc]; exact hown'
          case measure => simp [RowKit.intOf]; omega
        · obtain rfl : k = m := by omega
          have hkd : decide (k < k) = false := by simp
          have htk : L.take k = L := List.take_of_length_le (by have := HM.out; omega)
          go_wp2_with fail
          go_roundw
          case rel =>
            refine ⟨i + 1, by go_num, by have := HI2.out; omega, Lib.hid ⟨?_, HK.out.2.1, HK.out.2.2.1, HK.out.2.2.2.2⟩⟩
            rw [accH_succ, HL.out, ← htk]; exact HK.out.1
          case measure => simp [RowKit.intOf]; omega
    · obtain rfl : i = 2 := by omega
      have HOW := Lib.hid (sortInts_any _ _ _ _ HS.out.1 (Nat.le_trans (accH_len LA HN.out 2) (by omega)))
      go_wp2_with fail
      refine HOW.out.mono ?_
      rintro e W5 ⟨rfl, ho5, hg5⟩
      have H5 : Hid (OwnI W5 (R + 1) u3 (sortI (accH LA 2)) ∧ Below (R + 1) wr W5) := Lib.hid ⟨ho5, (Below.refl _ _).grown hg5 HS.out.2.2.2 (fun k hk => (World.ownsRow.lt HS.out.1 k hk).1)⟩
      have HCM := Lib.hid (compact_any _ _ _ _ ho5 (by unfold sortI; rw [List.length_mergeSort]; exact Nat.le_trans (accH_len LA HN.out 2) (by omega)))
      clear ho5 hg5
      go_wp2_with fail
      refine HCM.out.mono ?_
      rintro e W6 ⟨v', rfl, hi6, hb6⟩
      have H6 := Lib.hid (And.intro hi6 hb6)
      clear hi6 hb6
      go_wp2_with fail
      go_ret
      refine ⟨v', rfl, ?_, ?_⟩
      · have h := H6.out.1
        have e1 : accH LA 2 = hol (LA 2) ++ hol (LA 3) := by simp [accH, List.range_succ]
        rw [e1] at h
        exact h
      · have h1 := HBW.out
        exact h1.trans ((HS.out.2.2.1.trans ((H5.out.2.trans H6.out.2).mono (by have := HR.out; omega))).mono h1.size)
end Go.Proofs.YtgjajhopjcdflaaGreat
