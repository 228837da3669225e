/- The reference's Of of made facts: three lists of made facts, each of its kind. -/
import Derived.Test.YtdackmefkccipaaMkI
namespace Go.Proofs.Ytdackmefkccipaa
open Go Go.RowKit Go.Lib Go.Shelf

/-- a base of revenues, subscriptions and rates -/
def bv (a b c : Value) : BaseV := ⟨fun j => match j with | 4 => a | 5 => b | 6 => c | _ => .slice none 0 0⟩
theorem OwnF.one {w : World} {n : Nat} {v : Value} {L : List FactV} (h : OwnF w n v L) : v.oneCell' = true := by
  rcases h.2 with ⟨rfl, _⟩ | ⟨g, cap, cur, rfl, _⟩ <;> rfl
theorem OwnF.slice {w : World} {n : Nat} {v : Value} {L : List FactV} (h : OwnF w n v L) : ∃ A m c, v = .slice A m c := by
  rcases h.2 with ⟨rfl, _⟩ | ⟨g, cap, cur, rfl, _⟩ <;> exact ⟨_, _, _, rfl⟩
theorem bv_ones {a b c : Value} (ha : a.oneCell' = true) (hb : b.oneCell' = true) (hc : c.oneCell' = true) : (bv a b c).cells.all (·.oneCell') = true := by
  simp only [BaseV.cells, bv, List.all_toArray, List.all_cons, List.all_nil, ha, hb, hc]
  rfl
/-- facts of one kind out of a list -/
def KindOf (k : Int) (l R : List FactV) : Prop := ∀ g ∈ R, g ∈ l ∧ g.n 0 = k
/-- what a base that Of has made holds -/
structure OfAt (w : World) (n : Nat) (l : List FactV) (m : Nat) (a b c : Value) : Prop where
  ex : ∃ R5 R6 R7 : List FactV, OwnF w n a R5 ∧ OwnF w n b R6 ∧ OwnF w n c R7 ∧ KindOf 5 l R5 ∧ KindOf 6 l R6 ∧ KindOf 7 l R7 ∧ R5.length + R6.length + R7.length ≤ m
theorem OfAt.nil (w : World) (n : Nat) (l : List FactV) (m : Nat) : OfAt w n l m (.slice none 0 0) (.slice none 0 0) (.slice none 0 0) :=
  ⟨[], [], [], OwnF.nil _ _, OwnF.nil _ _, OwnF.nil _ _, (fun _ h => by cases h), (fun _ h => by cases h), (fun _ h => by cases h), by simp⟩
theorem OfAt.below {w w' : World} {n m : Nat} {l : List FactV} {a b c : Value} (h : OfAt w n l m a b c) (hb : Below w.heap.size w w') : OfAt w' n l m a b c := by
  obtain ⟨R5, R6, R7, h5, h6, h7, r⟩ := h.ex
  exact ⟨R5, R6, R7, h5.below hb, h6.below hb, h7.below hb, r⟩
theorem OfAt.mono {w : World} {n n' m m' : Nat} {l : List FactV} {a b c : Value} (h : OfAt w n l m a b c) (hn : n' ≤ n) (hm : m ≤ m') : OfAt w n' l m' a b c := by
  obtain ⟨R5, R6, R7, h5, h6, h7, k5, k6, k7, r⟩ := h.ex
  exact ⟨R5, R6, R7, h5.mono hn, h6.mono hn, h7.mono hn, k5, k6, k7, by omega⟩
theorem OfAt.other {w w' : World} {n m k : Nat} {l : List FactV} {a b c : Value} (h : OfAt w n l m a b c) (hk : k < n) (ho : ∀ j, j ≠ k → w'.heap[j]? = w.heap[j]?) : OfAt w' n l m a b c := by
  obtain ⟨R5, R6, R7, h5, h6, h7, r⟩ := h.ex
  exact ⟨R5, R6, R7, h5.other hk ho, h6.other hk ho, h7.other hk ho, r⟩
theorem OfAt.ones {w : World} {n m : Nat} {l : List FactV} {a b c : Value} (h : OfAt w n l m a b c) : a.oneCell' = true ∧ b.oneCell' = true ∧ c.oneCell' = true := by
  obtain ⟨R5, R6, R7, h5, h6, h7, r⟩ := h.ex
  exact ⟨h5.one, h6.one, h7.one⟩
theorem results_cell1 {P : Program} {fn : Func} {p : Tmp} {ty : TypeId} (h : fn.results = #[.cell p ty]) (tmps : Array Value) (w : World) (g : Nat) (t : TypeId) (cs : Array Value) (fr : Nat × Nat) (d : TypeDesc)
    (hp : tmps.getD p undef = .pointer (some ⟨g, 0, none⟩)) (hg : w.heap[g]? = some (.cells cs t fr))
    (hu : P.underlying ty = some d) (hd : (match d with | .struct _ | .array _ _ => true | _ => false) = true) (hi : (P.info? ty).map (·.size) = some cs.size) :
    (results fn tmps).run P w = .ok (.agg cs) w := by
  have hp' : tmps[p]?.getD undef = .pointer (some ⟨g, 0, none⟩) := by simpa using hp
  simp [results, h, hp', asAddr, run_loadVar_row w g t ty cs fr d hg hu hd hi]
theorem kind_app {k : Int} {l R L : List FactV} {f : FactV} (hR : KindOf k l R) (hf : f ∈ l) (hk : f.n 0 = k) (hL : ∀ g ∈ L, g ∈ R ∨ g = f) : KindOf k l L := by
  intro g hg
  rcases hL g hg with h | rfl
  · exact hR g h
  · exact ⟨hf, hk⟩

set_option maxRecDepth 100000 in
set_option maxHeartbeats 4000000 in
theorem of_some (l : List FactV) (v : Value) (w : World) (hn : l.length ≤ 40) (hv : FactsAt w v l) (hl : ∀ g ∈ l, Made g) :
    Calls Try.prog 17 #[v] w fun e w' => ∃ a b c, e = .returned (.agg (bv a b c).cells) ∧ OfAt w' w.heap.size l l.length a b c ∧ Below w.heap.size w w' := by
  have HV := Lib.hid hv
  have HL := Lib.hid hl
  obtain ⟨m, hm⟩ : ∃ m, l.length = m := ⟨_, rfl⟩
  rw [hm] at hn ⊢
  have HM := Lib.hid hm
  obtain ⟨A, cc, rfl⟩ : ∃ A c, v = .slice A m c := by
    rcases hv with ⟨rfl, A, c, rfl⟩ | ⟨b, o, c, rfl, _⟩
    · exact ⟨A, c, by rw [← hm]; rfl⟩
    · exact ⟨_, c, by rw [← hm]⟩
  clear hm hv hl
  go_enter Try.func17, Try.ntmps17
  go_wp2_with fail
  refine (fun (H : ∀ W : World, (RowAt W w.heap.size 26 (bv (.slice none 0 0) (.slice none 0 0) (.slice none 0 0)).cells ∧ RowAt W (w.heap.size + 1) 26 (bv (.slice none 0 0) (.slice none 0 0) (.slice none 0 0)).cells ∧ Below w.heap.size w W ∧ W.heap.size = w.heap.size + 2) → Code.wp _ _ _ _ W) =>
    H (allocs w [.cells (bv (.slice none 0 0) (.slice none 0 0) (.slice none 0 0)).cells 26, .cells (bv (.slice none 0 0) (.slice none 0 0) (.slice none 0 0)).cells 26]) ⟨allocs_get _ w 0 _ rfl, allocs_get _ w 1 _ rfl, allocs_below _ w, allocs_size _ w⟩) ?_
  rintro W0 ⟨k0, k1, kb, ks⟩
  have HK0 := Lib.hid k0
  have HK1 := Lib.hid k1
  have HB0 := Lib.hid kb
  have HS0 := Lib.hid ks
  clear k0 k1 kb ks
  go_loopw [4] (fun iv wr => ∃ (k : Nat), k ≤ m ∧ iv = .int .i64 k ∧ Hid (∃ a b c, RowAt wr w.heap.size 26 (bv (.slice none 0 0) (.slice none 0 0) (.slice none 0 0)).cells ∧ RowAt wr (w.heap.size + 1) 26 (bv a b c).cells ∧ OfAt wr (w.heap.size + 2) l k a b c ∧ Below w.heap.size w wr)) (fun i _ => m - (intOf i).toNat)
  case atStart => exact ⟨0, by omega, rfl, Lib.hid ⟨_, _, _, HK0.out, HK1.out, OfAt.nil _ _ _ _, HB0.out⟩⟩
  case round =>
    obtain ⟨k, hk, rfl, HR⟩ := hrel
    obtain ⟨a, b, c, r0, r1, hof, hbw⟩ := HR.out
    clear HR
    have HR0 := Lib.hid r0
    have HR1 := Lib.hid r1
    have HOF := Lib.hid hof
    have HBW := Lib.hid hbw
    have hs1 : w.heap.size + 1 < wr.heap.size := r1.lt
    clear r0 r1 hof hbw HK0 HK1 HB0 HS0
    by_cases hk2 : k < m
    · obtain ⟨f, hf⟩ : ∃ f, l[k]? = some f := ⟨_, List.getElem?_eq_getElem (by rw [HM.out]; exact hk2)⟩
      have hfm : f ∈ l := List.mem_of_getElem? hf
      obtain ⟨bb, o, hA, hbl, hld⟩ : ∃ b o, A = some ⟨b, o, none⟩ ∧ b < w.heap.size ∧ ∀ j x, f.cells[j]? = some x → w.cell? ⟨b, o + k * 18 + j, none⟩ = some x := by
        rcases HV.out with ⟨rfl, _⟩ | ⟨b, o, c, he, hb, hc⟩
        · simp at hf
        · simp only [Value.slice.injEq] at he
          exact ⟨b, o, he.1, hb, fun j x hx => hc k f hf j x hx⟩
      subst hA
      have HLW : Hid (∀ j x, f.cells[j]? = some x → wr.cell? ⟨bb, o + k * 18 + j, none⟩ = some x) := Lib.hid fun j x hx => (HBW.out.cell (p := ⟨bb, o + k * 18 + j, none⟩) hbl).trans (hld j x hx)
      have hmade := HL.out f hfm
      have HMD := Lib.hid hmade
      have HFM := Lib.hid hfm
      have HVA := Lib.hid hmade.valid
      have hkind := hmade.kinds
      have g0 : f.cells[0]? = some (.int .i64 (f.n 0)) := rfl
      obtain ⟨x0, hx0⟩ : ∃ x, f.n 0 = x := ⟨_, rfl⟩
      rw [hx0] at g0 hkind
      have HX0 := Lib.hid hx0
      clear hf hfm hld hmade hx0 hbl
      go_wp2_with (first | ((with_reducible refine load_fact (o := ⟨some 17, _, _, _, _, _⟩) (.tmp 16) bb (o + k * 18) f HLW.out ?_ ?_ ?_ ?_); rfl; rfl; rfl) | ((with_reducible refine store_fact (o := ⟨none, .store _ _ _, _, _, _, _⟩) (.tmp 5) (.tmp 17) f _ ?_ ?_ ?_ ?_ ?_ ?_); rfl; rfl; rfl; rfl; rfl) | ((with_reducible refine load_fact (o := ⟨some 18, _, _, _, _, _⟩) (.tmp 5) wr.heap.size 0 f (row_cells (heap_alloc_last wr _)) ?_ ?_ ?_ ?_); rfl; rfl; rfl))
      refine (HVA.out _).mono ?_
      rintro e w2 ⟨rfl, hb⟩
      have hfr : RowAt w2 wr.heap.size 41 f.cells := (hb.block wr.heap.size (by simp)).trans (heap_alloc_last wr _)
      have hbb : Below wr.heap.size wr w2 := ((Below.refl wr.heap.size wr).alloc (Nat.le_refl _) _).trans (hb.mono (by simp))
      have cf0 : w2.cell? ⟨wr.heap.size, 0, none⟩ = some (.int .i64 x0) := (hfr.cell 0).trans g0
      have hr0 : RowAt w2 w.heap.size 26 _ := HR0.out.below hbb (by omega)
      have hr1 : RowAt w2 (w.heap.size + 1) 26 _ := HR1.out.below hbb hs1
      have hof2 := HOF.out.below hbb
      have hbw2 : Below w.heap.size w w2 := HBW.out.trans (hbb.mono HBW.out.size)
      have HFR : Hid (w2.heap[wr.heap.size]? = some (.cells f.cells 41 (0, 0))) := Lib.hid hfr
      have hs2 : w.heap.size + 1 < w2.heap.size := hr1.lt
      clear hb hbb g0 HLW HR0 HR1 HOF HBW HVA hfr
      obtain ⟨R5, R6, R7, o5, o6, o7, q5, q6, q7, hlen⟩ := hof2.ex
      rcases hkind with rfl | rfl | rfl
      · have HIN := Lib.hid (insert_some f R5 a w2 (by omega) o5.facts HMD.out (fun g hg => HL.out g (q5 g hg).1))
        have HO := Lib.hid (⟨o5, o6, o7⟩ : OwnF w2 (w.heap.size + 2) a R5 ∧ OwnF w2 (w.heap.size + 2) b R6 ∧ OwnF w2 (w.heap.size + 2) c R7)
        have HQ := Lib.hid (⟨q5, q6, q7⟩ : KindOf 5 l R5 ∧ KindOf 6 l R6 ∧ KindOf 7 l R7)
        have HR0 := Lib.hid hr0
        have HR1 := Lib.hid hr1
        have HBW := Lib.hid hbw2
        have cb : w2.cell? ⟨w.heap.size + 1, 4, none⟩ = some a := hr1.cell 4
        clear hr0 hr1 hbw2 o5 o6 o7 q5 q6 q7 hof2
        go_wp2_with (first | ((with_reducible refine load_fact (o := ⟨some 56, _, _, _, _, _⟩) (.tmp 5) wr.heap.size 0 f (row_cells HFR.out) ?_ ?_ ?_ ?_); rfl; rfl; rfl))
        refine (HIN.out).mono ?_
        rintro e w3 ⟨v3, L, rfl, hown, hb3, hln, hmem⟩
        obtain ⟨A3, n3, c3, rfl⟩ := hown.slice
        have hr0' : RowAt w3 w.heap.size 26 _ := HR0.out.below hb3 (by omega)
        have hr1' : RowAt w3 (w.heap.size + 1) 26 _ := HR1.out.below hb3 hs2
        have cb3 : w3.cell? ⟨w.heap.size + 1, 4, none⟩ = some a := hr1'.cell 4
        have fb3 : w3.frozen? ⟨w.heap.size + 1, 4, none⟩ = false := hr1'.free 4
        have hB3 := HBW.out.trans (hb3.mono HBW.out.size)
        have hso : ∀ j, j ≠ w.heap.size + 1 → (w3.setCell ⟨w.heap.size + 1, 4, none⟩ (.slice A3 n3 c3)).heap[j]? = w3.heap[j]? := fun j hj => Below.heap_setCell _ _ _ _ hj
        have HREL : Hid (∃ a b c, RowAt (w3.setCell ⟨w.heap.size + 1, 4, none⟩ (.slice A3 n3 c3)) w.heap.size 26 (bv (.slice none 0 0) (.slice none 0 0) (.slice none 0 0)).cells ∧ RowAt (w3.setCell ⟨w.heap.size + 1, 4, none⟩ (.slice A3 n3 c3)) (w.heap.size + 1) 26 (bv a b c).cells ∧ OfAt (w3.setCell ⟨w.heap.size + 1, 4, none⟩ (.slice A3 n3 c3)) (w.heap.size + 2) l (k + 1) a b c ∧ Below w.heap.size w (w3.setCell ⟨w.heap.size + 1, 4, none⟩ (.slice A3 n3 c3))) :=
          Lib.hid ⟨.slice A3 n3 c3, b, c, hr0'.far (by simp) _, hr1'.set 4 (.slice A3 n3 c3), ⟨L, R6, R7, (hown.mono (b := w.heap.size + 2) (by omega)).other (by omega) hso, (HO.out.2.1.below hb3).other (by omega) hso, (HO.out.2.2.below hb3).other (by omega) hso, kind_app HQ.out.1 HFM.out HX0.out hmem, HQ.out.2.1, HQ.out.2.2, by omega⟩, hB3.setCell (by simp) _⟩
        clear hr0' hr1' hB3 hso hown hb3 hmem HIN HO HQ HR0 HR1 HBW
        go_wp2_with fail
        go_roundw
        case rel => exact ⟨k + 1, by omega, by go_num, HREL.out⟩
        case measure => simp [intOf]; omega
      · have HIN := Lib.hid (insert_some f R6 b w2 (by omega) o6.facts HMD.out (fun g hg => HL.out g (q6 g hg).1))
        have HO := Lib.hid (⟨o5, o6, o7⟩ : OwnF w2 (w.heap.size + 2) a R5 ∧ OwnF w2 (w.heap.size + 2) b R6 ∧ OwnF w2 (w.heap.size + 2) c R7)
        have HQ := Lib.hid (⟨q5, q6, q7⟩ : KindOf 5 l R5 ∧ KindOf 6 l R6 ∧ KindOf 7 l R7)
        have HR0 := Lib.hid hr0
        have HR1 := Lib.hid hr1
        have HBW := Lib.hid hbw2
        have cb : w2.cell? ⟨w.heap.size + 1, 5, none⟩ = some b := hr1.cell 5
        clear hr0 hr1 hbw2 o5 o6 o7 q5 q6 q7 hof2
        go_wp2_with (first | ((with_reducible refine load_fact (o := ⟨some 63, _, _, _, _, _⟩) (.tmp 5) wr.heap.size 0 f (row_cells HFR.out) ?_ ?_ ?_ ?_); rfl; rfl; rfl))
        refine (HIN.out).mono ?_
        rintro e w3 ⟨v3, L, rfl, hown, hb3, hln, hmem⟩
        obtain ⟨A3, n3, c3, rfl⟩ := hown.slice
        have hr0' : RowAt w3 w.heap.size 26 _ := HR0.out.below hb3 (by omega)
        have hr1' : RowAt w3 (w.heap.size + 1) 26 _ := HR1.out.below hb3 hs2
        have cb3 : w3.cell? ⟨w.heap.size + 1, 5, none⟩ = some b := hr1'.cell 5
        have fb3 : w3.frozen? ⟨w.heap.size + 1, 5, none⟩ = false := hr1'.free 5
        have hB3 := HBW.out.trans (hb3.mono HBW.out.size)
        have hso : ∀ j, j ≠ w.heap.size + 1 → (w3.setCell ⟨w.heap.size + 1, 5, none⟩ (.slice A3 n3 c3)).heap[j]? = w3.heap[j]? := fun j hj => Below.heap_setCell _ _ _ _ hj
        have HREL : Hid (∃ a b c, RowAt (w3.setCell ⟨w.heap.size + 1, 5, none⟩ (.slice A3 n3 c3)) w.heap.size 26 (bv (.slice none 0 0) (.slice none 0 0) (.slice none 0 0)).cells ∧ RowAt (w3.setCell ⟨w.heap.size + 1, 5, none⟩ (.slice A3 n3 c3)) (w.heap.size + 1) 26 (bv a b c).cells ∧ OfAt (w3.setCell ⟨w.heap.size + 1, 5, none⟩ (.slice A3 n3 c3)) (w.heap.size + 2) l (k + 1) a b c ∧ Below w.heap.size w (w3.setCell ⟨w.heap.size + 1, 5, none⟩ (.slice A3 n3 c3))) :=
          Lib.hid ⟨a, .slice A3 n3 c3, c, hr0'.far (by simp) _, hr1'.set 5 (.slice A3 n3 c3), ⟨R5, L, R7, (HO.out.1.below hb3).other (by omega) hso, (hown.mono (b := w.heap.size + 2) (by omega)).other (by omega) hso, (HO.out.2.2.below hb3).other (by omega) hso, HQ.out.1, kind_app HQ.out.2.1 HFM.out HX0.out hmem, HQ.out.2.2, by omega⟩, hB3.setCell (by simp) _⟩
        clear hr0' hr1' hB3 hso hown hb3 hmem HIN HO HQ HR0 HR1 HBW
        go_wp2_with fail
        go_roundw
        case rel => exact ⟨k + 1, by omega, by go_num, HREL.out⟩
        case measure => simp [intOf]; omega
      · have HIN := Lib.hid (insert_some f R7 c w2 (by omega) o7.facts HMD.out (fun g hg => HL.out g (q7 g hg).1))
        have HO := Lib.hid (⟨o5, o6, o7⟩ : OwnF w2 (w.heap.size + 2) a R5 ∧ OwnF w2 (w.heap.size + 2) b R6 ∧ OwnF w2 (w.heap.size + 2) c R7)
        have HQ := Lib.hid (⟨q5, q6, q7⟩ : KindOf 5 l R5 ∧ KindOf 6 l R6 ∧ KindOf 7 l R7)
        have HR0 := Lib.hid hr0
        have HR1 := Lib.hid hr1
        have HBW := Lib.hid hbw2
        have cb : w2.cell? ⟨w.heap.size + 1, 6, none⟩ = some c := hr1.cell 6
        clear hr0 hr1 hbw2 o5 o6 o7 q5 q6 q7 hof2
        go_wp2_with (first | ((with_reducible refine load_fact (o := ⟨some 70, _, _, _, _, _⟩) (.tmp 5) wr.heap.size 0 f (row_cells HFR.out) ?_ ?_ ?_ ?_); rfl; rfl; rfl))
        refine (HIN.out).mono ?_
        rintro e w3 ⟨v3, L, rfl, hown, hb3, hln, hmem⟩
        obtain ⟨A3, n3, c3, rfl⟩ := hown.slice
        have hr0' : RowAt w3 w.heap.size 26 _ := HR0.out.below hb3 (by omega)
        have hr1' : RowAt w3 (w.heap.size + 1) 26 _ := HR1.out.below hb3 hs2
        have cb3 : w3.cell? ⟨w.heap.size + 1, 6, none⟩ = some c := hr1'.cell 6
        have fb3 : w3.frozen? ⟨w.heap.size + 1, 6, none⟩ = false := hr1'.free 6
        have hB3 := HBW.out.trans (hb3.mono HBW.out.size)
        have hso : ∀ j, j ≠ w.heap.size + 1 → (w3.setCell ⟨w.heap.size + 1, 6, none⟩ (.slice A3 n3 c3)).heap[j]? = w3.heap[j]? := fun j hj => Below.heap_setCell _ _ _ _ hj
        have HREL : Hid (∃ a b c, RowAt (w3.setCell ⟨w.heap.size + 1, 6, none⟩ (.slice A3 n3 c3)) w.heap.size 26 (bv (.slice none 0 0) (.slice none 0 0) (.slice none 0 0)).cells ∧ RowAt (w3.setCell ⟨w.heap.size + 1, 6, none⟩ (.slice A3 n3 c3)) (w.heap.size + 1) 26 (bv a b c).cells ∧ OfAt (w3.setCell ⟨w.heap.size + 1, 6, none⟩ (.slice A3 n3 c3)) (w.heap.size + 2) l (k + 1) a b c ∧ Below w.heap.size w (w3.setCell ⟨w.heap.size + 1, 6, none⟩ (.slice A3 n3 c3))) :=
          Lib.hid ⟨a, b, .slice A3 n3 c3, hr0'.far (by simp) _, hr1'.set 6 (.slice A3 n3 c3), ⟨R5, R6, L, (HO.out.1.below hb3).other (by omega) hso, (HO.out.2.1.below hb3).other (by omega) hso, (hown.mono (b := w.heap.size + 2) (by omega)).other (by omega) hso, HQ.out.1, HQ.out.2.1, kind_app HQ.out.2.2 HFM.out HX0.out hmem, by omega⟩, hB3.setCell (by simp) _⟩
        clear hr0' hr1' hB3 hso hown hb3 hmem HIN HO HQ HR0 HR1 HBW
        go_wp2_with fail
        go_roundw
        case rel => exact ⟨k + 1, by omega, by go_num, HREL.out⟩
        case measure => simp [intOf]; omega
    · obtain rfl : k = m := by omega
      have HRR : Hid (wr.heap[w.heap.size + 1]? = some (.cells (bv a b c).cells 26 (0, 0))) := Lib.hid HR1.out
      go_wp2_with (first | ((with_reducible refine load_base (o := ⟨some 94, _, _, _, _, _⟩) (.tmp 3) (w.heap.size + 1) (bv a b c) HRR.out ?_ ?_ ?_ ?_); rfl; rfl; rfl) | (refine wpList_store_row rfl 26 (.tmp 2) (.tmp 94) rfl w.heap.size (bv a b c).cells rfl rfl 26 _ HR0.out base_size rfl (bv_ones HOF.out.ones.1 HOF.out.ones.2.1 HOF.out.ones.2.2) ?_))
      refine bodyPost_ret (results_cell1 rfl _ _ w.heap.size _ (bv a b c).cells _ _ rfl (setRow_same HR0.out) Try.underlying26 rfl base_size) rfl ⟨a, b, c, rfl, ?_, below_setRow HBW.out (Nat.le_refl _)⟩
      exact (HOF.out.mono (n' := w.heap.size + 1) (by omega) (Nat.le_refl _)).other (k := w.heap.size) (by omega) (fun j hj => setRow_other (by omega)) |>.mono (by omega) (Nat.le_refl _)
end Go.Proofs.Ytdackmefkccipaa
