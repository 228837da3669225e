import Derived.Test.YtgjajhopjcdflaaGreatFkZ
namespace Go.Proofs.YtgjajhopjcdflaaGreat
open Go Go.RowKit Go.Lib Go.Shelf

def rateTest (c p : Int) (f : FactV) : Bool := f.n 15 == c && f.n 3 == p

set_option maxRecDepth 100000 in
set_option maxHeartbeats 1000000 in
theorem rate1_any (f : FactV) (c p : Int) (B1 B2 : Nat) (w : World) (h1 : w.cell? ⟨B1, 0, none⟩ = some (.int .i64 c)) (h2 : w.cell? ⟨B2, 0, none⟩ = some (.int .i64 p)) (b1 : B1 < w.heap.size) (b2 : B2 < w.heap.size) :
    Calls Tryz.prog 46 #[.agg f.cells, .pointer (some ⟨B1, 0, none⟩), .pointer (some ⟨B2, 0, none⟩)] w fun e w' => e = .returned (.bool (rateTest c p f)) ∧ Below w.heap.size w w' := by
  have f15 : f.cells[15]? = some (.int .i64 (f.n 15)) := rfl
  have f3 : f.cells[3]? = some (.int .i64 (f.n 3)) := rfl
  unfold rateTest
  obtain ⟨x, hx⟩ : ∃ x, f.n 15 = x := ⟨_, rfl⟩
  obtain ⟨y, hy⟩ : ∃ x, f.n 3 = x := ⟨_, rfl⟩
  rw [hx] at f15 ⊢
  rw [hy] at f3 ⊢
  clear hx hy
  go_enter Tryz.func46, Tryz.ntmps46
  go_wp2
  all_goals
    go_ret
    exact ⟨by simp_all, (Below.refl _ _).alloc (Nat.le_refl _) _⟩

def fidx (pd : FactV → Bool) (fs : List FactV) : Int := match fs.findIdx? pd with
  | some i => (i : Int)
  | none => -1

theorem fidx_some {pd : FactV → Bool} {fs : List FactV} {k : Nat} {f : FactV} (h : ∀ (i : Nat) f, i < k → fs[i]? = some f → pd f = false) (hk : fs[k]? = some f) (hp : pd f = true) : fidx pd fs = (k : Int) := by
  unfold fidx
  have : fs.findIdx? pd = some k := by
    rw [List.findIdx?_eq_some_iff_getElem]
    obtain ⟨h1, h2⟩ := List.getElem?_eq_some_iff.1 hk
    refine ⟨h1, by rw [h2]; exact hp, fun j hj => ?_⟩
    have := h j fs[j] hj (List.getElem?_eq_getElem (by omega))
    simpa using this
  rw [this]
theorem fidx_none {pd : FactV → Bool} {fs : List FactV} (h : ∀ (i : Nat) f, fs[i]? = some f → pd f = false) : fidx pd fs = -1 := by
  unfold fidx
  have : fs.findIdx? pd = none := by
    rw [List.findIdx?_eq_none_iff]
    intro x hx
    obtain ⟨i, hi, hx'⟩ := List.getElem_of_mem hx
    exact h i x (by rw [List.getElem?_eq_getElem hi, hx'])
  rw [this]

set_option maxRecDepth 100000 in
set_option maxHeartbeats 1000000 in
theorem indexFacts_any (g : FuncId) (c1 c2 : Value) (pd : FactV → Bool) (v : Value) (fs : List FactV) (w : World) (hn : fs.length ≤ 140737488351232) (I : World → Prop) (hI : ∀ W, Below w.heap.size w W → I W)
    (eg : ∀ args w, (callFunc g args).run Tryz.prog w = .ok (.enter g args) w)
    (hv : FactsAt w v fs)
    (hg : ∀ f W, I W → Calls Tryz.prog g #[.agg f.cells, c1, c2] W fun e w' => e = .returned (.bool (pd f)) ∧ Below W.heap.size W w') :
    Calls Tryz.prog 63 #[v, .func (.func g) #[] #[c1, c2]] w fun e w' => e = .returned (.int .i64 (fidx pd fs)) ∧ Below w.heap.size w w' := by
  have HG := Lib.hid hg; clear hg
  have HI := Lib.hid hI; clear hI
  rcases hv with ⟨rfl, A, c, rfl⟩ | ⟨b, o, c, rfl, hlt, hc⟩
  · go_enter Tryz.func63, Tryz.ntmps63
    go_wp2_with fail
    refine wp_loop_rounds 1 ?_
    rw [rounds_succ]
    go_wp2_with fail
    go_ret
    exact ⟨rfl, Below.refl _ _⟩
  · have HC := Lib.hid hc; clear hc
    obtain ⟨n, hnn⟩ : ∃ n, fs.length = n := ⟨_, rfl⟩
    rw [hnn] at hn ⊢
    have HN := Lib.hid hnn; clear hnn
    go_enter Tryz.func63, Tryz.ntmps63
    go_wp2_with fail
    go_loopw [8] (fun iv wr => ∃ k : Nat, k ≤ n ∧ iv = .int .i64 k ∧ Hid ((∀ i f, i < k → fs[i]? = some f → pd f = false) ∧ Below w.heap.size w wr)) (fun i _ => n - (RowKit.intOf i).toNat)
    case atStart => exact ⟨0, by omega, rfl, Lib.hid ⟨fun i f hi => by omega, Below.refl _ _⟩⟩
    case round =>
      obtain ⟨k, hk, rfl, HK⟩ := hrel
      by_cases hk2 : k < n
      · obtain ⟨f, hf⟩ : ∃ f, fs[k]? = some f := ⟨_, List.getElem?_eq_getElem (by rw [HN.out]; exact hk2)⟩
        have hld : ∀ j x, f.cells[j]? = some x → wr.cell? ⟨b, o + k * 18 + j, none⟩ = some x := fun j x hx => (HK.out.2.cell (p := ⟨b, o + k * 18 + j, none⟩) hlt).trans (HC.out k f hf j x hx)
        have HLD := Lib.hid hld; clear hld
        obtain ⟨t, ht⟩ : ∃ t, pd f = t := ⟨_, rfl⟩
        have HG1 := Lib.hid (show Calls Tryz.prog g #[.agg f.cells, c1, c2] wr fun e w' => e = .returned (.bool t) ∧ Below wr.heap.size wr w' by rw [← ht]; exact HG.out f _ (HI.out _ HK.out.2))
        have HF := Lib.hid hf; clear hf
        have HTT := Lib.hid ht; clear ht
        go_wp2_with (refine wpList_load_at rfl 34 (.tmp 14) rfl b (o + k * 18) rfl f.cells _ HLD.out Tryz.underlying34 rfl fact_size ?_)
        refine (HG1.out).mono ?_
        rintro e w2 ⟨rfl, hb⟩
        have HB := Lib.hid (HK.out.2.trans (hb.mono HK.out.2.size)); clear hb
        cases t
        · have HK2 : Hid (∀ i f, i < k + 1 → fs[i]? = some f → pd f = false) := Lib.hid (fun i f' hi hf' => by
            rcases Nat.lt_or_ge i k with h | h
            · exact HK.out.1 i f' h hf'
            · obtain rfl : i = k := by omega
              rw [HF.out] at hf'
              cases hf'
              exact HTT.out)
          go_wp2_with fail
          go_roundw
          case rel => exact ⟨k + 1, by omega, by go_num, Lib.hid ⟨HK2.out, HB.out⟩⟩
          case measure => simp [RowKit.intOf]; omega
        · have HR : Hid (fidx pd fs = (k : Int)) := Lib.hid (fidx_some HK.out.1 HF.out HTT.out)
          go_wp2_with fail
          go_ret
          exact ⟨by rw [HR.out]; rfl, HB.out⟩
      · obtain rfl : k = n := by omega
        have HR : Hid (fidx pd fs = -1) := Lib.hid (fidx_none (fun i f hf => HK.out.1 i f (by have := (List.getElem?_eq_some_iff.1 hf).1; rw [HN.out] at this; exact this) hf))
        have HB := Lib.hid HK.out.2
        clear HK
        go_wp2_with fail
        go_ret
        exact ⟨by rw [HR.out]; rfl, HB.out⟩
def firstSpec (pd : FactV → Bool) (fs : List FactV) : FactV × Bool := match fs.find? pd with
  | some f => (f, true)
  | none => (zf, false)
theorem first_fidx (pd : FactV → Bool) (fs : List FactV) : (∃ (k : Nat) (f : FactV), fidx pd fs = (k : Int) ∧ fs[k]? = some f ∧ firstSpec pd fs = (f, true)) ∨ (fidx pd fs = -1 ∧ firstSpec pd fs = (zf, false)) := by
  unfold fidx firstSpec
  cases h : fs.find? pd with
  | none =>
    right
    have : fs.findIdx? pd = none := by
      rw [List.findIdx?_eq_none_iff]
      intro x hx
      simpa using List.find?_eq_none.1 h x hx
    rw [this]
    exact ⟨rfl, rfl⟩
  | some f =>
    left
    obtain ⟨hp, k, hk, hf, hb⟩ := List.find?_eq_some_iff_getElem.1 h
    have : fs.findIdx? pd = some k := by
      rw [List.findIdx?_eq_some_iff_getElem]
      exact ⟨hk, by rw [hf]; exact hp, fun j hj => by simpa using hb j hj⟩
    rw [this]
    exact ⟨k, f, rfl, by rw [List.getElem?_eq_getElem hk, hf], rfl⟩

theorem below_setRow {B g : Nat} {a w : World} {cs : Array Value} (h : Below B a w) (hg : B ≤ g) : Below B a (w.setRow g cs) :=
  ⟨h.os, h.tape, h.output, by simpa [World.setRow] using h.size, fun k hk => by
    rw [← h.block k hk]
    have : ¬ g = k := by omega
    simp [World.setRow, Array.getElem?_modify, this]⟩
theorem setRow_same {w : World} {g : Nat} {cs old : Array Value} {t : TypeId} {fr : Nat × Nat} (h : w.heap[g]? = some (.cells old t fr)) : (w.setRow g cs).heap[g]? = some (.cells cs t fr) := by
  simp [World.setRow, Array.getElem?_modify, h]
theorem setRow_other {w : World} {g k : Nat} {cs : Array Value} (h : g ≠ k) : (w.setRow g cs).heap[k]? = w.heap[k]? := by
  simp [World.setRow, Array.getElem?_modify, h]

theorem results_cell_tmp {P : Program} {fn : Func} {p q : Tmp} {ty : TypeId} (h : fn.results = #[.cell p ty, .tmp q]) (tmps : Array Value) (w : World) (g : Nat) (t : TypeId) (cs : Array Value) (fr : Nat × Nat) (d : TypeDesc)
    (hp : tmps.getD p undef = .pointer (some ⟨g, 0, none⟩)) (hg : w.heap[g]? = some (.cells cs t fr))
    (hu : P.underlying ty = some d) (hd : (match d with | .struct _ | .array _ _ => true | _ => false) = true) (hi : (P.info? ty).map (·.size) = some cs.size) :
    (results fn tmps).run P w = .ok (.tuple #[.agg cs, tmps.getD q undef]) w := by
  have hp' : tmps[p]?.getD undef = .pointer (some ⟨g, 0, none⟩) := by simpa using hp
  simp [results, h, hp', asAddr, run_loadVar_row w g t ty cs fr d hg hu hd hi]

theorem zero_fact_cells : zf.cells = #[.int .i64 0, .int .i64 0, .int .i64 0, .int .i64 0, .int .i64 0, .int .i64 0, .int .i64 0, .int .i64 0, .int .i64 0, .int .i64 0, .int .i64 0, .int .i64 0, .int .i64 0, .int .i64 0, .int .i64 0, .int .i64 0, .int .i64 0, .string ⟨#[]⟩] := rfl

set_option maxRecDepth 100000 in
set_option maxHeartbeats 1000000 in
theorem first_any (g : FuncId) (c1 c2 : Value) (pd : FactV → Bool) (v : Value) (fs : List FactV) (w : World) (hn : fs.length ≤ 140737488351232) (I : World → Prop) (hI : ∀ W, Below w.heap.size w W → I W)
    (eg : ∀ args w, (callFunc g args).run Tryz.prog w = .ok (.enter g args) w)
    (hv : FactsAt w v fs)
    (hg : ∀ f W, I W → Calls Tryz.prog g #[.agg f.cells, c1, c2] W fun e w' => e = .returned (.bool (pd f)) ∧ Below W.heap.size W w') :
    Calls Tryz.prog 45 #[v, .func (.func g) #[] #[c1, c2]] w fun e w' => e = .returned (.tuple #[.agg (firstSpec pd fs).1.cells, .bool (firstSpec pd fs).2]) ∧ Below w.heap.size w w' := by
  have b0 : Below w.heap.size w (w.alloc (.cells zf.cells 34)) := (Below.refl _ _).alloc (Nat.le_refl _) _
  have IX := indexFacts_any g c1 c2 pd v fs (w.alloc (.cells zf.cells 34)) hn I (fun W hW => hI W (b0.trans (hW.mono (by simp)))) eg (hv.more b0) hg
  rw [zero_fact_cells] at IX
  have HIX := Lib.hid IX
  clear IX b0 hg hI eg
  rcases first_fidx pd fs with ⟨k, f, hk, hf, hs⟩ | ⟨hk, hs⟩
  · rw [hk] at HIX
    rw [hs]
    clear hk hs
    have hlen := (List.getElem?_eq_some_iff.1 hf).1
    rcases hv with ⟨rfl, _⟩ | ⟨b, o, c, rfl, hlt, hc⟩
    · simp at hlen
    · obtain ⟨n, hnn⟩ : ∃ n, fs.length = n := ⟨_, rfl⟩
      rw [hnn] at hn HIX hlen ⊢
      have HLD := Lib.hid (hc k f hf)
      clear hnn hc hf
      go_enter Tryz.func45, Tryz.ntmps45
      go_wp2_with fail
      refine (HIX.out).mono ?_
      rintro e w2 ⟨rfl, hb⟩
      have hz : w2.heap[w.heap.size]? = some (.cells zf.cells 34 (0, 0)) := (hb.block w.heap.size (by simp)).trans (heap_alloc_last w _)
      have HB := Lib.hid (((Below.refl w.heap.size w).alloc (Nat.le_refl _) _).trans (hb.mono (by simp)))
      have HZ := Lib.hid hz
      have hld : ∀ j x, f.cells[j]? = some x → w2.cell? ⟨b, o + k * 18 + j, none⟩ = some x := fun j x hx => (HB.out.cell (p := ⟨b, o + k * 18 + j, none⟩) hlt).trans (HLD.out j x hx)
      have HL2 := Lib.hid hld
      clear hb hz hld
      go_wp2_with (first | (refine wpList_load_at rfl 34 (.tmp 15) rfl b (o + k * 18) rfl f.cells _ HL2.out Tryz.underlying34 rfl fact_size ?_) | (refine wpList_store_row rfl 34 (.tmp 4) (.tmp 16) rfl w.heap.size f.cells rfl rfl 34 zf.cells HZ.out fact_size rfl f.cells_one ?_))
      exact bodyPost_ret (results_cell_tmp rfl _ _ w.heap.size _ f.cells _ _ rfl (setRow_same HZ.out) Tryz.underlying34 rfl fact_size) rfl ⟨rfl, below_setRow HB.out (Nat.le_refl _)⟩
  · rw [hk] at HIX
    rw [hs]
    clear hk hs hv
    go_enter Tryz.func45, Tryz.ntmps45
    go_wp2_with fail
    refine (HIX.out).mono ?_
    rintro e w2 ⟨rfl, hb⟩
    have hz : w2.heap[w.heap.size]? = some (.cells zf.cells 34 (0, 0)) := (hb.block w.heap.size (by simp)).trans (heap_alloc_last w _)
    have HB := Lib.hid (((Below.refl w.heap.size w).alloc (Nat.le_refl _) _).trans (hb.mono (by simp)))
    have hsz := HB.out.size
    have hlt := (Array.getElem?_eq_some_iff.1 hz).1
    have HZ := Lib.hid ((Below.heap_alloc w2 (.cells zf.cells 34) w.heap.size hlt).trans hz)
    clear hb hz
    go_wp2_with (first | (refine wpList_load_row rfl 34 (.tmp 7) rfl w2.heap.size rfl 34 zf.cells (0, 0) _ (heap_alloc_last w2 _) Tryz.underlying34 rfl fact_size ?_) | (refine wpList_store_row rfl 34 (.tmp 4) (.tmp 17) rfl w.heap.size zf.cells rfl rfl 34 zf.cells HZ.out fact_size rfl zf.cells_one ?_))
    exact bodyPost_ret (results_cell_tmp rfl _ _ w.heap.size _ zf.cells _ _ rfl (setRow_same HZ.out) Tryz.underlying34 rfl fact_size) rfl ⟨rfl, below_setRow (HB.out.alloc hsz _) (Nat.le_refl _)⟩
end Go.Proofs.YtgjajhopjcdflaaGreat
namespace Go.Proofs.YtgjajhopjcdflaaGreat
open Go Go.RowKit Go.Lib Go.Shelf

def rateSpec (fs : List FactV) (c p : Int) : Int × Bool := if c = 0 then (1000000, true) else ((firstSpec (rateTest c p) fs).1.n 13, (firstSpec (rateTest c p) fs).2)

set_option maxRecDepth 100000 in
set_option maxHeartbeats 1000000 in
theorem rate_any (bs : Array Value) (LA : Nat → List FactV) (c p : Int) (w : World) (hbase : BaseR w bs LA) (hnn : ∀ q, (LA q).length ≤ 1000000) :
    Calls Tryz.prog 19 #[.agg bs, .int .i64 c, .int .i64 p] w fun e w' => e = .returned (.tuple #[.int .i64 (rateSpec (LA 6) c p).1, .bool (rateSpec (LA 6) c p).2]) ∧ Below w.heap.size w w' := by
  obtain ⟨v, hvq, hv⟩ := hbase.at_ 6 (by omega)
  have hn : (LA 6).length ≤ 140737488351232 := by have := hnn 6; omega
  obtain ⟨fs, hfs⟩ : ∃ z, LA 6 = z := ⟨_, rfl⟩
  rw [hfs] at hv hn ⊢
  have HVQ := Lib.hid hvq
  obtain ⟨Av, cv, hAv⟩ := hv.sl
  clear hbase hnn hfs
  by_cases h0 : c = 0
  · subst h0
    have e : rateSpec fs 0 p = (1000000, true) := by unfold rateSpec; rw [if_pos rfl]
    rw [e]
    clear e hv hvq
    go_enter Tryz.func19, Tryz.ntmps19
    go_wp2
    go_ret2
    exact ⟨rfl, (((Below.refl _ _).alloc (Nat.le_refl _) _).alloc (by simp) _).alloc (by simp; omega) _⟩
  · have e : rateSpec fs c p = ((firstSpec (rateTest c p) fs).1.n 13, (firstSpec (rateTest c p) fs).2) := by unfold rateSpec; rw [if_neg h0]
    rw [e]
    have q0 : (c == 0) = false := by rw [beq_eq_false_iff_ne]; exact h0
    obtain ⟨W, hW⟩ : ∃ W, W = ((w.alloc (.cells bs 27)).alloc (.cells #[.int .i64 c] 3)).alloc (.cells #[.int .i64 p] 3) := ⟨_, rfl⟩
    have hBW : Below w.heap.size w W := by rw [hW]; exact (((Below.refl _ _).alloc (Nat.le_refl _) _).alloc (by simp) _).alloc (by simp; omega) _
    have hc1 : W.cell? ⟨w.heap.size + 1, 0, none⟩ = some (.int .i64 c) := by
      have r := RowAt.new (w.alloc (.cells bs 27)) 3 #[.int .i64 c]
      rw [World.size_alloc] at r
      rw [hW]; exact (r.alloc _).cell 0
    have hc2 : W.cell? ⟨w.heap.size + 1 + 1, 0, none⟩ = some (.int .i64 p) := by
      have r := RowAt.new ((w.alloc (.cells bs 27)).alloc (.cells #[.int .i64 c] 3)) 3 #[.int .i64 p]
      rw [World.size_alloc, World.size_alloc] at r
      rw [hW]; exact r.cell 0
    have hsz : W.heap.size = w.heap.size + 3 := by rw [hW]; simp
    have F := first_any 46 (.pointer (some ⟨w.heap.size + 1, 0, none⟩)) (.pointer (some ⟨w.heap.size + 1 + 1, 0, none⟩)) (rateTest c p) v fs W hn
      (fun W' => Below W.heap.size W W') (fun W' h => h) (enters_of Tryz.func46 (by kernel_rfl) rfl) (hv.more hBW)
      (fun f W' hb => rate1_any f c p _ _ W' ((hb.cell (p := ⟨w.heap.size + 1, 0, none⟩) (by show w.heap.size + 1 < _; omega)).trans hc1) ((hb.cell (p := ⟨w.heap.size + 1 + 1, 0, none⟩) (by show w.heap.size + 1 + 1 < _; omega)).trans hc2) (by have := hb.size; omega) (by have := hb.size; omega))
    obtain ⟨⟨f, t⟩, hf⟩ : ∃ o, firstSpec (rateTest c p) fs = o := ⟨_, rfl⟩
    rw [hf] at F ⊢
    have HBW := Lib.hid hBW
    rw [hW] at F HBW
    have HF := Lib.hid F
    have hB6 : bs[6]? = some v := HVQ.out
    subst hAv
    have f13 : f.cells[13]? = some (.int .i64 (f.n 13)) := rfl
    obtain ⟨x, hx⟩ : ∃ x, f.n 13 = x := ⟨_, rfl⟩
    rw [hx] at f13
    have HX := Lib.hid hx
    clear F hf hW hBW hc1 hc2 hsz hv h0 e hx hvq
    go_enter Tryz.func19, Tryz.ntmps19
    go_wp2_with fail
    refine (HF.out).mono ?_
    rintro e w2 ⟨rfl, hb⟩
    have HB2 := Lib.hid (HBW.out.trans (hb.mono HBW.out.size))
    have hsz2 := HB2.out.size
    clear hb
    go_wp2_with (refine wpList_store_new rfl 34 (.tmp 8) (.tmp 17) rfl rfl zf.cells f.cells rfl fact_size rfl f.cells_one ?_)
    go_ret2
    exact ⟨by rw [HX.out]; rfl, HB2.out.alloc hsz2 _⟩

end Go.Proofs.YtgjajhopjcdflaaGreat
