/- base.first and base.Rate. -/
import Derived.Test.YtdackmefkccipaaExA
namespace Go.Proofs.Ytdackmefkccipaa
open Go Go.RowKit Go.Lib Go.Shelf

def zeroF : FactV := ⟨fun _ => 0, ByteArray.empty⟩
def firstSpec (pd : FactV → Bool) (fs : List FactV) : FactV × Bool := match fs.find? pd with
  | some f => (f, true)
  | none => (zeroF, false)
theorem first_fidx (pd : FactV → Bool) (fs : List FactV) : (∃ (k : Nat) (f : FactV), fidx pd fs = (k : Int) ∧ fs[k]? = some f ∧ firstSpec pd fs = (f, true)) ∨ (fidx pd fs = -1 ∧ firstSpec pd fs = (zeroF, false)) := by
  unfold fidx firstSpec
  cases h : fs.find? pd with
  | none =>
    right
    have : fs.findIdx? pd = none := by
      rw [List.findIdx?_eq_none_iff]
      intro x hx
      simpa using List.find?_eq_none.1 h x hx
    rw [this]
    exact ⟨rfl, rfl⟩
  | some f =>
    left
    obtain ⟨hp, k, hk, hf, hb⟩ := List.find?_eq_some_iff_getElem.1 h
    have : fs.findIdx? pd = some k := by
      rw [List.findIdx?_eq_some_iff_getElem]
      exact ⟨hk, by rw [hf]; exact hp, fun j hj => by simpa using hb j hj⟩
    rw [this]
    exact ⟨k, f, rfl, by rw [List.getElem?_eq_getElem hk, hf], rfl⟩

theorem below_setRow {B g : Nat} {a w : World} {cs : Array Value} (h : Below B a w) (hg : B ≤ g) : Below B a (w.setRow g cs) :=
  ⟨h.os, h.tape, h.output, by simpa [World.setRow] using h.size, fun k hk => by
    rw [← h.block k hk]
    have : ¬ g = k := by omega
    simp [World.setRow, Array.getElem?_modify, this]⟩
theorem setRow_same {w : World} {g : Nat} {cs old : Array Value} {t : TypeId} {fr : Nat × Nat} (h : w.heap[g]? = some (.cells old t fr)) : (w.setRow g cs).heap[g]? = some (.cells cs t fr) := by
  simp [World.setRow, Array.getElem?_modify, h]
theorem setRow_other {w : World} {g k : Nat} {cs : Array Value} (h : g ≠ k) : (w.setRow g cs).heap[k]? = w.heap[k]? := by
  simp [World.setRow, Array.getElem?_modify, h]

theorem results_cell_tmp {P : Program} {fn : Func} {p q : Tmp} {ty : TypeId} (h : fn.results = #[.cell p ty, .tmp q]) (tmps : Array Value) (w : World) (g : Nat) (t : TypeId) (cs : Array Value) (fr : Nat × Nat) (d : TypeDesc)
    (hp : tmps.getD p undef = .pointer (some ⟨g, 0, none⟩)) (hg : w.heap[g]? = some (.cells cs t fr))
    (hu : P.underlying ty = some d) (hd : (match d with | .struct _ | .array _ _ => true | _ => false) = true) (hi : (P.info? ty).map (·.size) = some cs.size) :
    (results fn tmps).run P w = .ok (.tuple #[.agg cs, tmps.getD q undef]) w := by
  have hp' : tmps[p]?.getD undef = .pointer (some ⟨g, 0, none⟩) := by simpa using hp
  simp [results, h, hp', asAddr, run_loadVar_row w g t ty cs fr d hg hu hd hi]

theorem zero_fact_cells : zeroF.cells = #[.int .i64 0, .int .i64 0, .int .i64 0, .int .i64 0, .int .i64 0, .int .i64 0, .int .i64 0, .int .i64 0, .int .i64 0, .int .i64 0, .int .i64 0, .int .i64 0, .int .i64 0, .int .i64 0, .int .i64 0, .int .i64 0, .int .i64 0, .string ⟨#[]⟩] := rfl

set_option maxRecDepth 100000 in
set_option maxHeartbeats 1000000 in
theorem first_any (g : FuncId) (c1 c2 : Value) (pd : FactV → Bool) (v : Value) (fs : List FactV) (w : World) (hn : fs.length ≤ 140737488351232) (I : World → Prop) (hI : ∀ W, Below w.heap.size w W → I W)
    (eg : ∀ args w, (callFunc g args).run Try.prog w = .ok (.enter g args) w)
    (hv : FactsAt w v fs)
    (hg : ∀ f W, I W → Calls Try.prog g #[.agg f.cells, c1, c2] W fun e w' => e = .returned (.bool (pd f)) ∧ Below W.heap.size W w') :
    Calls Try.prog 26 #[v, .func (.func g) #[] #[c1, c2]] w fun e w' => e = .returned (.tuple #[.agg (firstSpec pd fs).1.cells, .bool (firstSpec pd fs).2]) ∧ Below w.heap.size w w' := by
  have b0 : Below w.heap.size w (w.alloc (.cells zeroF.cells 41)) := (Below.refl _ _).alloc (Nat.le_refl _) _
  have IX := indexFacts_any g c1 c2 pd v fs (w.alloc (.cells zeroF.cells 41)) hn I (fun W hW => hI W (b0.trans (hW.mono (by simp)))) eg (hv.below b0) hg
  rw [zero_fact_cells] at IX
  have HIX := Lib.hid IX
  clear IX b0 hg hI eg
  rcases first_fidx pd fs with ⟨k, f, hk, hf, hs⟩ | ⟨hk, hs⟩
  · rw [hk] at HIX
    rw [hs]
    clear hk hs
    have hlen := (List.getElem?_eq_some_iff.1 hf).1
    rcases hv with ⟨rfl, _⟩ | ⟨b, o, c, rfl, hlt, hc⟩
    · simp at hlen
    · obtain ⟨n, hnn⟩ : ∃ n, fs.length = n := ⟨_, rfl⟩
      rw [hnn] at hn HIX hlen ⊢
      have HLD := Lib.hid (hc k f hf)
      clear hnn hc hf
      go_enter Try.func26, Try.ntmps26
      go_wp2_with fail
      refine (HIX.out).mono ?_
      rintro e w2 ⟨rfl, hb⟩
      have hz : w2.heap[w.heap.size]? = some (.cells zeroF.cells 41 (0, 0)) := (hb.block w.heap.size (by simp)).trans (heap_alloc_last w _)
      have HB := Lib.hid (((Below.refl w.heap.size w).alloc (Nat.le_refl _) _).trans (hb.mono (by simp)))
      have HZ := Lib.hid hz
      have hld : ∀ j x, f.cells[j]? = some x → w2.cell? ⟨b, o + k * 18 + j, none⟩ = some x := fun j x hx => (HB.out.cell (p := ⟨b, o + k * 18 + j, none⟩) hlt).trans (HLD.out j x hx)
      have HL2 := Lib.hid hld
      clear hb hz hld
      go_wp2_with (first | (refine wpList_load_at rfl 41 (.tmp 15) rfl b (o + k * 18) rfl f.cells _ HL2.out Try.underlying41 rfl fact_size ?_) | (refine wpList_store_row rfl 41 (.tmp 4) (.tmp 16) rfl w.heap.size f.cells rfl rfl 41 zeroF.cells HZ.out fact_size rfl f.cells_one ?_))
      exact bodyPost_ret (results_cell_tmp rfl _ _ w.heap.size _ f.cells _ _ rfl (setRow_same HZ.out) Try.underlying41 rfl fact_size) rfl ⟨rfl, below_setRow HB.out (Nat.le_refl _)⟩
  · rw [hk] at HIX
    rw [hs]
    clear hk hs hv
    go_enter Try.func26, Try.ntmps26
    go_wp2_with fail
    refine (HIX.out).mono ?_
    rintro e w2 ⟨rfl, hb⟩
    have hz : w2.heap[w.heap.size]? = some (.cells zeroF.cells 41 (0, 0)) := (hb.block w.heap.size (by simp)).trans (heap_alloc_last w _)
    have HB := Lib.hid (((Below.refl w.heap.size w).alloc (Nat.le_refl _) _).trans (hb.mono (by simp)))
    have hsz := HB.out.size
    have hlt := (Array.getElem?_eq_some_iff.1 hz).1
    have HZ := Lib.hid ((Below.heap_alloc w2 (.cells zeroF.cells 41) w.heap.size hlt).trans hz)
    clear hb hz
    go_wp2_with (first | (refine wpList_load_row rfl 41 (.tmp 7) rfl w2.heap.size rfl 41 zeroF.cells (0, 0) _ (heap_alloc_last w2 _) Try.underlying41 rfl fact_size ?_) | (refine wpList_store_row rfl 41 (.tmp 4) (.tmp 17) rfl w.heap.size zeroF.cells rfl rfl 41 zeroF.cells HZ.out fact_size rfl zeroF.cells_one ?_))
    exact bodyPost_ret (results_cell_tmp rfl _ _ w.heap.size _ zeroF.cells _ _ rfl (setRow_same HZ.out) Try.underlying41 rfl fact_size) rfl ⟨rfl, below_setRow (HB.out.alloc hsz _) (Nat.le_refl _)⟩
end Go.Proofs.Ytdackmefkccipaa
