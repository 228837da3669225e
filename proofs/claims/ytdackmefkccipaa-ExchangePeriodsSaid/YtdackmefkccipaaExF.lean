/- A range over the facts of a territory and a period: what the caller owes. -/
import Derived.Test.YtdackmefkccipaaExE
namespace Go.Proofs.Ytdackmefkccipaa
open Go Go.RowKit Go.Lib Go.Shelf

/-- what is said of a world and holds on over new blocks, and over a turn of a block from D on that holds no cells -/
def CalmD (D : Nat) (I : World → Prop) : Prop :=
  ∀ W W' row, I W → W.grownBy W' row → (∀ r, row = some r → D ≤ r ∧ ∃ o : Obj, W.heap[r]? = some o ∧ o.isCells = false) → I W'
theorem CalmD.alloc {D : Nat} {I : World → Prop} (h : CalmD D I) {W : World} (o : Obj) (hi : I W) : I (W.alloc o) :=
  h W _ none hi (World.grownBy_alloc W o none) (fun r e => by cases e)
theorem CalmD.put {D : Nat} {I : World → Prop} (h : CalmD D I) {W : World} {l : Nat} {o : Obj} (o' : Obj) (hi : I W) (hb : D ≤ l) (hl : W.heap[l]? = some o) (ho : o.isCells = false) : I (W.putObj l o') :=
  h W _ (some l) hi (grownBy_putObj' W l o') (fun r e => by cases e; exact ⟨hb, o, hl, ho⟩)

theorem range_at {g : Operand} {ps : Array Tmp} {assign body : Code} {Q : Exit → Act → World → Prop} {a : Act} {w : World} {n B1 B2 B3 : Nat} {v : Value} {fs : List FactV} {t p : Int} (hn : 3 ≤ n) (hlen : fs.length ≤ 140737488351232)
    (hg : a.eval g = .func (.func 33) #[] #[.pointer (some ⟨B1, 0, none⟩), .pointer (some ⟨B2, 0, none⟩), .pointer (some ⟨B3, 0, none⟩)]) (hps : ps.size = 1)
    (I : Nat → World → Prop) (hI : ∀ k, CalmD w.heap.size (I k))
    (hM : ∀ k W, I k W → FactsAt W v fs ∧ W.cell? ⟨B1, 0, none⟩ = some v ∧ W.cell? ⟨B2, 0, none⟩ = some (.int .i64 t) ∧ W.cell? ⟨B3, 0, none⟩ = some (.int .i64 p))
    (hS : ∀ k f W, fs[k]? = some f → atTest t p f = false → I k W → I (k + 1) W) (h0 : I 0 w) (a₁ : FactV → Nat → Act)
    (hassign : ∀ (l : Nat) (f : FactV) (W : World) (K : Act → World → Prop), K (a₁ f W.heap.size) (W.alloc (.cells f.cells 41)) →
      assign.wpIn (Fence.wide.inRound l) (n - 1 - 1) Try.prog (Exit.then K (fun _ _ _ => False)) { tmps := (ps.zip #[.agg f.cells]).foldl (fun t (p, v) => t.setIfInBounds p v) a.tmps, defers := [] } W)
    (hbody : ∀ (l k : Nat) (f : FactV) (H : Nat) (W : World), fs[k]? = some f → atTest t p f = true → I k W → W.heap[H]? = some (.cells f.cells 41 (0, 0)) → w.heap.size ≤ H →
      body.wpIn (Fence.wide.inRound l) (n - 1 - 1) Try.prog (fun e _ W' => e = .normal ∧ KeepsOthers W W' ∧ I (k + 1) W') (a₁ f H) W)
    (hdone : ∀ (D : Nat) (W : World), w.heap.size ≤ D → I fs.length W → W.heap[D]? = some (.deferred (some [])) → Q .normal { a with defers := { target := .collected D, args := #[] } :: a.defers } W) :
    (Code.rangeFunc g ps assign body).wpIn Fence.wide n Try.prog Q a w := by
  refine wpIn_rangeFunc (fun fn hfn => ?_)
  obtain ⟨rc, hrc⟩ : ∃ rc : LoopState → Option Code → Loop, rc = fun st pe => { state := st, pending := pe, fn, tmps := a.tmps, params := ps, assign, body, defers := w.heap.size } := ⟨_, rfl⟩
  obtain ⟨W1, hW1⟩ : ∃ W1, (w.alloc (.deferred (some []))).alloc (.loop (rc .ready none)) = W1 := ⟨_, rfl⟩
  have hl1 : W1.heap[w.heap.size + 1]? = some (.loop (rc .ready none)) := by
    rw [← hW1]; have := World.alloc_heap_new (w.alloc (.deferred (some []))) (.loop (rc .ready none)); rwa [World.size_alloc] at this
  have hd1 : W1.heap[w.heap.size]? = some (.deferred (some [])) := by
    rw [← hW1]; exact (Below.heap_alloc _ _ _ (by simp)).trans (World.alloc_heap_new w _)
  have hi1 : I 0 W1 := by rw [← hW1]; exact (hI 0).alloc _ ((hI 0).alloc _ h0)
  refine ⟨w.heap.size + 1, [{ target := .collected w.heap.size, args := #[] }], W1, { target := .fn (.func 33) #[.pointer (some ⟨B1, 0, none⟩), .pointer (some ⟨B2, 0, none⟩), .pointer (some ⟨B3, 0, none⟩)], args := #[.func (.yield (w.heap.size + 1)) #[] #[]] }, W1,
    33, #[.func (.yield (w.heap.size + 1)) #[] #[], .pointer (some ⟨B1, 0, none⟩), .pointer (some ⟨B2, 0, none⟩), .pointer (some ⟨B3, 0, none⟩)], W1, ?_, ?_, fun _ _ => trivial, ?_, fun _ => by omega, ?_⟩
  · rw [← hW1, hrc]; exact run_enterLoop_outer _ _ _ _ _
  · simp only [resolve, hg]
    simp [go_sem]
  · simp [invoke, go_sem]
  · refine (at1_in (n - 1) (by omega) (w.heap.size + 1) B1 B2 B3 v fs t p hlen
      (fun k W => I k W ∧ W.heap[w.heap.size + 1]? = some (.loop (rc .ready none)) ∧ W.heap[w.heap.size]? = some (.deferred (some [])))
      (fun k W h => hM k W h.1)
      (fun k W o h => ⟨(hI k).alloc o h.1, (Below.heap_alloc W o _ (Array.getElem?_eq_some_iff.1 h.2.1).1).trans h.2.1, (Below.heap_alloc W o _ (Array.getElem?_eq_some_iff.1 h.2.2).1).trans h.2.2⟩)
      (fun k f W hf ht h => ⟨hS k f W hf ht h.1, h.2⟩)
      ?_ W1 ⟨hi1, hl1, hd1⟩).mono ?_
    · rintro k f W hf ht ⟨hi, hl, hd⟩
      have hlt : w.heap.size + 1 < W.heap.size := (Array.getElem?_eq_some_iff.1 hl).1
      have hy := run_yield (P := Try.prog) (args := #[.agg f.cells]) hl (by rw [hrc]; simp [hps])
      rw [hrc] at hy
      obtain ⟨U, hU⟩ : ∃ U, W.alloc (.cells f.cells 41) = U := ⟨_, rfl⟩
      have hiU : I k U := by rw [← hU]; exact (hI k).alloc _ hi
      have hlU : U.heap[w.heap.size + 1]? = some (.loop (rc .ready none)) := by rw [← hU]; exact (Below.heap_alloc _ _ _ hlt).trans hl
      have hdU : U.heap[w.heap.size]? = some (.deferred (some [])) := by rw [← hU]; exact (Below.heap_alloc _ _ _ (by omega)).trans hd
      have hfU : U.heap[W.heap.size]? = some (.cells f.cells 41 (0, 0)) := by rw [← hU]; exact heap_alloc_last W _
      have hltU : w.heap.size + 1 < U.heap.size := (Array.getElem?_eq_some_iff.1 hlU).1
      refine ⟨fn, _, assign, body, hy, roundIn_of_wpIn hfn (hassign _ f W _ ?_)⟩
      rw [hU]
      refine ⟨_, run_beginRound hlU (by rw [hrc]), ?_⟩
      have hl2 : (U.putObj (w.heap.size + 1) (.loop { rc .ready none with state := .busy })).heap[w.heap.size + 1]? = some (.loop { rc .ready none with state := .busy }) := World.putObj_heap_same hltU
      have hd2 : (U.putObj (w.heap.size + 1) (.loop { rc .ready none with state := .busy })).heap[w.heap.size]? = some (.deferred (some [])) := (World.putObj_heap_other (by omega)).trans hdU
      have hf2 : (U.putObj (w.heap.size + 1) (.loop { rc .ready none with state := .busy })).heap[W.heap.size]? = some (.cells f.cells 41 (0, 0)) := (World.putObj_heap_other (by omega)).trans hfU
      have hi2 : I k (U.putObj (w.heap.size + 1) (.loop { rc .ready none with state := .busy })) := (hI k).put _ hiU (by omega) hlU rfl
      refine wpIn_mono (hbody _ k f W.heap.size _ hf ht hi2 hf2 (by omega)) ?_
      rintro e a3 W3 ⟨rfl, hk, hnext⟩
      have hl3 := hk.same _ _ hl2 rfl
      have hd3 := hk.same _ _ hd2 rfl
      have hend := run_endRound (P := Try.prog) none hl3
      have e4 : { rc .ready none with state := (.ready : LoopState), pending := (none : Option Code) } = rc .ready none := by rw [hrc]
      have hl4 : (W3.putObj (w.heap.size + 1) (.loop (rc .ready none))).heap[w.heap.size + 1]? = some (.loop (rc .ready none)) := World.putObj_heap_same (Array.getElem?_eq_some_iff.1 hl3).1
      have hd4 : (W3.putObj (w.heap.size + 1) (.loop (rc .ready none))).heap[w.heap.size]? = some (.deferred (some [])) := (World.putObj_heap_other (by omega)).trans hd3
      refine ⟨.bool true, W3.putObj (w.heap.size + 1) (.loop (rc .ready none)), ?_, rfl, (hI _).put _ hnext (by omega) hl3 rfl, hl4, hd4⟩
      rw [hend, hrc]; rfl
    · rintro e W2 ⟨⟨v, rfl⟩, hi, hl, hd⟩
      refine ⟨none, _, ?_, hdone _ (W2.putObj (w.heap.size + 1) (.loop { rc .ready none with state := .exhausted })) (Nat.le_refl _) ((hI _).put _ hi (by omega) hl rfl) ((World.putObj_heap_other (by omega)).trans hd)⟩
      have := run_endLoop (P := Try.prog) hl (by rw [hrc]; simp)
      rw [this, hrc]
end Go.Proofs.Ytdackmefkccipaa
