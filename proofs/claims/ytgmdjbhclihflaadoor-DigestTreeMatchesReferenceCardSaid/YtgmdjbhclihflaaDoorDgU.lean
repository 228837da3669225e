/- A range backward over sides whose variable has a block of its own. -/
import Derived.Test.YtgmdjbhclihflaaDoorDgT
namespace Go.Proofs.YtgmdjbhclihflaaDoor
open Go Go.RowKit Go.Lib Go.Shelf
attribute [local go_sem] Oper.semAt_some

theorem range_backD2 {g : Operand} {ps : Array Tmp} {assign body : Code} {Q : Exit → Act → World → Prop} {a : Act} {w : World} {n B1 : Nat} {v : Value} {xs : List (List UInt8 × Bool)} (hn : 3 ≤ n) (hlen : xs.length ≤ 1000000)
    (hg : a.eval g = .func (.func 57) #[] #[.pointer (some ⟨B1, 0, none⟩)]) (hps : ps.size = 2)
    (I : Nat → World → Prop) (hI : ∀ k, CalmD w.heap.size (I k))
    (hM : ∀ k W, I k W → W.cell? ⟨B1, 0, none⟩ = some v ∧ SlD W v xs)
    (h0 : I 0 w) (a₁ : Nat → List UInt8 × Bool → Nat → Act)
    (hassign : ∀ (l i : Nat) (x : List UInt8 × Bool) (W : World) (K : Act → World → Prop), K (a₁ i x W.heap.size) (W.alloc (.cells #[.string ⟨x.1.toArray⟩, .bool x.2] 57)) →
      assign.wpIn (Fence.wide.inRound l) (n - 1 - 1) Tryd.prog (Exit.then K (fun _ _ _ => False)) { tmps := (ps.zip #[.int .i64 (i : Int), .agg #[.string ⟨x.1.toArray⟩, .bool x.2]]).foldl (fun t (p, v) => t.setIfInBounds p v) a.tmps, defers := [] } W)
    (hbody : ∀ (l k i : Nat) (x : List UInt8 × Bool) (r : Nat) (W : World), xs[i]? = some x → k + i + 1 = xs.length → I k W → RowAt W r 57 #[.string ⟨x.1.toArray⟩, .bool x.2] → w.heap.size ≤ r →
      body.wpIn (Fence.wide.inRound l) (n - 1 - 1) Tryd.prog (fun e _ W' => e = .normal ∧ KeepsOthers W W' ∧ I (k + 1) W') (a₁ i x r) W)
    (hdone : ∀ (D : Nat) (W : World), w.heap.size ≤ D → I xs.length W → W.heap[D]? = some (.deferred (some [])) → Q .normal { a with defers := { target := .collected D, args := #[] } :: a.defers } W) :
    (Code.rangeFunc g ps assign body).wpIn Fence.wide n Tryd.prog Q a w := by
  refine wpIn_rangeFunc (fun fn hfn => ?_)
  obtain ⟨rc, hrc⟩ : ∃ rc : LoopState → Option Code → Loop, rc = fun st pe => { state := st, pending := pe, fn, tmps := a.tmps, params := ps, assign, body, defers := w.heap.size } := ⟨_, rfl⟩
  obtain ⟨W1, hW1⟩ : ∃ W1, (w.alloc (.deferred (some []))).alloc (.loop (rc .ready none)) = W1 := ⟨_, rfl⟩
  have hl1 : W1.heap[w.heap.size + 1]? = some (.loop (rc .ready none)) := by
    rw [← hW1]; have := World.alloc_heap_new (w.alloc (.deferred (some []))) (.loop (rc .ready none)); rwa [World.size_alloc] at this
  have hd1 : W1.heap[w.heap.size]? = some (.deferred (some [])) := by
    rw [← hW1]; exact (Below.heap_alloc _ _ _ (by simp)).trans (World.alloc_heap_new w _)
  have hi1 : I 0 W1 := by rw [← hW1]; exact (hI 0).alloc _ ((hI 0).alloc _ h0)
  refine ⟨w.heap.size + 1, [{ target := .collected w.heap.size, args := #[] }], W1, { target := .fn (.func 57) #[.pointer (some ⟨B1, 0, none⟩)], args := #[.func (.yield (w.heap.size + 1)) #[] #[]] }, W1,
    57, #[.func (.yield (w.heap.size + 1)) #[] #[], .pointer (some ⟨B1, 0, none⟩)], W1, ?_, ?_, fun _ _ => trivial, ?_, fun _ => by omega, ?_⟩
  · rw [← hW1, hrc]; exact run_enterLoop_outer _ _ _ _ _
  · simp only [resolve, hg]
    simp [go_sem]
  · simp [invoke, go_sem]
  · refine (backD_in (n - 1) (by omega) (w.heap.size + 1) B1 v xs hlen
      (fun k W => I k W ∧ W.heap[w.heap.size + 1]? = some (.loop (rc .ready none)) ∧ W.heap[w.heap.size]? = some (.deferred (some [])))
      (fun k W h => hM k W h.1)
      ?_ W1 ⟨hi1, hl1, hd1⟩).mono ?_
    · rintro k i x W hx hki ⟨hi, hl, hd⟩
      have hlt : w.heap.size + 1 < W.heap.size := (Array.getElem?_eq_some_iff.1 hl).1
      have hy := run_yield (P := Tryd.prog) (args := #[.int .i64 (i : Int), .agg #[.string ⟨x.1.toArray⟩, .bool x.2]]) hl (by rw [hrc]; simp [hps])
      rw [hrc] at hy
      refine ⟨fn, _, assign, body, hy, roundIn_of_wpIn hfn (hassign _ i x W _ ?_)⟩
      obtain ⟨Wa, hWa⟩ : ∃ z, W.alloc (.cells #[.string ⟨x.1.toArray⟩, .bool x.2] 57) = z := ⟨_, rfl⟩
      have hla : Wa.heap[w.heap.size + 1]? = some (.loop (rc .ready none)) := by rw [← hWa]; exact (Below.heap_alloc _ _ _ hlt).trans hl
      have hda : Wa.heap[w.heap.size]? = some (.deferred (some [])) := by rw [← hWa]; exact (Below.heap_alloc _ _ _ (by omega)).trans hd
      have hia : I k Wa := by rw [← hWa]; exact (hI k).alloc _ hi
      have hra : RowAt Wa W.heap.size 57 #[.string ⟨x.1.toArray⟩, .bool x.2] := by rw [← hWa]; exact RowAt.new W _ _
      rw [hWa]
      refine ⟨_, run_beginRound hla (by rw [hrc]), ?_⟩
      have hlta : w.heap.size + 1 < Wa.heap.size := (Array.getElem?_eq_some_iff.1 hla).1
      have hl2 : (Wa.putObj (w.heap.size + 1) (.loop { rc .ready none with state := .busy })).heap[w.heap.size + 1]? = some (.loop { rc .ready none with state := .busy }) := World.putObj_heap_same hlta
      have hd2 : (Wa.putObj (w.heap.size + 1) (.loop { rc .ready none with state := .busy })).heap[w.heap.size]? = some (.deferred (some [])) := (World.putObj_heap_other (by omega)).trans hda
      have hi2 : I k (Wa.putObj (w.heap.size + 1) (.loop { rc .ready none with state := .busy })) := (hI k).put _ hia (by omega) hla rfl
      have hr2 : RowAt (Wa.putObj (w.heap.size + 1) (.loop { rc .ready none with state := .busy })) W.heap.size 57 #[.string ⟨x.1.toArray⟩, .bool x.2] := (World.putObj_heap_other (by omega)).trans hra
      refine wpIn_mono (hbody _ k i x _ _ hx hki hi2 hr2 (by omega)) ?_
      rintro e a3 W3 ⟨rfl, hkp, hnext⟩
      have hl3 := hkp.same _ _ hl2 rfl
      have hd3 := hkp.same _ _ hd2 rfl
      have hend := run_endRound (P := Tryd.prog) none hl3
      have hl4 : (W3.putObj (w.heap.size + 1) (.loop (rc .ready none))).heap[w.heap.size + 1]? = some (.loop (rc .ready none)) := World.putObj_heap_same (Array.getElem?_eq_some_iff.1 hl3).1
      have hd4 : (W3.putObj (w.heap.size + 1) (.loop (rc .ready none))).heap[w.heap.size]? = some (.deferred (some [])) := (World.putObj_heap_other (by omega)).trans hd3
      refine ⟨.bool true, W3.putObj (w.heap.size + 1) (.loop (rc .ready none)), ?_, rfl, (hI _).put _ hnext (by omega) hl3 rfl, hl4, hd4⟩
      rw [hend, hrc]; rfl
    · rintro e W2 ⟨⟨v, rfl⟩, hi, hl, hd⟩
      refine ⟨none, _, ?_, hdone _ (W2.putObj (w.heap.size + 1) (.loop { rc .ready none with state := .exhausted })) (Nat.le_refl _) ((hI _).put _ hi (by omega) hl rfl) ((World.putObj_heap_other (by omega)).trans hd)⟩
      have := run_endLoop (P := Tryd.prog) hl (by rw [hrc]; simp)
      rw [this, hrc]
end Go.Proofs.YtgmdjbhclihflaaDoor
