/- A range over the 7-bit groups: what the caller owes. -/
import Derived.Test.YtfiabonacpepnaaGreatDoorWireF
namespace Go.Proofs.YtfiabonacpepnaaGreatDoor.Fb
open Go Go.RowKit Go.Shelf

/-- what is said of a world and holds on over new blocks, and over a turn of block B or of a block that holds no cells -/
def Calm (B : Nat) (I : World → Prop) : Prop :=
  ∀ W W' row, I W → W.grownBy W' row → (∀ r, row = some r → B ≤ r ∧ (r = B ∨ ∃ o : Obj, W.heap[r]? = some o ∧ o.isCells = false)) → I W'
theorem Calm.alloc {B : Nat} {I : World → Prop} (h : Calm B I) {W : World} (o : Obj) (hi : I W) : I (W.alloc o) :=
  h W _ none hi (World.grownBy_alloc W o none) (fun r e => by cases e)
theorem Calm.put {B : Nat} {I : World → Prop} (h : Calm B I) {W : World} {l : Nat} {o : Obj} (o' : Obj) (hi : I W) (hb : B ≤ l) (hl : W.heap[l]? = some o) (ho : o.isCells = false) : I (W.putObj l o') :=
  h W _ (some l) hi (grownBy_putObj' W l o') (fun r e => by cases e; exact ⟨hb, Or.inr ⟨o, hl, ho⟩⟩)
theorem Calm.set {B : Nat} {I : World → Prop} (h : Calm B I) {W : World} (v : Value) (hi : I W) : I (W.setCell ⟨B, 0, none⟩ v) :=
  h W _ (some B) hi (grownBy_setCell' W B v) (fun r e => by cases e; exact ⟨Nat.le_refl _, Or.inl rfl⟩)

theorem range_groups {g : Operand} {ps : Array Tmp} {assign body : Code} {Q : Exit → Act → World → Prop} {a : Act} {w : World} {n B z : Nat} (hn : 3 ≤ n)
    (hg : a.eval g = .func (.func 115) #[] #[.pointer (some ⟨B, 0, none⟩)]) (hps : ps.size = 2) (hB : BoxU w B z) (hz : z < 18446744073709551616)
    (I : Nat → World → Prop) (Iend : World → Prop) (hI : ∀ z, Calm B (I z)) (hIe : Calm B Iend) (h0 : I z w) (a₁ : Nat → Act)
    (hassign : ∀ (l z : Nat) (W : World) (K : Act → World → Prop), K (a₁ z) W →
      assign.wpIn (Fence.wide.inRound l) (n - 1 - 1) Tryz.prog (Exit.then K (fun _ _ _ => False)) { tmps := (ps.zip #[.int .u8 ((z : Int) % 128), .bool (decide ((z : Int) < 128))]).foldl (fun t (p, v) => t.setIfInBounds p v) a.tmps, defers := [] } W)
    (hbody : ∀ (l z : Nat) (W : World), I z W → z < 18446744073709551616 → body.wpIn (Fence.wide.inRound l) (n - 1 - 1) Tryz.prog
      (fun e _ W' => e = .normal ∧ KeepsOthers W W' ∧ W'.heap[B]? = W.heap[B]? ∧ (if z < 128 then Iend W' else I (z / 128) W')) (a₁ z) W)
    (hdone : ∀ (D : Nat) (W : World), w.heap.size ≤ D → Iend W → W.heap[D]? = some (.deferred (some [])) → Q .normal { a with defers := { target := .collected D, args := #[] } :: a.defers } W) :
    (Code.rangeFunc g ps assign body).wpIn Fence.wide n Tryz.prog Q a w := by
  have hBlt : B < w.heap.size := (Array.getElem?_eq_some_iff.1 hB).1
  refine wpIn_rangeFunc (fun fn hfn => ?_)
  obtain ⟨rc, hrc⟩ : ∃ rc : LoopState → Option Code → Loop, rc = fun st pe => { state := st, pending := pe, fn, tmps := a.tmps, params := ps, assign, body, defers := w.heap.size } := ⟨_, rfl⟩
  obtain ⟨W1, hW1⟩ : ∃ W1, (w.alloc (.deferred (some []))).alloc (.loop (rc .ready none)) = W1 := ⟨_, rfl⟩
  have hl1 : W1.heap[w.heap.size + 1]? = some (.loop (rc .ready none)) := by
    rw [← hW1]; have := World.alloc_heap_new (w.alloc (.deferred (some []))) (.loop (rc .ready none)); rwa [World.size_alloc] at this
  have hd1 : W1.heap[w.heap.size]? = some (.deferred (some [])) := by
    rw [← hW1]; exact (Below.heap_alloc _ _ _ (by simp)).trans (World.alloc_heap_new w _)
  have hb1 : BoxU W1 B z := by
    rw [← hW1]; exact (Below.heap_alloc _ _ _ (by simp; omega)).trans ((Below.heap_alloc _ _ _ hBlt).trans hB)
  have hi1 : I z W1 := by rw [← hW1]; exact (hI z).alloc _ ((hI z).alloc _ h0)
  refine ⟨w.heap.size + 1, [{ target := .collected w.heap.size, args := #[] }], W1, { target := .fn (.func 115) #[.pointer (some ⟨B, 0, none⟩)], args := #[.func (.yield (w.heap.size + 1)) #[] #[]] }, W1,
    115, #[.func (.yield (w.heap.size + 1)) #[] #[], .pointer (some ⟨B, 0, none⟩)], W1, ?_, ?_, fun _ _ => trivial, ?_, fun _ => by omega, ?_⟩
  · rw [← hW1, hrc]; exact run_enterLoop_outer _ _ _ _ _
  · simp only [resolve, hg]
    simp [go_sem]
  · simp [invoke, go_sem]
  · refine (groups1_in (n - 1) (by omega) (w.heap.size + 1) B
      (fun z W => I z W ∧ W.heap[w.heap.size + 1]? = some (.loop (rc .ready none)) ∧ W.heap[w.heap.size]? = some (.deferred (some [])))
      (fun W => Iend W ∧ W.heap[w.heap.size + 1]? = some (.loop (rc .ready none)) ∧ W.heap[w.heap.size]? = some (.deferred (some [])))
      (fun z W v h => ⟨(hI z).set v h.1, (Below.heap_setCell W ⟨B, 0, none⟩ v _ (by show w.heap.size + 1 ≠ B; omega)).trans h.2.1, (Below.heap_setCell W ⟨B, 0, none⟩ v _ (by show w.heap.size ≠ B; omega)).trans h.2.2⟩)
      ?_ z hz W1 hb1 ⟨hi1, hl1, hd1⟩).mono ?_
    · rintro z W hz ⟨hi, hl, hd⟩
      have hlt : w.heap.size + 1 < W.heap.size := (Array.getElem?_eq_some_iff.1 hl).1
      have hy := run_yield (P := Tryz.prog) (args := #[.int .u8 ((z : Int) % 128), .bool (decide ((z : Int) < 128))]) hl (by rw [hrc]; simp [hps])
      rw [hrc] at hy
      refine ⟨fn, _, assign, body, hy, roundIn_of_wpIn hfn (hassign _ z W _ ⟨_, run_beginRound hl (by rw [hrc]), ?_⟩)⟩
      have hl2 : (W.putObj (w.heap.size + 1) (.loop { rc .ready none with state := .busy })).heap[w.heap.size + 1]? = some (.loop { rc .ready none with state := .busy }) := World.putObj_heap_same hlt
      have hd2 : (W.putObj (w.heap.size + 1) (.loop { rc .ready none with state := .busy })).heap[w.heap.size]? = some (.deferred (some [])) := (World.putObj_heap_other (by omega)).trans hd
      have hB2 : (W.putObj (w.heap.size + 1) (.loop { rc .ready none with state := .busy })).heap[B]? = W.heap[B]? := World.putObj_heap_other (by omega)
      refine wpIn_mono (hbody _ z _ ((hI z).put _ hi (by omega) hl rfl) hz) ?_
      rintro e a3 W3 ⟨rfl, hk, hB3, hnext⟩
      have hl3 := hk.same _ _ hl2 rfl
      have hd3 := hk.same _ _ hd2 rfl
      have hend := run_endRound (P := Tryz.prog) none hl3
      have e4 : { rc .ready none with state := (.ready : LoopState), pending := (none : Option Code) } = rc .ready none := by rw [hrc]
      have hl4 : (W3.putObj (w.heap.size + 1) (.loop (rc .ready none))).heap[w.heap.size + 1]? = some (.loop (rc .ready none)) := World.putObj_heap_same (Array.getElem?_eq_some_iff.1 hl3).1
      have hd4 : (W3.putObj (w.heap.size + 1) (.loop (rc .ready none))).heap[w.heap.size]? = some (.deferred (some [])) := (World.putObj_heap_other (by omega)).trans hd3
      refine ⟨.bool true, W3.putObj (w.heap.size + 1) (.loop (rc .ready none)), ?_, rfl, ?_, ?_⟩
      · rw [hend, hrc]; rfl
      · by_cases h128 : z < 128
        · rw [if_pos h128] at hnext ⊢
          exact ⟨hIe.put _ hnext (by omega) hl3 rfl, hl4, hd4⟩
        · rw [if_neg h128] at hnext ⊢
          exact ⟨(hI _).put _ hnext (by omega) hl3 rfl, hl4, hd4⟩
      · rw [World.putObj_heap_other (by omega), hB3, hB2]
    · rintro e W2 ⟨⟨v, rfl⟩, hi, hl, hd⟩
      refine ⟨none, _, ?_, hdone _ (W2.putObj (w.heap.size + 1) (.loop { rc .ready none with state := .exhausted })) (Nat.le_refl _) (hIe.put _ hi (by omega) hl rfl) ((World.putObj_heap_other (by omega)).trans hd)⟩
      have := run_endLoop (P := Tryz.prog) hl (by rw [hrc]; simp)
      rw [this, hrc]
end Go.Proofs.YtfiabonacpepnaaGreatDoor.Fb
