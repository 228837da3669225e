/- The iterator over chunks of 64 bytes, and a range over it. -/
import Derived.Test.YtgmdjbhclihflaaDoorDgE
namespace Go.Proofs.YtgmdjbhclihflaaDoor
open Go Go.RowKit Go.Lib Go.Shelf
attribute [local go_sem] Oper.semAt_some

theorem drewN_of {J : World → Prop} (h : ∀ W, J W → J W.drew) : ∀ (n : Nat) (W : World), J W → J (W.drewN n) := by
  intro n
  induction n with
  | zero => intro W hw; exact hw
  | succ n ih => intro W hw; have := h _ (ih W hw); exact this
set_option maxRecDepth 100000 in
set_option maxHeartbeats 2000000 in
theorem chunk1_in (n : Nat) (hn : 1 ≤ n) (l B1 B2 g c m : Nat) (hm : 64 * m ≤ 1000000) (hmc : 64 * m ≤ c) (J : Nat → World → Prop)
    (hM : ∀ k W, J k W → W.cell? ⟨B1, 0, none⟩ = some (.slice (some ⟨g, 0, none⟩) (64 * m) c) ∧ W.cell? ⟨B2, 0, none⟩ = some (.int .i64 64))
    (hD : ∀ k W, J k W → J k W.drew)
    (hY : ∀ k W, k < m → J k W → YieldAt Fence.wide (n - 1) Tryd.prog l #[.slice (some ⟨g, 64 * k, none⟩) 64 64] W fun e W' => e = .returned (.bool true) ∧ J (k + 1) W')
    (W : World) (h0 : J 0 W) :
    CallsIn Fence.wide n Tryd.prog 60 #[.func (.yield l) #[] #[], .pointer (some ⟨B1, 0, none⟩), .pointer (some ⟨B2, 0, none⟩)] W fun e W' => (∃ v, e = .returned v) ∧ J m W' := by
  have HM := Lib.hid hM
  have HD := Lib.hid hD
  have HY := Lib.hid hY
  have H0 := Lib.hid h0
  clear hM hD hY h0
  refine callsIn_of_wp Tryd.func60 rfl trivial ?_ rfl
  simp only [Tryd.ntmps60, List.size_toArray, List.length_cons, List.length_nil, Nat.reduceAdd, Nat.reduceSub, Array.replicate_succ, Array.replicate_zero, List.push_toArray, List.append_toArray, List.nil_append, List.cons_append]
  gi_wp2
  gi_loopw [4] (fun iv wr => ∃ k i : Nat, k ≤ m ∧ i = 64 * k ∧ iv = .int .i64 i ∧ Hid (J k wr)) (fun i _ => 1000000 - (intOf i).toNat)
  case atStart => exact ⟨0, 0, by omega, rfl, rfl, H0⟩
  case round =>
    obtain ⟨k, i, hk, hi, rfl, HJ⟩ := hrel
    obtain ⟨c1, c2⟩ := HM.out k wr HJ.out
    obtain ⟨L, hL⟩ : ∃ L, 64 * m = L := ⟨_, rfl⟩
    rw [hL] at c1 hm hmc
    by_cases hk2 : k < m
    · have hiL : i < L := by omega
      have hi64 : i + 64 ≤ L := by omega
      have HI := Lib.hid (And.intro hi hL)
      clear hi hL
      gi_wp2
      refine wpIn_wide.2 ?_
      go_quiet (fail)
      have hj := drewN_of (HD.out k) nq wr HJ.out
      obtain ⟨W1, hW1⟩ : ∃ z, wr.drewN nq = z := ⟨_, rfl⟩
      rw [hW1] at hj ⊢
      obtain ⟨d1, d2⟩ := HM.out k W1 hj
      have hyy := HY.out k W1 hk2 hj
      rw [← HI.out.1] at hyy
      rw [HI.out.2] at d1
      obtain ⟨fn, tmps, assign, body, hy, hR⟩ := hyy
      have HR := Lib.hid hR
      clear hR hj hW1 c1 c2 HJ
      gi_wp2
      refine HR.out.mono ?_
      rintro e W' ⟨rfl, hnext⟩
      obtain ⟨e1, e2⟩ := HM.out (k + 1) W' hnext
      have HN2 := Lib.hid hnext
      clear hnext e1 d1 d2 hy
      gi_wp2
      go_roundw
      case rel => exact ⟨k + 1, i + 64, by omega, by have := HI.out.1; omega, by go_num, HN2⟩
      case measure => simp [intOf]; omega
    · have hkm : k = m := by omega
      have hiL : i = L := by rw [hi, hkm, hL]
      have HE := Lib.hid (show J m wr by rw [← hkm]; exact HJ.out)
      clear hkm hi hL HJ
      subst hiL
      gi_wp2
      go_end0
      exact ⟨⟨_, rfl⟩, HE.out⟩
/-- what is said of a world and holds on over new blocks, and over a turn of a block from D on that holds no cells -/
def CalmD (D : Nat) (I : World → Prop) : Prop :=
  ∀ W W' row, I W → W.grownBy W' row → (∀ r, row = some r → D ≤ r ∧ ∃ o : Obj, W.heap[r]? = some o ∧ o.isCells = false) → I W'
theorem CalmD.alloc {D : Nat} {I : World → Prop} (h : CalmD D I) {W : World} (o : Obj) (hi : I W) : I (W.alloc o) :=
  h W _ none hi (World.grownBy_alloc W o none) (fun r e => by cases e)
theorem CalmD.put {D : Nat} {I : World → Prop} (h : CalmD D I) {W : World} {l : Nat} {o : Obj} (o' : Obj) (hi : I W) (hb : D ≤ l) (hl : W.heap[l]? = some o) (ho : o.isCells = false) : I (W.putObj l o') :=
  h W _ (some l) hi (grownBy_putObj' W l o') (fun r e => by cases e; exact ⟨hb, o, hl, ho⟩)

theorem range_chunk {g : Operand} {ps : Array Tmp} {assign body : Code} {Q : Exit → Act → World → Prop} {a : Act} {w : World} {n B1 B2 gb c m : Nat} (hn : 3 ≤ n) (hm : 64 * m ≤ 1000000) (hmc : 64 * m ≤ c)
    (hg : a.eval g = .func (.func 60) #[] #[.pointer (some ⟨B1, 0, none⟩), .pointer (some ⟨B2, 0, none⟩)]) (hps : ps.size = 1)
    (I : Nat → World → Prop) (hI : ∀ k, CalmD w.heap.size (I k))
    (hM : ∀ k W, I k W → W.cell? ⟨B1, 0, none⟩ = some (.slice (some ⟨gb, 0, none⟩) (64 * m) c) ∧ W.cell? ⟨B2, 0, none⟩ = some (.int .i64 64))
    (h0 : I 0 w) (a₁ : Nat → Act)
    (hassign : ∀ (l k : Nat) (W : World) (K : Act → World → Prop), K (a₁ k) W →
      assign.wpIn (Fence.wide.inRound l) (n - 1 - 1) Tryd.prog (Exit.then K (fun _ _ _ => False)) { tmps := (ps.zip #[.slice (some ⟨gb, 64 * k, none⟩) 64 64]).foldl (fun t (p, v) => t.setIfInBounds p v) a.tmps, defers := [] } W)
    (hbody : ∀ (l k : Nat) (W : World), k < m → I k W →
      body.wpIn (Fence.wide.inRound l) (n - 1 - 1) Tryd.prog (fun e _ W' => e = .normal ∧ KeepsOthers W W' ∧ I (k + 1) W') (a₁ k) W)
    (hdone : ∀ (D : Nat) (W : World), w.heap.size ≤ D → I m W → W.heap[D]? = some (.deferred (some [])) → Q .normal { a with defers := { target := .collected D, args := #[] } :: a.defers } W) :
    (Code.rangeFunc g ps assign body).wpIn Fence.wide n Tryd.prog Q a w := by
  refine wpIn_rangeFunc (fun fn hfn => ?_)
  obtain ⟨rc, hrc⟩ : ∃ rc : LoopState → Option Code → Loop, rc = fun st pe => { state := st, pending := pe, fn, tmps := a.tmps, params := ps, assign, body, defers := w.heap.size } := ⟨_, rfl⟩
  obtain ⟨W1, hW1⟩ : ∃ W1, (w.alloc (.deferred (some []))).alloc (.loop (rc .ready none)) = W1 := ⟨_, rfl⟩
  have hl1 : W1.heap[w.heap.size + 1]? = some (.loop (rc .ready none)) := by
    rw [← hW1]; have := World.alloc_heap_new (w.alloc (.deferred (some []))) (.loop (rc .ready none)); rwa [World.size_alloc] at this
  have hd1 : W1.heap[w.heap.size]? = some (.deferred (some [])) := by
    rw [← hW1]; exact (Below.heap_alloc _ _ _ (by simp)).trans (World.alloc_heap_new w _)
  have hi1 : I 0 W1 := by rw [← hW1]; exact (hI 0).alloc _ ((hI 0).alloc _ h0)
  refine ⟨w.heap.size + 1, [{ target := .collected w.heap.size, args := #[] }], W1, { target := .fn (.func 60) #[.pointer (some ⟨B1, 0, none⟩), .pointer (some ⟨B2, 0, none⟩)], args := #[.func (.yield (w.heap.size + 1)) #[] #[]] }, W1,
    60, #[.func (.yield (w.heap.size + 1)) #[] #[], .pointer (some ⟨B1, 0, none⟩), .pointer (some ⟨B2, 0, none⟩)], W1, ?_, ?_, fun _ _ => trivial, ?_, fun _ => by omega, ?_⟩
  · rw [← hW1, hrc]; exact run_enterLoop_outer _ _ _ _ _
  · simp only [resolve, hg]
    simp [go_sem]
  · simp [invoke, go_sem]
  · refine (chunk1_in (n - 1) (by omega) (w.heap.size + 1) B1 B2 gb c m hm hmc
      (fun k W => I k W ∧ W.heap[w.heap.size + 1]? = some (.loop (rc .ready none)) ∧ W.heap[w.heap.size]? = some (.deferred (some [])))
      (fun k W h => hM k W h.1)
      (fun k W h => ⟨hI k W _ none h.1 ⟨rfl, rfl, rfl, Nat.le_refl _, fun _ _ _ => rfl⟩ (fun r e => by cases e), h.2⟩)
      ?_ W1 ⟨hi1, hl1, hd1⟩).mono ?_
    · rintro k W hk ⟨hi, hl, hd⟩
      have hlt : w.heap.size + 1 < W.heap.size := (Array.getElem?_eq_some_iff.1 hl).1
      have hy := run_yield (P := Tryd.prog) (args := #[.slice (some ⟨gb, 64 * k, none⟩) 64 64]) hl (by rw [hrc]; simp [hps])
      rw [hrc] at hy
      refine ⟨fn, _, assign, body, hy, roundIn_of_wpIn hfn (hassign _ k W _ ?_)⟩
      refine ⟨_, run_beginRound hl (by rw [hrc]), ?_⟩
      have hl2 : (W.putObj (w.heap.size + 1) (.loop { rc .ready none with state := .busy })).heap[w.heap.size + 1]? = some (.loop { rc .ready none with state := .busy }) := World.putObj_heap_same hlt
      have hd2 : (W.putObj (w.heap.size + 1) (.loop { rc .ready none with state := .busy })).heap[w.heap.size]? = some (.deferred (some [])) := (World.putObj_heap_other (by omega)).trans hd
      have hi2 : I k (W.putObj (w.heap.size + 1) (.loop { rc .ready none with state := .busy })) := (hI k).put _ hi (by omega) hl rfl
      refine wpIn_mono (hbody _ k _ hk hi2) ?_
      rintro e a3 W3 ⟨rfl, hkp, hnext⟩
      have hl3 := hkp.same _ _ hl2 rfl
      have hd3 := hkp.same _ _ hd2 rfl
      have hend := run_endRound (P := Tryd.prog) none hl3
      have hl4 : (W3.putObj (w.heap.size + 1) (.loop (rc .ready none))).heap[w.heap.size + 1]? = some (.loop (rc .ready none)) := World.putObj_heap_same (Array.getElem?_eq_some_iff.1 hl3).1
      have hd4 : (W3.putObj (w.heap.size + 1) (.loop (rc .ready none))).heap[w.heap.size]? = some (.deferred (some [])) := (World.putObj_heap_other (by omega)).trans hd3
      refine ⟨.bool true, W3.putObj (w.heap.size + 1) (.loop (rc .ready none)), ?_, rfl, (hI _).put _ hnext (by omega) hl3 rfl, hl4, hd4⟩
      rw [hend, hrc]; rfl
    · rintro e W2 ⟨⟨v, rfl⟩, hi, hl, hd⟩
      refine ⟨none, _, ?_, hdone _ (W2.putObj (w.heap.size + 1) (.loop { rc .ready none with state := .exhausted })) (Nat.le_refl _) ((hI _).put _ hi (by omega) hl rfl) ((World.putObj_heap_other (by omega)).trans hd)⟩
      have := run_endLoop (P := Tryd.prog) hl (by rw [hrc]; simp)
      rw [this, hrc]
end Go.Proofs.YtgmdjbhclihflaaDoor
