/- The iterators that go backward over strings and over sides, and a range over each. -/
import Derived.Test.YtgmdjbhclihflaaDoorDgJ
namespace Go.Proofs.YtgmdjbhclihflaaDoor
open Go Go.RowKit Go.Lib Go.Shelf
attribute [local go_sem] Oper.semAt_some

/-- v is a slice of strings that reads as xs -/
def SlS (w : World) (v : Value) (xs : List (List UInt8)) : Prop :=
  (xs = [] ∧ ∃ A c, v = .slice A 0 c) ∨ ∃ b o c, v = .slice (some ⟨b, o, none⟩) xs.length c ∧ b < w.heap.size ∧ ∀ (i : Nat) x, xs[i]? = some x → w.cell? ⟨b, o + i, none⟩ = some (.string ⟨x.toArray⟩)
theorem SlS.below {w w' : World} {v : Value} {xs : List (List UInt8)} (h : SlS w v xs) (hb : Below w.heap.size w w') : SlS w' v xs := by
  rcases h with h0 | ⟨b, o, c, hv, hlt, hc⟩
  · exact .inl h0
  · exact .inr ⟨b, o, c, hv, Nat.lt_of_lt_of_le hlt hb.size, fun i x hx => (hb.cell (p := ⟨b, o + i, none⟩) hlt).trans (hc i x hx)⟩
theorem SlS.slice {w : World} {v : Value} {xs : List (List UInt8)} (h : SlS w v xs) : ∃ A c, v = .slice A xs.length c := by
  rcases h with ⟨rfl, A, c, rfl⟩ | ⟨b, o, c, rfl, _⟩
  · exact ⟨A, c, rfl⟩
  · exact ⟨_, c, rfl⟩
theorem SlS.get {w : World} {A : Option Addr} {n c : Nat} {xs : List (List UInt8)} (h : SlS w (.slice A n c) xs) {i : Nat} {x : List UInt8} (hx : xs[i]? = some x) : ∃ b o, A = some ⟨b, o, none⟩ ∧ b < w.heap.size ∧ w.cell? ⟨b, o + i, none⟩ = some (.string ⟨x.toArray⟩) := by
  rcases h with ⟨h0, _⟩ | ⟨b, o, c, he, hlt, hc⟩
  · rw [h0] at hx; simp at hx
  · simp only [Value.slice.injEq] at he
    exact ⟨b, o, he.1, hlt, hc i x hx⟩
/-- v is a slice of sides that reads as xs -/
def SlD (w : World) (v : Value) (xs : List (List UInt8 × Bool)) : Prop :=
  (xs = [] ∧ ∃ A c, v = .slice A 0 c) ∨ ∃ b o c, v = .slice (some ⟨b, o, none⟩) xs.length c ∧ b < w.heap.size ∧ ∀ (i : Nat) x, xs[i]? = some x → w.cell? ⟨b, o + i * 2, none⟩ = some (.string ⟨x.1.toArray⟩) ∧ w.cell? ⟨b, o + i * 2 + 1, none⟩ = some (.bool x.2)
theorem SlD.below {w w' : World} {v : Value} {xs : List (List UInt8 × Bool)} (h : SlD w v xs) (hb : Below w.heap.size w w') : SlD w' v xs := by
  rcases h with h0 | ⟨b, o, c, hv, hlt, hc⟩
  · exact .inl h0
  · exact .inr ⟨b, o, c, hv, Nat.lt_of_lt_of_le hlt hb.size, fun i x hx => ⟨(hb.cell (p := ⟨b, o + i * 2, none⟩) hlt).trans (hc i x hx).1, (hb.cell (p := ⟨b, o + i * 2 + 1, none⟩) hlt).trans (hc i x hx).2⟩⟩
theorem SlD.slice {w : World} {v : Value} {xs : List (List UInt8 × Bool)} (h : SlD w v xs) : ∃ A c, v = .slice A xs.length c := by
  rcases h with ⟨rfl, A, c, rfl⟩ | ⟨b, o, c, rfl, _⟩
  · exact ⟨A, c, rfl⟩
  · exact ⟨_, c, rfl⟩
theorem SlD.get {w : World} {A : Option Addr} {n c : Nat} {xs : List (List UInt8 × Bool)} (h : SlD w (.slice A n c) xs) {i : Nat} {x : List UInt8 × Bool} (hx : xs[i]? = some x) : ∃ b o, A = some ⟨b, o, none⟩ ∧ b < w.heap.size ∧ w.cell? ⟨b, o + i * 2, none⟩ = some (.string ⟨x.1.toArray⟩) ∧ w.cell? ⟨b, o + i * 2 + 1, none⟩ = some (.bool x.2) := by
  rcases h with ⟨h0, _⟩ | ⟨b, o, c, he, hlt, hc⟩
  · rw [h0] at hx; simp at hx
  · simp only [Value.slice.injEq] at he
    exact ⟨b, o, he.1, hlt, hc i x hx⟩
set_option maxRecDepth 100000 in
set_option maxHeartbeats 2000000 in
theorem backS_in (n : Nat) (hn : 1 ≤ n) (l B1 : Nat) (v : Value) (xs : List (List UInt8)) (hlen : xs.length ≤ 1000000) (J : Nat → World → Prop)
    (hM : ∀ k W, J k W → W.cell? ⟨B1, 0, none⟩ = some v ∧ SlS W v xs)
    (hY : ∀ k i x W, xs[i]? = some x → k + i + 1 = xs.length → J k W → YieldAt Fence.wide (n - 1) Tryd.prog l #[.int .i64 (i : Int), .string ⟨x.toArray⟩] W fun e W' => e = .returned (.bool true) ∧ J (k + 1) W')
    (W : World) (h0 : J 0 W) :
    CallsIn Fence.wide n Tryd.prog 54 #[.func (.yield l) #[] #[], .pointer (some ⟨B1, 0, none⟩)] W fun e W' => (∃ v, e = .returned v) ∧ J xs.length W' := by
  have HM := Lib.hid hM
  have HY := Lib.hid hY
  have H0 := Lib.hid h0
  obtain ⟨c1, hv⟩ := hM 0 W h0
  obtain ⟨A, c, rfl⟩ := hv.slice
  obtain ⟨m, hm⟩ : ∃ m, xs.length = m := ⟨_, rfl⟩
  rw [hm] at hlen c1 HM HY ⊢
  have HL := Lib.hid hm
  clear hM hY h0 hv hm
  refine callsIn_of_wp Tryd.func54 rfl trivial ?_ rfl
  simp only [Tryd.ntmps54, List.size_toArray, List.length_cons, List.length_nil, Nat.reduceAdd, Nat.reduceSub, Array.replicate_succ, Array.replicate_zero, List.push_toArray, List.append_toArray, List.nil_append, List.cons_append]
  gi_wp2
  gi_loopw [3] (fun iv wr => ∃ k : Nat, k ≤ m ∧ iv = .int .i64 ((m : Int) - 1 - (k : Int)) ∧ Hid (J k wr)) (fun i _ => (RowKit.intOf i + 1).toNat)
  case atStart => exact ⟨0, by omega, by congr 1; omega, H0⟩
  case round =>
    obtain ⟨k, hk, rfl, HJ⟩ := hrel
    obtain ⟨d1, hv⟩ := HM.out k wr HJ.out
    by_cases hk2 : k < m
    · obtain ⟨i, hi⟩ : ∃ i, m - 1 - k = i := ⟨_, rfl⟩
      obtain ⟨x, hx⟩ : ∃ x, xs[i]? = some x := ⟨_, List.getElem?_eq_getElem (by rw [HL.out]; omega)⟩
      rw [show (m : Int) - 1 - (k : Int) = (i : Int) by omega]
      obtain ⟨b, o, hA, hlt, hcx⟩ := hv.get hx
      subst hA
      have him : i < m := by omega
      have hc0 := hcx
      obtain ⟨fn, tmps, assign, body, hy, hR⟩ := HY.out k i x wr hx (by omega) HJ.out
      have HR := Lib.hid hR
      have HI := Lib.hid hi
      clear hR hx hi hv hcx hlt c1 HJ
      gi_wp2
      refine HR.out.mono ?_
      rintro e W' ⟨rfl, hnext⟩
      have HN2 := Lib.hid hnext
      clear hnext d1 hy
      gi_wp2
      go_roundw
      case rel => exact ⟨k + 1, by omega, by have := HI.out; congr 1; omega, HN2⟩
      case measure => have := HI.out; simp [RowKit.intOf]
    · have hkm : k = m := by omega
      subst hkm
      rw [show (k : Int) - 1 - (k : Int) = -1 by omega]
      clear hv d1 c1
      gi_wp2
      go_end0
      exact ⟨⟨_, rfl⟩, HJ.out⟩
theorem range_backS {g : Operand} {ps : Array Tmp} {assign body : Code} {Q : Exit → Act → World → Prop} {a : Act} {w : World} {n B1 : Nat} {v : Value} {xs : List (List UInt8)} (hn : 3 ≤ n) (hlen : xs.length ≤ 1000000)
    (hg : a.eval g = .func (.func 54) #[] #[.pointer (some ⟨B1, 0, none⟩)]) (hps : ps.size = 2)
    (I : Nat → World → Prop) (hI : ∀ k, CalmD w.heap.size (I k))
    (hM : ∀ k W, I k W → W.cell? ⟨B1, 0, none⟩ = some v ∧ SlS W v xs)
    (h0 : I 0 w) (a₁ : Nat → List UInt8 → Act)
    (hassign : ∀ (l i : Nat) (x : List UInt8) (W : World) (K : Act → World → Prop), K (a₁ i x) W →
      assign.wpIn (Fence.wide.inRound l) (n - 1 - 1) Tryd.prog (Exit.then K (fun _ _ _ => False)) { tmps := (ps.zip #[.int .i64 (i : Int), .string ⟨x.toArray⟩]).foldl (fun t (p, v) => t.setIfInBounds p v) a.tmps, defers := [] } W)
    (hbody : ∀ (l k i : Nat) (x : List UInt8) (W : World), xs[i]? = some x → k + i + 1 = xs.length → I k W →
      body.wpIn (Fence.wide.inRound l) (n - 1 - 1) Tryd.prog (fun e _ W' => e = .normal ∧ KeepsOthers W W' ∧ I (k + 1) W') (a₁ i x) W)
    (hdone : ∀ (D : Nat) (W : World), w.heap.size ≤ D → I xs.length W → W.heap[D]? = some (.deferred (some [])) → Q .normal { a with defers := { target := .collected D, args := #[] } :: a.defers } W) :
    (Code.rangeFunc g ps assign body).wpIn Fence.wide n Tryd.prog Q a w := by
  refine wpIn_rangeFunc (fun fn hfn => ?_)
  obtain ⟨rc, hrc⟩ : ∃ rc : LoopState → Option Code → Loop, rc = fun st pe => { state := st, pending := pe, fn, tmps := a.tmps, params := ps, assign, body, defers := w.heap.size } := ⟨_, rfl⟩
  obtain ⟨W1, hW1⟩ : ∃ W1, (w.alloc (.deferred (some []))).alloc (.loop (rc .ready none)) = W1 := ⟨_, rfl⟩
  have hl1 : W1.heap[w.heap.size + 1]? = some (.loop (rc .ready none)) := by
    rw [← hW1]; have := World.alloc_heap_new (w.alloc (.deferred (some []))) (.loop (rc .ready none)); rwa [World.size_alloc] at this
  have hd1 : W1.heap[w.heap.size]? = some (.deferred (some [])) := by
    rw [← hW1]; exact (Below.heap_alloc _ _ _ (by simp)).trans (World.alloc_heap_new w _)
  have hi1 : I 0 W1 := by rw [← hW1]; exact (hI 0).alloc _ ((hI 0).alloc _ h0)
  refine ⟨w.heap.size + 1, [{ target := .collected w.heap.size, args := #[] }], W1, { target := .fn (.func 54) #[.pointer (some ⟨B1, 0, none⟩)], args := #[.func (.yield (w.heap.size + 1)) #[] #[]] }, W1,
    54, #[.func (.yield (w.heap.size + 1)) #[] #[], .pointer (some ⟨B1, 0, none⟩)], W1, ?_, ?_, fun _ _ => trivial, ?_, fun _ => by omega, ?_⟩
  · rw [← hW1, hrc]; exact run_enterLoop_outer _ _ _ _ _
  · simp only [resolve, hg]
    simp [go_sem]
  · simp [invoke, go_sem]
  · refine (backS_in (n - 1) (by omega) (w.heap.size + 1) B1 v xs hlen
      (fun k W => I k W ∧ W.heap[w.heap.size + 1]? = some (.loop (rc .ready none)) ∧ W.heap[w.heap.size]? = some (.deferred (some [])))
      (fun k W h => hM k W h.1)
      ?_ W1 ⟨hi1, hl1, hd1⟩).mono ?_
    · rintro k i x W hx hki ⟨hi, hl, hd⟩
      have hlt : w.heap.size + 1 < W.heap.size := (Array.getElem?_eq_some_iff.1 hl).1
      have hy := run_yield (P := Tryd.prog) (args := #[.int .i64 (i : Int), .string ⟨x.toArray⟩]) hl (by rw [hrc]; simp [hps])
      rw [hrc] at hy
      refine ⟨fn, _, assign, body, hy, roundIn_of_wpIn hfn (hassign _ i x W _ ?_)⟩
      refine ⟨_, run_beginRound hl (by rw [hrc]), ?_⟩
      have hl2 : (W.putObj (w.heap.size + 1) (.loop { rc .ready none with state := .busy })).heap[w.heap.size + 1]? = some (.loop { rc .ready none with state := .busy }) := World.putObj_heap_same hlt
      have hd2 : (W.putObj (w.heap.size + 1) (.loop { rc .ready none with state := .busy })).heap[w.heap.size]? = some (.deferred (some [])) := (World.putObj_heap_other (by omega)).trans hd
      have hi2 : I k (W.putObj (w.heap.size + 1) (.loop { rc .ready none with state := .busy })) := (hI k).put _ hi (by omega) hl rfl
      refine wpIn_mono (hbody _ k i x _ hx hki hi2) ?_
      rintro e a3 W3 ⟨rfl, hkp, hnext⟩
      have hl3 := hkp.same _ _ hl2 rfl
      have hd3 := hkp.same _ _ hd2 rfl
      have hend := run_endRound (P := Tryd.prog) none hl3
      have hl4 : (W3.putObj (w.heap.size + 1) (.loop (rc .ready none))).heap[w.heap.size + 1]? = some (.loop (rc .ready none)) := World.putObj_heap_same (Array.getElem?_eq_some_iff.1 hl3).1
      have hd4 : (W3.putObj (w.heap.size + 1) (.loop (rc .ready none))).heap[w.heap.size]? = some (.deferred (some [])) := (World.putObj_heap_other (by omega)).trans hd3
      refine ⟨.bool true, W3.putObj (w.heap.size + 1) (.loop (rc .ready none)), ?_, rfl, (hI _).put _ hnext (by omega) hl3 rfl, hl4, hd4⟩
      rw [hend, hrc]; rfl
    · rintro e W2 ⟨⟨v, rfl⟩, hi, hl, hd⟩
      refine ⟨none, _, ?_, hdone _ (W2.putObj (w.heap.size + 1) (.loop { rc .ready none with state := .exhausted })) (Nat.le_refl _) ((hI _).put _ hi (by omega) hl rfl) ((World.putObj_heap_other (by omega)).trans hd)⟩
      have := run_endLoop (P := Tryd.prog) hl (by rw [hrc]; simp)
      rw [this, hrc]
set_option maxRecDepth 100000 in
set_option maxHeartbeats 2000000 in
theorem backD_in (n : Nat) (hn : 1 ≤ n) (l B1 : Nat) (v : Value) (xs : List (List UInt8 × Bool)) (hlen : xs.length ≤ 1000000) (J : Nat → World → Prop)
    (hM : ∀ k W, J k W → W.cell? ⟨B1, 0, none⟩ = some v ∧ SlD W v xs)
    (hY : ∀ k i x W, xs[i]? = some x → k + i + 1 = xs.length → J k W → YieldAt Fence.wide (n - 1) Tryd.prog l #[.int .i64 (i : Int), .agg #[.string ⟨x.1.toArray⟩, .bool x.2]] W fun e W' => e = .returned (.bool true) ∧ J (k + 1) W')
    (W : World) (h0 : J 0 W) :
    CallsIn Fence.wide n Tryd.prog 57 #[.func (.yield l) #[] #[], .pointer (some ⟨B1, 0, none⟩)] W fun e W' => (∃ v, e = .returned v) ∧ J xs.length W' := by
  have HM := Lib.hid hM
  have HY := Lib.hid hY
  have H0 := Lib.hid h0
  obtain ⟨c1, hv⟩ := hM 0 W h0
  obtain ⟨A, c, rfl⟩ := hv.slice
  obtain ⟨m, hm⟩ : ∃ m, xs.length = m := ⟨_, rfl⟩
  rw [hm] at hlen c1 HM HY ⊢
  have HL := Lib.hid hm
  clear hM hY h0 hv hm
  refine callsIn_of_wp Tryd.func57 rfl trivial ?_ rfl
  simp only [Tryd.ntmps57, List.size_toArray, List.length_cons, List.length_nil, Nat.reduceAdd, Nat.reduceSub, Array.replicate_succ, Array.replicate_zero, List.push_toArray, List.append_toArray, List.nil_append, List.cons_append]
  gi_wp2
  gi_loopw [3] (fun iv wr => ∃ k : Nat, k ≤ m ∧ iv = .int .i64 ((m : Int) - 1 - (k : Int)) ∧ Hid (J k wr)) (fun i _ => (RowKit.intOf i + 1).toNat)
  case atStart => exact ⟨0, by omega, by congr 1; omega, H0⟩
  case round =>
    obtain ⟨k, hk, rfl, HJ⟩ := hrel
    obtain ⟨d1, hv⟩ := HM.out k wr HJ.out
    by_cases hk2 : k < m
    · obtain ⟨i, hi⟩ : ∃ i, m - 1 - k = i := ⟨_, rfl⟩
      obtain ⟨x, hx⟩ : ∃ x, xs[i]? = some x := ⟨_, List.getElem?_eq_getElem (by rw [HL.out]; omega)⟩
      rw [show (m : Int) - 1 - (k : Int) = (i : Int) by omega]
      obtain ⟨b, o, hA, hlt, hcx⟩ := hv.get hx
      subst hA
      have him : i < m := by omega
      have hc0 := hcx.1
      have hc1 := hcx.2
      obtain ⟨fn, tmps, assign, body, hy, hR⟩ := HY.out k i x wr hx (by omega) HJ.out
      have HR := Lib.hid hR
      have HI := Lib.hid hi
      clear hR hx hi hv hcx hlt c1 HJ
      gi_wp2
      refine HR.out.mono ?_
      rintro e W' ⟨rfl, hnext⟩
      have HN2 := Lib.hid hnext
      clear hnext d1 hy
      gi_wp2
      go_roundw
      case rel => exact ⟨k + 1, by omega, by have := HI.out; congr 1; omega, HN2⟩
      case measure => have := HI.out; simp [RowKit.intOf]
    · have hkm : k = m := by omega
      subst hkm
      rw [show (k : Int) - 1 - (k : Int) = -1 by omega]
      clear hv d1 c1
      gi_wp2
      go_end0
      exact ⟨⟨_, rfl⟩, HJ.out⟩
theorem range_backD {g : Operand} {ps : Array Tmp} {assign body : Code} {Q : Exit → Act → World → Prop} {a : Act} {w : World} {n B1 : Nat} {v : Value} {xs : List (List UInt8 × Bool)} (hn : 3 ≤ n) (hlen : xs.length ≤ 1000000)
    (hg : a.eval g = .func (.func 57) #[] #[.pointer (some ⟨B1, 0, none⟩)]) (hps : ps.size = 2)
    (I : Nat → World → Prop) (hI : ∀ k, CalmD w.heap.size (I k))
    (hM : ∀ k W, I k W → W.cell? ⟨B1, 0, none⟩ = some v ∧ SlD W v xs)
    (h0 : I 0 w) (a₁ : Nat → List UInt8 × Bool → Act)
    (hassign : ∀ (l i : Nat) (x : List UInt8 × Bool) (W : World) (K : Act → World → Prop), K (a₁ i x) W →
      assign.wpIn (Fence.wide.inRound l) (n - 1 - 1) Tryd.prog (Exit.then K (fun _ _ _ => False)) { tmps := (ps.zip #[.int .i64 (i : Int), .agg #[.string ⟨x.1.toArray⟩, .bool x.2]]).foldl (fun t (p, v) => t.setIfInBounds p v) a.tmps, defers := [] } W)
    (hbody : ∀ (l k i : Nat) (x : List UInt8 × Bool) (W : World), xs[i]? = some x → k + i + 1 = xs.length → I k W →
      body.wpIn (Fence.wide.inRound l) (n - 1 - 1) Tryd.prog (fun e _ W' => e = .normal ∧ KeepsOthers W W' ∧ I (k + 1) W') (a₁ i x) W)
    (hdone : ∀ (D : Nat) (W : World), w.heap.size ≤ D → I xs.length W → W.heap[D]? = some (.deferred (some [])) → Q .normal { a with defers := { target := .collected D, args := #[] } :: a.defers } W) :
    (Code.rangeFunc g ps assign body).wpIn Fence.wide n Tryd.prog Q a w := by
  refine wpIn_rangeFunc (fun fn hfn => ?_)
  obtain ⟨rc, hrc⟩ : ∃ rc : LoopState → Option Code → Loop, rc = fun st pe => { state := st, pending := pe, fn, tmps := a.tmps, params := ps, assign, body, defers := w.heap.size } := ⟨_, rfl⟩
  obtain ⟨W1, hW1⟩ : ∃ W1, (w.alloc (.deferred (some []))).alloc (.loop (rc .ready none)) = W1 := ⟨_, rfl⟩
  have hl1 : W1.heap[w.heap.size + 1]? = some (.loop (rc .ready none)) := by
    rw [← hW1]; have := World.alloc_heap_new (w.alloc (.deferred (some []))) (.loop (rc .ready none)); rwa [World.size_alloc] at this
  have hd1 : W1.heap[w.heap.size]? = some (.deferred (some [])) := by
    rw [← hW1]; exact (Below.heap_alloc _ _ _ (by simp)).trans (World.alloc_heap_new w _)
  have hi1 : I 0 W1 := by rw [← hW1]; exact (hI 0).alloc _ ((hI 0).alloc _ h0)
  refine ⟨w.heap.size + 1, [{ target := .collected w.heap.size, args := #[] }], W1, { target := .fn (.func 57) #[.pointer (some ⟨B1, 0, none⟩)], args := #[.func (.yield (w.heap.size + 1)) #[] #[]] }, W1,
    57, #[.func (.yield (w.heap.size + 1)) #[] #[], .pointer (some ⟨B1, 0, none⟩)], W1, ?_, ?_, fun _ _ => trivial, ?_, fun _ => by omega, ?_⟩
  · rw [← hW1, hrc]; exact run_enterLoop_outer _ _ _ _ _
  · simp only [resolve, hg]
    simp [go_sem]
  · simp [invoke, go_sem]
  · refine (backD_in (n - 1) (by omega) (w.heap.size + 1) B1 v xs hlen
      (fun k W => I k W ∧ W.heap[w.heap.size + 1]? = some (.loop (rc .ready none)) ∧ W.heap[w.heap.size]? = some (.deferred (some [])))
      (fun k W h => hM k W h.1)
      ?_ W1 ⟨hi1, hl1, hd1⟩).mono ?_
    · rintro k i x W hx hki ⟨hi, hl, hd⟩
      have hlt : w.heap.size + 1 < W.heap.size := (Array.getElem?_eq_some_iff.1 hl).1
      have hy := run_yield (P := Tryd.prog) (args := #[.int .i64 (i : Int), .agg #[.string ⟨x.1.toArray⟩, .bool x.2]]) hl (by rw [hrc]; simp [hps])
      rw [hrc] at hy
      refine ⟨fn, _, assign, body, hy, roundIn_of_wpIn hfn (hassign _ i x W _ ?_)⟩
      refine ⟨_, run_beginRound hl (by rw [hrc]), ?_⟩
      have hl2 : (W.putObj (w.heap.size + 1) (.loop { rc .ready none with state := .busy })).heap[w.heap.size + 1]? = some (.loop { rc .ready none with state := .busy }) := World.putObj_heap_same hlt
      have hd2 : (W.putObj (w.heap.size + 1) (.loop { rc .ready none with state := .busy })).heap[w.heap.size]? = some (.deferred (some [])) := (World.putObj_heap_other (by omega)).trans hd
      have hi2 : I k (W.putObj (w.heap.size + 1) (.loop { rc .ready none with state := .busy })) := (hI k).put _ hi (by omega) hl rfl
      refine wpIn_mono (hbody _ k i x _ hx hki hi2) ?_
      rintro e a3 W3 ⟨rfl, hkp, hnext⟩
      have hl3 := hkp.same _ _ hl2 rfl
      have hd3 := hkp.same _ _ hd2 rfl
      have hend := run_endRound (P := Tryd.prog) none hl3
      have hl4 : (W3.putObj (w.heap.size + 1) (.loop (rc .ready none))).heap[w.heap.size + 1]? = some (.loop (rc .ready none)) := World.putObj_heap_same (Array.getElem?_eq_some_iff.1 hl3).1
      have hd4 : (W3.putObj (w.heap.size + 1) (.loop (rc .ready none))).heap[w.heap.size]? = some (.deferred (some [])) := (World.putObj_heap_other (by omega)).trans hd3
      refine ⟨.bool true, W3.putObj (w.heap.size + 1) (.loop (rc .ready none)), ?_, rfl, (hI _).put _ hnext (by omega) hl3 rfl, hl4, hd4⟩
      rw [hend, hrc]; rfl
    · rintro e W2 ⟨⟨v, rfl⟩, hi, hl, hd⟩
      refine ⟨none, _, ?_, hdone _ (W2.putObj (w.heap.size + 1) (.loop { rc .ready none with state := .exhausted })) (Nat.le_refl _) ((hI _).put _ hi (by omega) hl rfl) ((World.putObj_heap_other (by omega)).trans hd)⟩
      have := run_endLoop (P := Tryd.prog) hl (by rw [hrc]; simp)
      rw [this, hrc]
theorem backS_any (A : Option Addr) (n c : Nat) (w : World) :
    Calls Tryd.prog 41 #[.slice A n c] w fun e w' => e = .returned (.func (.func 54) #[] #[.pointer (some ⟨w.heap.size, 0, none⟩)]) ∧ w.alloc (.cells #[.slice A n c] 22) = w' := by
  go_enter Tryd.func41, Tryd.ntmps41
  go_wp2_with fail
  go_ret
  exact ⟨rfl, rfl⟩
theorem backD_any (A : Option Addr) (n c : Nat) (w : World) :
    Calls Tryd.prog 44 #[.slice A n c] w fun e w' => e = .returned (.func (.func 57) #[] #[.pointer (some ⟨w.heap.size, 0, none⟩)]) ∧ w.alloc (.cells #[.slice A n c] 53) = w' := by
  go_enter Tryd.func44, Tryd.ntmps44
  go_wp2_with fail
  go_ret
  exact ⟨rfl, rfl⟩
end Go.Proofs.YtgmdjbhclihflaaDoor
