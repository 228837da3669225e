/- converter, at; the plain law of revenue. -/
import Derived.Test.YtdackmefkccipaaExF
namespace Go.Proofs.Ytdackmefkccipaa
open Go Go.RowKit Go.Lib Go.Shelf

theorem at_any (v : Value) (hv : v.oneCell' = true) (t p : Int) (w : World) :
    Calls Try.prog 23 #[v, .int .i64 t, .int .i64 p] w fun e w' =>
      e = .returned (.func (.func 33) #[] #[.pointer (some ⟨w.heap.size, 0, none⟩), .pointer (some ⟨w.heap.size + 1, 0, none⟩), .pointer (some ⟨w.heap.size + 1 + 1, 0, none⟩)]) ∧
      ((w.alloc (.cells #[v] 23)).alloc (.cells #[.int .i64 t] 3)).alloc (.cells #[.int .i64 p] 3) = w' := by
  have hc : v.cells = #[v] := by cases v <;> first | rfl | cases hv
  go_enter Try.func23, Try.ntmps23
  go_wp2
  go_ret
  exact ⟨rfl, rfl⟩

theorem converter_any (B : BaseV) (p : Int) (w : World) :
    Calls Try.prog 22 #[.agg B.cells, .int .i64 p] w fun e w' =>
      e = .returned (.func (.func 32) #[] #[.pointer (some ⟨w.heap.size, 0, none⟩), .pointer (some ⟨w.heap.size + 1, 0, none⟩)]) ∧
      (w.alloc (.cells B.cells 26)).alloc (.cells #[.int .i64 p] 3) = w' := by
  go_enter Try.func22, Try.ntmps22
  go_wp2
  go_ret
  exact ⟨rfl, rfl⟩

set_option maxRecDepth 100000 in
set_option maxHeartbeats 1000000 in
theorem converter1_any (f : FactV) (B : BaseV) (BB BP : Nat) (p : Int) (fs : List FactV) (w : World) (hn : fs.length ≤ 140737488351232) (hv : FactsAt w (B.l 6) fs) (hok : FactsOk fs) (hn1 : f.n 13 ≤ 9223372036854775807)
    (hB : w.heap[BB]? = some (.cells B.cells 26 (0, 0))) (hP : w.cell? ⟨BP, 0, none⟩ = some (.int .i64 p)) (hlt : BP < w.heap.size) :
    Calls Try.prog 32 #[.agg f.cells, .pointer (some ⟨BB, 0, none⟩), .pointer (some ⟨BP, 0, none⟩)] w fun e w' => e = .returned (.tuple #[.int .i64 (convSpec fs (f.n 13) (f.n 15) p).1, .bool (convSpec fs (f.n 13) (f.n 15) p).2]) ∧ Below w.heap.size w w' := by
  have b0 : Below w.heap.size w (w.alloc (.cells f.cells 41)) := (Below.refl _ _).alloc (Nat.le_refl _) _
  have C := convert_any B (f.n 13) (f.n 15) p fs _ hn (hv.below b0) hok hn1
  obtain ⟨⟨m, t⟩, hr⟩ : ∃ o, convSpec fs (f.n 13) (f.n 15) p = o := ⟨_, rfl⟩
  rw [hr] at C ⊢
  have g13 : f.cells[13]? = some (.int .i64 (f.n 13)) := rfl
  have g15 : f.cells[15]? = some (.int .i64 (f.n 15)) := rfl
  obtain ⟨x, hx⟩ : ∃ x, f.n 13 = x := ⟨_, rfl⟩
  obtain ⟨y, hy⟩ : ∃ x, f.n 15 = x := ⟨_, rfl⟩
  rw [hx] at g13 C
  rw [hy] at g15 C
  have HC := Lib.hid C
  have HB := Lib.hid ((Below.heap_alloc w (.cells f.cells 41) BB (Array.getElem?_eq_some_iff.1 hB).1).trans hB)
  have hP2 := (b0.cell (p := ⟨BP, 0, none⟩) hlt).trans hP
  clear C hr hx hy hn1 hv hok b0 hB hP
  go_enter Try.func32, Try.ntmps32
  go_wp2_with (refine wpList_load_row (o := ⟨some 6, _, _, _, _, _⟩) rfl 26 (.tmp 1) rfl BB rfl 26 B.cells (0, 0) _ HB.out Try.underlying26 rfl base_size ?_)
  refine (HC.out).mono ?_
  rintro e w2 ⟨rfl, hb⟩
  have HB2 := Lib.hid (((Below.refl w.heap.size w).alloc (Nat.le_refl _) _).trans (hb.mono (by simp))); clear hb
  go_wp2_with fail
  go_ret2
  exact ⟨rfl, HB2.out⟩

def revStep (rates : List FactV) (t p : Int) (s : Int) (f : FactV) : Int := if atTest t p f then (if 1000000000000000 < s + (convSpec rates (f.n 13) (f.n 15) p).1 then 1000000000000000 else s + (convSpec rates (f.n 13) (f.n 15) p).1) else s
def revSpec (fs rates : List FactV) (t p : Int) : Int := fs.foldl (revStep rates t p) 0
theorem convSpec_bd (fs : List FactV) (n c p : Int) : 0 ≤ (convSpec fs n c p).1 ∧ (convSpec fs n c p).1 ≤ 1000000000000000 ∧ ((convSpec fs n c p).2 = false → (convSpec fs n c p).1 = 0) := by
  unfold convSpec
  split
  · simp
  · split
    · simp
    · rename_i h1 h2
      have : 0 ≤ (mulDivSpec n (rateSpec fs c p).1).1 := by
        unfold mulDivSpec
        split
        · simp
        · split
          · simp
          · exact Int.natCast_nonneg _
      simp only [Bool.true_eq_false, false_implies, and_true]
      omega
theorem revTo_bd (rates : List FactV) (t p : Int) (fs : List FactV) : ∀ s, 0 ≤ s → s ≤ 1000000000000000 → 0 ≤ fs.foldl (revStep rates t p) s ∧ fs.foldl (revStep rates t p) s ≤ 1000000000000000 := by
  induction fs with
  | nil => intro s h1 h2; exact ⟨h1, h2⟩
  | cons f fs ih =>
    intro s h1 h2
    have hb := convSpec_bd rates (f.n 13) (f.n 15) p
    rw [List.foldl_cons]
    refine ih _ ?_ ?_ <;> unfold revStep <;> split
    all_goals (try split)
    all_goals omega
def revTo (fs rates : List FactV) (t p : Int) (k : Nat) : Int := (fs.take k).foldl (revStep rates t p) 0
theorem revTo_succ {fs : List FactV} {k : Nat} {f : FactV} (h : fs[k]? = some f) (rates : List FactV) (t p : Int) : revTo fs rates t p (k + 1) = revStep rates t p (revTo fs rates t p k) f := by
  unfold revTo
  obtain ⟨h1, h2⟩ := List.getElem?_eq_some_iff.1 h
  rw [List.take_succ_eq_append_getElem h1, h2, List.foldl_append]
  rfl
theorem revTo_all (fs rates : List FactV) (t p : Int) : revTo fs rates t p fs.length = revSpec fs rates t p := by
  unfold revTo revSpec; rw [List.take_length]

theorem heap_alloc_get (w : World) (o : Obj) (k : Nat) : (w.alloc o).heap[k]? = if k = w.heap.size then some o else w.heap[k]? := by
  show (w.heap.push o)[k]? = _
  rw [Array.getElem?_push]
/-- a world with new blocks, one after the other -/
def allocs (w : World) (os : List Obj) : World := os.foldl World.alloc w
theorem allocs_size (os : List Obj) : ∀ w : World, (allocs w os).heap.size = w.heap.size + os.length := by
  induction os with
  | nil => intro w; rfl
  | cons o os ih =>
    intro w
    show (allocs (w.alloc o) os).heap.size = _
    rw [ih, World.size_alloc, List.length_cons]; omega
theorem allocs_below (os : List Obj) : ∀ w : World, Below w.heap.size w (allocs w os) := by
  induction os with
  | nil => intro w; exact Below.refl _ _
  | cons o os ih =>
    intro w
    exact ((Below.refl _ w).alloc (Nat.le_refl _) o).trans ((ih (w.alloc o)).mono (by simp))
theorem allocs_get (os : List Obj) : ∀ (w : World) (i : Nat) (o : Obj), os[i]? = some o → (allocs w os).heap[w.heap.size + i]? = some o := by
  induction os with
  | nil => intro w i o h; simp at h
  | cons x os ih =>
    intro w i o h
    show (allocs (w.alloc x) os).heap[w.heap.size + i]? = _
    cases i with
    | zero =>
      simp at h
      rw [Nat.add_zero, (allocs_below os (w.alloc x)).block w.heap.size (by simp), heap_alloc_last, h]
    | succ i =>
      have := ih (w.alloc x) i o (by simpa using h)
      rw [World.size_alloc] at this
      rw [show w.heap.size + (i + 1) = w.heap.size + 1 + i by omega]
      exact this
theorem grownBy_of_below {a w : World} (h : Below a.heap.size a w) (row : Option Nat) : a.grownBy w row := ⟨h.os, h.tape, h.output, h.size, fun i hi _ => h.block i hi⟩
theorem grownBy_far {W0 W W' : World} {row : Option Nat} {r : Nat} (h : W0.grownBy W (some r)) (hg : W.grownBy W' row) (hrow : ∀ q, row = some q → q = r ∨ W0.heap.size ≤ q) : W0.grownBy W' (some r) :=
  ⟨hg.os.trans h.os, hg.tape.trans h.tape, hg.output.trans h.output, Nat.le_trans h.size hg.size, fun i hi hne => by
    rw [hg.block i (Nat.lt_of_lt_of_le hi h.size) (fun e => by
      rcases hrow i e.symm with h1 | h1
      · exact hne (by rw [h1])
      · omega), h.block i hi hne]⟩
theorem keepsOthers_below {W W' : World} (h : Below W.heap.size W W') : KeepsOthers W W' := KeepsOthers.of_grownBy (grownBy_of_below h none) (fun j o e _ => by cases e)
end Go.Proofs.Ytdackmefkccipaa
