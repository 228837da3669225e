/- The settlement in memory; take. -/
import Derived.Test.YtejkgnlflhngbaaTmB
import Derived.Test.YtejkgnlflhngbaaExM
import Derived.Maps.OwnSet
namespace Go.Proofs.Ytejkgnlflhngbaa
open Go Go.RowKit Go.Lib Go.Shelf Go.Maps

def p2 (x : Int × Int) : List Int := [x.1, x.2]
def p3 (x : Int × Int × Int) : List Int := [x.1, x.2.1, x.2.2]
/-- the cells of a term; its accounts' slice is va -/
def termC (t : TermV) (va : Value) : Array Value := #[.int .i64 t.k, .int .i64 t.n, .int .i64 t.m, .int .i64 t.ab, va]
/-- the cells of a settlement -/
def setC (R : RowV) (S : StV) (vp vr vb vm : Value) : Array Value :=
  #[.int .i64 R.h, .int .i64 R.p, .int .i64 R.e, .int .i64 R.rc, .int .i64 R.rl, .int .i64 R.b, .int .i64 S.pa, .int .i64 S.ta, .int .i64 S.re, .int .i64 S.ro, .int .i64 0, .int .i64 S.ca, .int .i64 S.left, vp, vr, vb, vm]
/-- v is a slice of integers that reads as l -/
def IntsL (w : World) (v : Value) (l : List Int) : Prop :=
  (l = [] ∧ ∃ A c, v = .slice A 0 c) ∨ ∃ b o c, v = .slice (some ⟨b, o, none⟩) l.length c ∧ b < w.heap.size ∧ ∀ (i : Nat) x, l[i]? = some x → w.cell? ⟨b, o + i, none⟩ = some (.int .i64 x)
theorem IntsL.below {w w' : World} {v : Value} {l : List Int} (h : IntsL w v l) (hb : Below w.heap.size w w') : IntsL w' v l := by
  rcases h with h0 | ⟨b, o, c, hv, hlt, hc⟩
  · exact .inl h0
  · exact .inr ⟨b, o, c, hv, Nat.lt_of_lt_of_le hlt hb.size, fun i x hx => (hb.cell (p := ⟨b, o + i, none⟩) hlt).trans (hc i x hx)⟩
theorem IntsL.slice {w : World} {v : Value} {l : List Int} (h : IntsL w v l) : ∃ A c, v = .slice A l.length c := by
  rcases h with ⟨rfl, A, c, rfl⟩ | ⟨b, o, c, rfl, _⟩
  · exact ⟨A, c, rfl⟩
  · exact ⟨_, c, rfl⟩
/-- only the block nb has turned -/
structure Only (nb : Nat) (w w' : World) : Prop where
  below : Below nb w w'
  size : w'.heap.size = w.heap.size
  other : ∀ g, g ≠ nb → w'.heap[g]? = w.heap[g]?
theorem OwnI.ne_row {T T' : TypeId} {k : Nat} {w : World} {base nb : Nat} {v : Value} {L : List (List Int)} {cs : Array Value} (h : OwnI T k w base v L) (hT : T ≠ T') (hr : RowAt w nb T' cs) : ∀ g, v.ownBlock = some g → g ≠ nb := by
  intro g hg e
  subst e
  rcases h.2.2 with ⟨rfl, _⟩ | ⟨g', cap, cur, rfl, _, hh, _⟩
  · simp [Value.ownBlock] at hg
  · simp [Value.ownBlock] at hg
    subst hg
    unfold RowAt at hr
    rw [hr] at hh
    simp at hh
    exact hT hh.2.symm
theorem OwnI.ne {T T' : TypeId} {k k' : Nat} {w : World} {base base' : Nat} {v v' : Value} {L L' : List (List Int)} (h : OwnI T k w base v L) (h' : OwnI T' k' w base' v' L') (hT : T ≠ T') : ∀ g, v.ownBlock = some g → v'.ownBlock ≠ some g := by
  intro g hg hg'
  rcases h.2.2 with ⟨rfl, _⟩ | ⟨g1, cap, cur, rfl, _, hh, _⟩
  · simp [Value.ownBlock] at hg
  · rcases h'.2.2 with ⟨rfl, _⟩ | ⟨g2, cap', cur', rfl, _, hh', _⟩
    · simp [Value.ownBlock] at hg'
    · simp [Value.ownBlock] at hg hg'
      subst hg hg'
      rw [hh] at hh'
      simp at hh'
      exact hT hh'.2
/-- the map of the first index of each account -/
def FirstMap (w : World) (mb : Nat) (bs : List (Int × Int)) : Prop :=
  ∃ (n : Nat) (D : DataW Unit), n ≤ bs.length ∧ w.ownsMap Try.prog 3 (plainElem Try.prog 3) mb n D ∧
    ∀ a, (-9223372036854775808 ≤ a ∧ a ≤ 9223372036854775807) → Maps.has D (.int .i64 a) = (findB bs a).isSome ∧ ∀ i, findB bs a = some i → D.atKey (.int .i64 a) (.lit (.int .i64 0)) = .lit (.int .i64 i)
/-- a settlement in block nb, with its lists in blocks of their own from B on -/
structure SetAt (B : Nat) (w : World) (nb mb : Nat) (R : RowV) (S : StV) (vp vr vb : Value) : Prop where
  hB : B ≤ nb
  row : RowAt w nb 59 (setC R S vp vr vb (.map (some mb)))
  ps : OwnI 42 2 w B vp (S.ps.map p2)
  rs : OwnI 44 3 w B vr (S.rs.map p3)
  bs : OwnI 46 2 w B vb (S.bs.map p2)
  map : FirstMap w mb S.bs

set_option maxHeartbeats 1000000 in
theorem take_any (nb k : Nat) (x l z : Int) (cs : Array Value) (w : World) (hr : RowAt w nb 59 cs) (hl : cs[12]? = some (.int .i64 l)) (hz : cs[k]? = some (.int .i64 z)) (hk : k ≠ 12)
    (h1 : -9223372036854775808 ≤ l - x) (h2 : l - x ≤ 9223372036854775807) (h3 : -9223372036854775808 ≤ z + x) (h4 : z + x ≤ 9223372036854775807) :
    Calls Try.prog 50 #[.pointer (some ⟨nb, 0, none⟩), .int .i64 x, .pointer (some ⟨nb, k, none⟩)] w fun e w' => e = .returned (.int .i64 x) ∧ RowAt w' nb 59 ((cs.setIfInBounds 12 (.int .i64 (l - x))).setIfInBounds k (.int .i64 (z + x))) ∧ Only nb w w' := by
  have c1 : w.cell? ⟨nb, 12, none⟩ = some (.int .i64 l) := by rw [hr.cell 12]; exact hl
  have f1 : w.frozen? ⟨nb, 12, none⟩ = false := hr.free 12
  obtain ⟨y, hy⟩ : ∃ y, l - x = y := ⟨_, rfl⟩
  have wy : IntKind.i64.wrap (l - x) = y := by rw [hy]; exact IntWalk.i64_in _ (by omega)
  rw [hy]
  have hr2 := hr.set 12 (.int .i64 y)
  obtain ⟨w2, hw2⟩ : ∃ w2, w.setCell ⟨nb, 12, none⟩ (.int .i64 y) = w2 := ⟨_, rfl⟩
  have b2 : Below nb w w2 := by rw [← hw2]; exact (Below.refl _ _).setCell (p := ⟨nb, 12, none⟩) (Nat.le_refl _) _
  have o2 : ∀ g, g ≠ nb → w2.heap[g]? = w.heap[g]? := fun g hg => by rw [← hw2]; exact Below.heap_setCell _ _ _ _ hg
  have s2 : w2.heap.size = w.heap.size := by rw [← hw2]; simp [World.setCell]
  rw [hw2] at hr2
  have c2 : w2.cell? ⟨nb, k, none⟩ = some (.int .i64 z) := by
    rw [hr2.cell k, Array.getElem?_setIfInBounds]
    rw [if_neg (by omega)]
    exact hz
  have f2 : w2.frozen? ⟨nb, k, none⟩ = false := hr2.free k
  obtain ⟨u, hu⟩ : ∃ u, z + x = u := ⟨_, rfl⟩
  have wu : IntKind.i64.wrap (z + x) = u := by rw [hu]; exact IntWalk.i64_in _ (by omega)
  rw [hu]
  have HR2 := Lib.hid hr2
  have HB2 := Lib.hid b2
  have HO2 := Lib.hid o2
  have HS2 := Lib.hid s2
  clear hr hr2 b2 o2 s2 hl hz hy hu h1 h2 h3 h4
  go_enter Try.func50, Try.ntmps50
  go_wp2_with fail
  go_ret
  refine ⟨rfl, ?_, ?_, ?_, ?_⟩
  · exact HR2.out.set k _
  · exact HB2.out.setCell (p := ⟨nb, k, none⟩) (Nat.le_refl _) _
  · rw [show (w2.setCell ⟨nb, k, none⟩ (.int .i64 u)).heap.size = w2.heap.size by simp [World.setCell]]; exact HS2.out
  · intro g hg
    rw [Below.heap_setCell _ _ _ _ hg]
    exact HO2.out g hg
end Go.Proofs.Ytejkgnlflhngbaa
