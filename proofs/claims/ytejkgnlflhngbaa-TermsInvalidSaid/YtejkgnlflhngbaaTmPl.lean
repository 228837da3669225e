/- What Settle answers is balanced; a slice's room, its count; a wanted load. -/
import Derived.Test.YtejkgnlflhngbaaTmZ
namespace Go.Proofs.Ytejkgnlflhngbaa
open Go Go.RowKit Go.Lib Go.Shelf Go.Maps

theorem bal_settle {R : RowV} (h : openR R = true) (l : List TermV) (bs : List (Int × Int)) :
    balB R (settleSpec l R bs).pa (settleSpec l R bs).ta (settleSpec l R bs).re (settleSpec l R bs).ro (settleSpec l R bs).pd (settleSpec l R bs).ca = true := by
  have hg : GoodS R.sum (runS l R bs) := GoodS.run R.h R.p l (good_start h bs)
  have ho := openR_iff.1 h
  unfold settleSpec
  rw [if_pos h]
  dsimp only
  obtain ⟨S, hS⟩ : ∃ z, runS l R bs = z := ⟨_, rfl⟩
  rw [hS] at hg ⊢
  have h1 := hg.l0
  have h2 := hg.p0
  have h3 := hg.t0
  have h4 := hg.r0
  have h5 := hg.o0
  have h6 := hg.c0
  have h7 := hg.sum
  have hs : R.sum = R.e + R.rc + R.rl + R.b := rfl
  have hd : paidOf S + carriedOf S = S.left + S.ca := by unfold paidOf carriedOf; omega
  have hd1 : 0 ≤ paidOf S := by unfold paidOf; omega
  have hd2 : 0 ≤ carriedOf S := by unfold carriedOf; omega
  unfold balB
  simp only [List.all_cons, List.all_nil, Bool.and_true, Bool.and_eq_true, okN_iff, beq_iff_eq]
  omega
theorem settle_closed {R : RowV} (h : openR R = false) (l : List TermV) (bs : List (Int × Int)) : settleSpec l R bs = ⟨0, 0, 0, 0, 0, 0, [], [], bs⟩ := by
  unfold settleSpec
  rw [if_neg (by rw [h]; decide)]
/-- a slice of n structs of k cells in a block of its own, whatever it holds -/
def Room (T : TypeId) (k : Nat) (w : World) (base : Nat) (v : Value) (n : Nat) : Prop :=
  n = 0 ∨ ∃ g cur c, v = .slice (some ⟨g, 0, none⟩) n c ∧ base ≤ g ∧ w.heap[g]? = some (.cells cur T (0, 0)) ∧ n * k ≤ cur.size
theorem wpList_load_want {P : Program} {ops : Array Oper} {rest : List Oper} {o : Oper} {a : Act} {w : World} {Q : Exit → Act → World → Prop} (hw : Region.wanted o (yielded ops a.tmps) = true) (ty : TypeId) (x : Operand) (ho : o.op = .load ty x)
    (b off : Nat) (hx : a.eval x = .pointer (some ⟨b, off, none⟩)) (cs : Array Value) (d : TypeDesc) (hc : ∀ j v, cs[j]? = some v → w.cell? ⟨b, off + j, none⟩ = some v)
    (hu : P.underlying ty = some d) (hd : (match d with | .struct _ | .array _ _ => true | _ => false) = true) (hi : (P.info? ty).map (·.size) = some cs.size)
    (h : wpList P ops Q rest (a.put o.dst (.agg cs)) w) : wpList P ops Q (o :: rest) a w :=
  BigFrame.wpList_want hw fun _ hK => wp_load_at ty x ho b off hx cs d hc hu hd hi (hK _ _ h)
theorem OwnI.room {T : TypeId} {k : Nat} {w : World} {base : Nat} {v : Value} {L : List (List Int)} (h : OwnI T k w base v L) : Room T k w base v L.length := by
  rcases h.2.2 with ⟨_, h0⟩ | ⟨g, cap, cur, e, hb, hg, h1, h2, h3, h4⟩
  · exact .inl h0
  · refine .inr ⟨g, cur, cap, e, hb, hg, ?_⟩
    have h5 := Nat.mul_le_mul_right k h1
    omega
theorem OwnI.count {T : TypeId} {k : Nat} {w : World} {base : Nat} {A : Option Addr} {n c : Nat} {L : List (List Int)} (h : OwnI T k w base (.slice A n c) L) : n = L.length := by
  obtain ⟨A', c', e⟩ := h.rows.slice
  simp only [Value.slice.injEq] at e
  exact e.2.1
end Go.Proofs.Ytejkgnlflhngbaa
