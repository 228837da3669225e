/- A region that draws its order, walked by hand: takes, calls, and a struct's load. -/
import Derived.Test.YtdackmefkccipaaMkA
import Derived.Test.YtdackmefkccipaaExN
import Derived.Deep.RegionHeld3
namespace Go.Proofs.Ytdackmefkccipaa
open Go Go.RowKit Go.Lib Go.Shelf

theorem yieldsIf_load_row {P : Program} {ops : Array Oper} {S : World → Prop} {o : Oper} {a : Act} (ty : TypeId) (x : Operand) (b : Nat) (cs : Array Value) (d : TypeDesc) (hc : ∀ w, S w → ∀ j v, cs[j]? = some v → w.cell? ⟨b, 0 + j, none⟩ = some v)
    (hu : P.underlying ty = some d) (hw : Region.wanted o (yielded ops a.tmps) = true) (ho : o.op = .load ty x) (hx : a.eval x = .pointer (some ⟨b, 0, none⟩)) (hd : (match d with | .struct _ | .array _ _ => true | _ => false) = true) (hi : (P.info? ty).map (·.size) = some cs.size) :
    YieldsIf P ops S o (.agg cs) a := by
  refine Or.inl ⟨hw, fun w h => ?_⟩
  simp only [execOp, ho, hx, Instr.loadAt, Instr.sureAddr, Sem.run_bind, Sem.run_pure, Result.andThen_ok, run_loadVar_at w b 0 ty cs d (hc w h) hu hd hi]

/-- Two blocks that stand while the region runs. -/
structure Held2 (n m : Nat) (c d : Array Value) (w : World) : Prop where
  l : w.heap[n]? = some (.cells c 41 (0, 0))
  r : w.heap[m]? = some (.cells d 41 (0, 0))

theorem Held2.setRow {n m k : Nat} {c d e : Array Value} {w : World} (h : Held2 n m c d w) (hn : n ≠ k) (hm : m ≠ k) : Held2 n m c d (w.setRow k e) := ⟨by rw [Go.setRow_other _ _ _ _ hn]; exact h.l, by rw [Go.setRow_other _ _ _ _ hm]; exact h.r⟩

end Go.Proofs.Ytdackmefkccipaa
