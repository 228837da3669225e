/- Facts and bases loaded and stored: the arms of a walk. -/
import Derived.Test.YtdackmefkccipaaExG
namespace Go.Proofs.Ytdackmefkccipaa
open Go Go.RowKit Go.Lib Go.Shelf

theorem load_fact {ops : Array Oper} {rest : List Oper} {o : Oper} {a : Act} {w : World} {Q : Exit → Act → World → Prop} (x : Operand) (b off : Nat) (f : FactV) (hc : ∀ j v, f.cells[j]? = some v → w.cell? ⟨b, off + j, none⟩ = some v)
    (hgd : o.guard = none) (ho : o.op = .load 41 x) (hx : a.eval x = .pointer (some ⟨b, off, none⟩))
    (h : wpList Try.prog ops Q rest (a.put o.dst (.agg f.cells)) w) : wpList Try.prog ops Q (o :: rest) a w :=
  wpList_load_at hgd _ x ho b off hx f.cells _ hc Try.underlying41 rfl fact_size h
theorem store_fact {ops : Array Oper} {rest : List Oper} {o : Oper} {a : Act} {w : World} {Q : Exit → Act → World → Prop} (x y : Operand) (f : FactV) (c : Array Value)
    (hgd : o.guard = none) (ho : o.op = .store 41 x y) (hx : a.eval x = .pointer (some ⟨w.heap.size, 0, none⟩)) (hy : a.eval y = .agg f.cells) (hs : c.size = 18)
    (h : wpList Try.prog ops Q rest (a.put o.dst undef) (w.alloc (.cells f.cells 41))) : wpList Try.prog ops Q (o :: rest) a (w.alloc (.cells c 41)) :=
  wpList_store_new hgd _ x y ho hx c f.cells hy fact_size hs f.cells_one h
theorem load_base {ops : Array Oper} {rest : List Oper} {o : Oper} {a : Act} {w : World} {Q : Exit → Act → World → Prop} (x : Operand) (g : Nat) (B : BaseV) (hg : w.heap[g]? = some (.cells B.cells 26 (0, 0)))
    (hgd : o.guard = none) (ho : o.op = .load 26 x) (hx : a.eval x = .pointer (some ⟨g, 0, none⟩))
    (h : wpList Try.prog ops Q rest (a.put o.dst (.agg B.cells)) w) : wpList Try.prog ops Q (o :: rest) a w :=
  wpList_load_at hgd _ x ho g 0 hx B.cells _ (row_cells hg) Try.underlying26 rfl base_size h
theorem store_base {ops : Array Oper} {rest : List Oper} {o : Oper} {a : Act} {w : World} {Q : Exit → Act → World → Prop} (x y : Operand) (B : BaseV) (c : Array Value)
    (hgd : o.guard = none) (ho : o.op = .store 26 x y) (hx : a.eval x = .pointer (some ⟨w.heap.size, 0, none⟩)) (hy : a.eval y = .agg B.cells) (hs : c.size = 10)
    (hone : B.cells.all (·.oneCell') = true) (h : wpList Try.prog ops Q rest (a.put o.dst undef) (w.alloc (.cells B.cells 26))) : wpList Try.prog ops Q (o :: rest) a (w.alloc (.cells c 26)) :=
  wpList_store_new hgd _ x y ho hx c B.cells hy base_size hs hone h
end Go.Proofs.Ytdackmefkccipaa
