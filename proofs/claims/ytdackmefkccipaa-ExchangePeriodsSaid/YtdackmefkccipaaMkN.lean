/- royaltylaw16.sane: the fixed calls answer as they must. -/
import Derived.Test.YtdackmefkccipaaMkM
import Derived.Test.YtdackmefkccipaaExO
import Derived.Test.YtdackmefkccipaaExK
import Derived.Test.YtdackmefkccipaaExH
namespace Go.Proofs.Ytdackmefkccipaa
open Go Go.RowKit Go.Lib Go.Shelf

def Stop (p : Prop) : Prop := p
theorem wpList_stop {P : Program} {ops : Array Oper} {o : Oper} {rest : List Oper} {Q : Exit → Act → World → Prop} {a : Act} {w : World} (h : Stop (wpList P ops Q (o :: rest) a w)) : wpList P ops Q (o :: rest) a w := h
theorem revenue_any (B : BaseV) (t p : Int) (fs rates : List FactV) (w : World) (hn1 : fs.length ≤ 140737488351232) (hn : rates.length ≤ 140737488351232) (hf : FactsAt w (B.l 4) fs) (hv : FactsAt w (B.l 6) rates) (hok : FactsOk rates) (hok1 : FactsOk fs) :
    Calls Try.prog 12 #[.agg B.cells, .int .i64 t, .int .i64 p] w fun e w' => e = .returned (.int .i64 (revSpec fs rates t p)) ∧ Below w.heap.size w w' :=
  (revenue_in B t p fs rates w hn1 hn hf hv hok hok1).calls fun _ => room_wide _
theorem subs_any (B : BaseV) (t p : Int) (fs rates : List FactV) (w : World) (hn1 : fs.length ≤ 1000000) (hn : rates.length ≤ 140737488351232) (hf : FactsAt w (B.l 5) fs) (hv : FactsAt w (B.l 6) rates) (hok : FactsOk rates) (hok1 : FactsOk fs) :
    Calls Try.prog 15 #[.agg B.cells, .int .i64 t, .int .i64 p] w (SubEnd w (subSpec fs rates t p)) :=
  (subs_in B t p fs rates w hn1 hn hf hv hok hok1).calls fun _ => room_wide _
theorem FactsAt.of_row {w : World} {g : Nat} {cs : Array Value} {t : TypeId} {fr : Nat × Nat} {fs : List FactV} {n c : Nat} (hg : w.heap[g]? = some (.cells cs t fr)) (hc : cs.toList = fCells fs) (hn : n = fs.length) : FactsAt w (.slice (some ⟨g, 0, none⟩) n c) fs := by
  refine .inr ⟨g, 0, c, by rw [hn], (Array.getElem?_eq_some_iff.1 hg).1, fun i f hi j x hx => ?_⟩
  rw [cell_of_row _ _ _ _ _ _ hg, Nat.zero_add, ← Array.getElem?_toList, hc]
  exact fCells_get fs i f hi j x hx
theorem load_baseG {ops : Array Oper} {rest : List Oper} {o : Oper} {a : Act} {w : World} {Q : Exit → Act → World → Prop} (x : Operand) (g : Nat) (B : BaseV) (hg : w.heap[g]? = some (.cells B.cells 26 (0, 0)))
    (hw : Region.wanted o (yielded ops a.tmps) = true) (ho : o.op = .load 26 x) (hx : a.eval x = .pointer (some ⟨g, 0, none⟩))
    (h : wpList Try.prog ops Q rest (a.put o.dst (.agg B.cells)) w) : wpList Try.prog ops Q (o :: rest) a w :=
  wpList_step fun K hK => by rw [if_pos hw]; exact wp_load_at 26 x ho g 0 hx B.cells _ (row_cells hg) Try.underlying26 rfl base_size (hK _ _ h)

def saneRates : List FactV := [⟨fun j => match j with | 3 => 7 | 13 => 500000 | 15 => 3 | _ => 0, ⟨#[]⟩⟩, ⟨fun j => match j with | 3 => 8 | 13 => 2000000 | 15 => 3 | _ => 0, ⟨#[]⟩⟩]
def saneRevs : List FactV := [⟨fun j => match j with | 3 => 7 | 8 => 2 | 13 => 100 | 15 => 3 | _ => 0, ⟨#[]⟩⟩, ⟨fun j => match j with | 3 => 7 | 8 => 2 | 13 => 30 | _ => 0, ⟨#[]⟩⟩, ⟨fun j => match j with | 3 => 7 | 8 => 2 | 13 => 9 | 15 => 4 | _ => 0, ⟨#[]⟩⟩]
def saneSubs : List FactV := [⟨fun j => match j with | 3 => 7 | 5 => 5 | 8 => 2 | 13 => 11 | 15 => 3 | _ => 0, ⟨#[]⟩⟩]
theorem sane1 : convSpec saneRates 101 3 7 = (50, true) := by decide
theorem sane2 : convSpec saneRates 100 3 8 = (200, true) := by decide
theorem sane3 : convSpec saneRates 100 3 9 = (0, false) := by decide
theorem sane4 : convSpec saneRates 100 0 9 = (100, true) := by decide
theorem sane5 : revSpec saneRevs saneRates 2 7 = 80 := by decide
theorem sane6 : subSpec saneSubs saneRates 2 7 = [(5, 5)] := by decide
theorem sane7 : revSpec saneRevs saneRates 2 8 = 0 := by decide
theorem ok_of {f : FactV} (h : ∀ j, -9223372036854775808 ≤ f.n j ∧ f.n j ≤ 9223372036854775807) {l : List FactV} (hl : FactsOk l) : FactsOk (f :: l) := by
  intro g hg
  rcases List.mem_cons.1 hg with rfl | h'
  · exact h
  · exact hl g h'
theorem ok_nil : FactsOk [] := fun _ h => by cases h
theorem saneRates_ok : FactsOk saneRates := ok_of (by intro j; dsimp only; split <;> omega) (ok_of (by intro j; dsimp only; split <;> omega) ok_nil)
theorem saneRevs_ok : FactsOk saneRevs := ok_of (by intro j; dsimp only; split <;> omega) (ok_of (by intro j; dsimp only; split <;> omega) (ok_of (by intro j; dsimp only; split <;> omega) ok_nil))
theorem saneSubs_ok : FactsOk saneSubs := ok_of (by intro j; dsimp only; split <;> omega) ok_nil
end Go.Proofs.Ytdackmefkccipaa
