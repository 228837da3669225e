/- The law's pick and Make. -/
import Derived.Test.YtgjajhopjcdflaaGreatFlD
namespace Go.Proofs.YtgjajhopjcdflaaGreat
open Go Go.RowKit Go.Lib Go.Shelf Go.Maps

def pickN (c n : Int) : Int := (if c < 0 then -(c + 1) else c) % n
theorem pickN_bd (c n : Int) (hn : 1 ≤ n) : 0 ≤ pickN c n ∧ pickN c n < n := by
  unfold pickN; exact ⟨Int.emod_nonneg _ (by omega), Int.emod_lt_of_pos _ (by omega)⟩
set_option maxHeartbeats 400000 in
theorem pick_any (c n : Int) (w : World) (h1 : -9223372036854775808 ≤ c) (h2 : c ≤ 9223372036854775807) (hn : 1 ≤ n) (hn2 : n ≤ 9223372036854775807) :
    Calls Tryz.prog 11 #[.int .i64 c, .int .i64 n] w fun e w' => e = .returned (.int .i64 (pickN c n)) ∧ w = w' := by
  by_cases hc : c < 0
  · have e : pickN c n = -(c + 1).tmod n := by
      unfold pickN; rw [if_pos hc, ← Int.neg_tmod, Int.tmod_eq_emod_of_nonneg (by omega)]
    have H := Lib.hid e; clear e
    go_enter Tryz.func11, Tryz.ntmps11
    go_wp2
    go_ret
    exact ⟨by rw [H.out]; rfl, rfl⟩
  · have e : pickN c n = c % n := by unfold pickN; rw [if_neg hc]
    have H := Lib.hid e; clear e
    go_enter Tryz.func11, Tryz.ntmps11
    go_wp2
    go_ret
    exact ⟨by rw [H.out]; rfl, rfl⟩
/-- a fact out of a list of numbers -/
def mkF (l : List Int) (t : ByteArray) : FactV := ⟨fun j => l.getD j 0, t⟩
theorem mkF_ok {l : List Int} {t : ByteArray} (h : ∀ x ∈ l, -9223372036854775808 ≤ x ∧ x ≤ 9223372036854775807) : FactOk (mkF l t) := by
  intro j
  show -9223372036854775808 ≤ l.getD j 0 ∧ l.getD j 0 ≤ 9223372036854775807
  rw [List.getD_eq_getElem?_getD]
  cases hj : l[j]? with
  | none => simp
  | some x => exact h x (List.mem_of_getElem? hj)
/-- what Make makes, by its six numbers: kind, a, b, v, n, p -/
def makeF (k a b v n p : Nat) : FactV :=
  if k = 1 then mkF [1, b, v, 0, n * 1000, 1 + n % 5, a, 1 + n % 7, p, 0, 0, 0, 0, n * 100, 0, 0, 0] ⟨#[]⟩
  else if k = 2 then mkF [2, b, v, 0, 0, 0, a, 0, 0, 0, 0, 0, 0, 0, 0, 0, 1 + n % 3] ⟨#[]⟩
  else if k = 3 then mkF [3, a, v, 0, 0, 0, 0, b, 1 + n % 255, 1 + n % 6, 1 + n % 2, p, p + 1 + n % 9, 0, n * 1000, 0, 0] ⟨#[]⟩
  else if k = 4 then mkF [4, 0, v, 0, 0, 0, 0, 0, 0, a, 0, p, 0, 0, 0, 0, 0] ((#[⟨#[]⟩, ⟨#[116, 97, 120, 32, 49, 53, 37, 10]⟩, ⟨#[112, 97, 115, 115, 32, 50, 48, 37, 32, 116, 111, 32, 51, 10]⟩, ⟨#[110, 111, 110, 115, 101, 110, 115, 101]⟩] : Array ByteArray).getD (n % 4) ⟨#[]⟩)
  else if k = 5 then mkF [5, a, v, p, 0, 0, 0, 0, b, 0, 0, 0, 0, n * 10000, 0, n % 4, 0] ⟨#[]⟩
  else if k = 6 then mkF [6, 0, v, p, 0, a, 0, 0, b, 0, 0, 0, 0, n * 1000, 0, n % 4, 0] ⟨#[]⟩
  else if k = 7 then mkF [7, 0, v, p, 0, 0, 0, 0, 0, 0, 0, 0, 0, 1 + n * 1000, 0, a, 0] ⟨#[]⟩
  else if k = 8 then mkF [8, a, v, p, 0, b, 0, 0, 0, 0, 0, 0, 0, n * 10000, 0, 0, 0] ⟨#[]⟩
  else if k = 9 then mkF [9, 0, v, 0, 0, 0, 0, 0, 0, 0, 0, p, 0, 0, 0, 0, 0] ((#[⟨#[]⟩, ⟨#[104, 111, 108, 100, 32, 105, 102, 32, 97, 99, 99, 111, 117, 110, 116, 32, 115, 116, 114, 101, 97, 109, 115, 32, 62, 32, 51, 10]⟩, ⟨#[120]⟩] : Array ByteArray).getD (n % 3) ⟨#[]⟩)
  else mkF [10, 0, v, 0, 0, 0, 0, 0, a, 0, 0, p, 0, 0, 0, 0, 1 + n % 2] ⟨#[]⟩
theorem makeF_ok (k a b v n p : Nat) (h : a ≤ 4 ∧ b ≤ 3 ∧ v ≤ 4 ∧ n < 1000 ∧ p < 4) : FactOk (makeF k a b v n p) := by
  unfold makeF
  repeat' split
  all_goals
    refine mkF_ok ?_
    intro x hx
    simp only [List.mem_cons, List.not_mem_nil, or_false] at hx
    omega
/-- the fact that the numbers x determine -/
def makeX (x : Nat → Int) : FactV := makeF (1 + (pickN (x 0) 10).toNat) (1 + (pickN (x 1) 4).toNat) (1 + (pickN (x 2) 3).toNat) (1 + (pickN (x 3) 4).toNat) (pickN (x 4) 1000).toNat (pickN (x 5) 4).toNat
def six (x : Nat → Int) : Value := .agg #[.int .i64 (x 0), .int .i64 (x 1), .int .i64 (x 2), .int .i64 (x 3), .int .i64 (x 4), .int .i64 (x 5)]
theorem fact_cells10 (W : World) (b : Nat) (cs : Array Value) (h : RowAt W b 34 cs) (hs : cs.size = 18) : (loadVar 34 ⟨b, 0, none⟩).run Tryz.prog W = .ok (.agg cs) W :=
  run_loadVar_at (P := Tryz.prog) W b 0 34 cs _ (fun j x hx => by rw [Nat.zero_add, h.cell]; exact hx) Tryz.underlying34 rfl (by rw [hs]; exact fact_size)
theorem last_row (w : World) (A : Obj) (C : Array Value) (T : TypeId) : RowAt ((w.alloc A).alloc (.cells C T)) (w.heap.size + 1) T C := by
  have h := RowAt.new (w.alloc A) T C
  simpa using h
theorem make_end {a : Act} {w : World} {A : Obj} {C : Array Value} {f : FactV} (hp : a.tmps.getD 2 undef = .pointer (some ⟨w.heap.size + 1, 0, none⟩)) (hd : a.defers = []) (hC : C = f.cells) :
    bodyPost Tryz.prog Tryz.f27 (fun e w' => e = .returned (.agg f.cells) ∧ Below w.heap.size w w') .ret a ((w.alloc A).alloc (.cells C 34)) :=
  bodyPost_ret (results_cell1 (p := 2) rfl _ _ ⟨w.heap.size + 1, 0, none⟩ _ hp (fact_cells10 _ _ _ (last_row w _ _ _) (by rw [hC]; rfl))) hd ⟨by rw [hC], ((Below.refl _ _).alloc (Nat.le_refl _) _).alloc (by simp) _⟩
theorem make_end2 {a : Act} {w : World} {A B : Obj} {C : Array Value} {f : FactV} (hp : a.tmps.getD 2 undef = .pointer (some ⟨w.heap.size + 1, 0, none⟩)) (hd : a.defers = []) (hC : C = f.cells) :
    bodyPost Tryz.prog Tryz.f27 (fun e w' => e = .returned (.agg f.cells) ∧ Below w.heap.size w w') .ret a (((w.alloc A).alloc (.cells C 34)).alloc B) :=
  bodyPost_ret (results_cell1 (p := 2) rfl _ _ ⟨w.heap.size + 1, 0, none⟩ _ hp (fact_cells10 _ _ _ ((last_row w _ _ _).alloc _) (by rw [hC]; rfl))) hd ⟨by rw [hC], (((Below.refl _ _).alloc (Nat.le_refl _) _).alloc (by simp) _).alloc (by simp; omega) _⟩
end Go.Proofs.YtgjajhopjcdflaaGreat
