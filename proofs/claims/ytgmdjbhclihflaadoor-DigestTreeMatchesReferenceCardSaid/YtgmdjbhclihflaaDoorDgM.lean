/- Rows of one-cell values that grow. -/
import Derived.Test.YtgmdjbhclihflaaDoorDgL
import Derived.Maps.AppendAt
namespace Go.Proofs.YtgmdjbhclihflaaDoor
open Go Go.RowKit Go.Lib Go.Shelf

/-- v is a slice in a row of its own, from 'base' on, whose elements are xs -/
def OwnL {α : Type} (T : TypeId) (enc : α → Value) (w : World) (base : Nat) (v : Value) (xs : List α) : Prop := w.ownsRow base T 1 v xs.length (xs.map enc)
def encS (x : List UInt8) : Value := .string ⟨x.toArray⟩
def encN (n : Nat) : Value := .int .i64 (n : Int)
section
variable {α : Type} {T : TypeId} {enc : α → Value} {w w' : World} {base : Nat} {v : Value} {xs : List α}
theorem OwnL.nil : OwnL T enc w base (.slice none 0 0) ([] : List α) := World.ownsRow_nil _ _ _ _
theorem OwnL.below (h : OwnL T enc w base v xs) (hb : Below w.heap.size w w') : OwnL T enc w' base v xs := by
  refine ⟨h.1, ?_⟩
  rcases h.2 with h0 | ⟨g, cap, cur, hv, hbg, hg, rest⟩
  · exact .inl h0
  · exact .inr ⟨g, cap, cur, hv, hbg, (hb.block g (Array.getElem?_eq_some_iff.1 hg).1).trans hg, rest⟩
theorem OwnL.slice (h : OwnL T enc w base v xs) : ∃ A c, v = .slice A xs.length c ∧ xs.length ≤ c := by
  rcases h.2 with ⟨h0, hn⟩ | ⟨g, cap, cur, hv, hbg, hg, hnc, _⟩
  · exact ⟨none, 0, by rw [h0, hn], by omega⟩
  · exact ⟨_, cap, hv, hnc⟩
theorem OwnL.get {A : Option Addr} {n c : Nat} (h : OwnL T enc w base (.slice A n c) xs) {i : Nat} {x : α} (hx : xs[i]? = some x) : ∃ g, A = some ⟨g, 0, none⟩ ∧ base ≤ g ∧ g < w.heap.size ∧ w.cell? ⟨g, i, none⟩ = some (enc x) ∧ w.frozen? ⟨g, i, none⟩ = false := by
  rcases h.2 with ⟨he, hn⟩ | ⟨g, cap, cur, he, hbg, hg, hnc, hcm, hcs, ht⟩
  · rw [List.length_eq_zero_iff.1 hn] at hx; simp at hx
  · simp only [Value.slice.injEq] at he
    refine ⟨g, he.1, hbg, (Array.getElem?_eq_some_iff.1 hg).1, ?_, RowAt.free (show RowAt w g T cur from hg) i⟩
    have h1 : (xs.map enc)[i]? = some (enc x) := by rw [List.getElem?_map, hx]; rfl
    rw [← ht] at h1
    rw [cell_of_row _ _ _ _ _ _ hg, ← Array.getElem?_toList]
    rw [List.getElem?_take] at h1
    split at h1
    · exact h1
    · cases h1
theorem OwnL.take {A : Option Addr} {n c : Nat} (h : OwnL T enc w base (.slice A n c) xs) (m : Nat) (hm : m ≤ n) : OwnL T enc w base (.slice A m c) (xs.take m) := by
  rcases h.2 with ⟨he, hn⟩ | ⟨g, cap, cur, he, hbg, hg, hnc, hcm, hcs, ht⟩
  · simp only [Value.slice.injEq] at he
    obtain ⟨rfl, rfl, rfl⟩ := he
    have : m = 0 := by omega
    subst this
    exact OwnL.nil
  · simp only [Value.slice.injEq] at he
    obtain ⟨rfl, rfl, rfl⟩ := he
    have hl : (xs.take m).length = m := by rw [List.length_take]; omega
    refine ⟨by rw [List.length_map, Nat.mul_one], .inr ⟨g, c, cur, by rw [hl], hbg, hg, by omega, hcm, hcs, ?_⟩⟩
    rw [hl, Nat.mul_one, List.map_take, ← ht, List.take_take]
    congr 1
    omega
theorem OwnL.grown {row : Option Nat} (h : OwnL T enc w base v xs) (hg : w.grownBy w' row) (hne : v.ownBlock = none ∨ v.ownBlock ≠ row) : OwnL T enc w' base v xs := World.ownsRow.kept h hg hne
theorem OwnL.lt (h : OwnL T enc w base v xs) : ∀ g, v.ownBlock = some g → base ≤ g ∧ g < w.heap.size := World.ownsRow.lt h
/-- rows of two types lie apart -/
theorem OwnL.ne {β : Type} {T' : TypeId} {enc' : β → Value} {base' : Nat} {v' : Value} {ys : List β} (h : OwnL T enc w base v xs) (h' : OwnL T' enc' w base' v' ys) (hT : T ≠ T') : v.ownBlock = none ∨ v.ownBlock ≠ v'.ownBlock := by
  rcases h.2 with ⟨e, _⟩ | ⟨g, cap, cur, e, _, hg, _⟩
  · rw [e]; exact .inl rfl
  · refine .inr fun e2 => ?_
    rcases h'.2 with ⟨e', _⟩ | ⟨g', cap', cur', e', _, hg', _⟩
    · rw [e, e'] at e2; simp [Value.ownBlock] at e2
    · rw [e, e'] at e2
      simp [Value.ownBlock] at e2
      subst e2
      rw [hg] at hg'
      simp at hg'
      exact hT hg'.2
theorem run_append_one {P : Program} (TS ty : TypeId) {z : Value} {bytes : Nat} (hu : P.underlying TS = some (.slice T)) (hinfo : (P.info? T).map (fun i => (i.zero, i.size, i.bytes)) = some (some z, 1, bytes)) (hzs : z.cells.size = 1) (hby : bytes ≤ 64)
    (hown : OwnL T enc w base v xs) (b c : Nat) (x : α) (h1 : (enc x).oneCell' = true) (hnew : w.cell? ⟨b, 0, none⟩ = some (enc x)) (hlen : xs.length ≤ 1000000) (hbase : base ≤ w.heap.size) :
    ∃ v' w', (Builtin.append_ #[TS, TS] ty #[v, .slice (some ⟨b, 0, none⟩) 1 c]).run P w = .ok v' w' ∧ OwnL T enc w' base v' (xs ++ [x]) ∧ w.grownBy w' v.ownBlock := by
  obtain ⟨i0, hi, hz0, hz1, hz2⟩ := info_parts hinfo
  have hmul : (xs.length + 1) * bytes ≤ (xs.length + 1) * 64 := Nat.mul_le_mul_left _ hby
  obtain ⟨v', w', hr, h2, h3, _⟩ := run_append_own (P := P) w base TS ty T i0 z 1 bytes hu hi hz0 hz1 hz2 hzs (by decide) v xs.length (xs.map enc) hown ⟨b, 0, none⟩ 1 c [enc x] rfl (fun j u hj => by
    cases j with
    | zero => simp at hj; subst hj; rw [addr_add]; exact hnew
    | succ j => simp at hj) (fun u hu => by rw [List.mem_singleton.1 hu]; exact h1) (by unfold maxLen; omega) (by omega) hbase
  refine ⟨v', w', hr, ?_, h3⟩
  unfold OwnL
  rw [List.length_append, List.map_append]
  exact h2
theorem wpList_append_one {P : Program} {ops : Array Oper} {rest : List Oper} {o : Oper} {a : Act} {Q : Exit → Act → World → Prop} (hgd : o.guard = none) (s x : Operand) (TS : TypeId)
    (ho : o.op = .call { callee := .builtin .append, args := #[s, x], argTypes := #[TS, TS] }) {z : Value} {bytes : Nat} (hu : P.underlying TS = some (.slice T)) (hinfo : (P.info? T).map (fun i => (i.zero, i.size, i.bytes)) = some (some z, 1, bytes)) (hzs : z.cells.size = 1) (hby : bytes ≤ 64)
    (hs : a.eval s = v) (hown : OwnL T enc w base v xs) (b c : Nat) (y : α) (hx : a.eval x = .slice (some ⟨b, 0, none⟩) 1 c) (h1 : (enc y).oneCell' = true) (hnew : w.cell? ⟨b, 0, none⟩ = some (enc y)) (hlen : xs.length ≤ 1000000) (hbase : base ≤ w.heap.size)
    (h : ∀ v' w', OwnL T enc w' base v' (xs ++ [y]) → w.grownBy w' v.ownBlock → wpList P ops Q rest (a.put o.dst v') w') : wpList P ops Q (o :: rest) a w := by
  refine wpList_plain hgd fun K hK => ?_
  obtain ⟨v', w', hr, h2, h3⟩ := run_append_one (P := P) TS o.type hu hinfo hzs hby hown b c y h1 hnew hlen hbase
  unfold Oper.wp execOp
  simp only [ho, resolve, invoke, builtin, Sem.run_bind, Sem.run_pure, Result.andThen_ok, List.map_toArray, List.map_cons, List.map_nil, hs, hx, hr]
  exact hK _ _ (h v' w' h2 h3)
/-- the same as one step of a region that draws its order -/
theorem step_append_one {P : Program} {ops : Array Oper} {o : Oper} {a : Act} {K : Act → World → Prop} {Q : Exit → Act → World → Prop} {E : Prop} (hgd : o.guard = none) (s x : Operand) (TS : TypeId)
    (ho : o.op = .call { callee := .builtin .append, args := #[s, x], argTypes := #[TS, TS] }) {z : Value} {bytes : Nat} (hu : P.underlying TS = some (.slice T)) (hinfo : (P.info? T).map (fun i => (i.zero, i.size, i.bytes)) = some (some z, 1, bytes)) (hzs : z.cells.size = 1) (hby : bytes ≤ 64)
    (hs : a.eval s = v) (hown : OwnL T enc w base v xs) (b c : Nat) (y : α) (hx : a.eval x = .slice (some ⟨b, 0, none⟩) 1 c) (h1 : (enc y).oneCell' = true) (hnew : w.cell? ⟨b, 0, none⟩ = some (enc y)) (hlen : xs.length ≤ 1000000) (hbase : base ≤ w.heap.size)
    (h : ∀ v' w', OwnL T enc w' base v' (xs ++ [y]) → w.grownBy w' v.ownBlock → K (a.put o.dst v') w') : if Region.wanted o (yielded ops a.tmps) = true then Oper.wp P o a w K Q else E := by
  have hw : Region.wanted o (yielded ops a.tmps) = true := by simp [Region.wanted, hgd]
  rw [if_pos hw]
  obtain ⟨v', w', hr, h2, h3⟩ := run_append_one (P := P) TS o.type hu hinfo hzs hby hown b c y h1 hnew hlen hbase
  unfold Oper.wp execOp
  simp only [ho, resolve, invoke, builtin, Sem.run_bind, Sem.run_pure, Result.andThen_ok, List.map_toArray, List.map_cons, List.map_nil, hs, hx, hr]
  exact h v' w' h2 h3
end
theorem string_info : (Tryd.prog.info? 9).map (fun i => (i.zero, i.size, i.bytes)) = some (some (.string ⟨#[]⟩), 1, 16) := by kernel_rfl
theorem int_info : (Tryd.prog.info? 3).map (fun i => (i.zero, i.size, i.bytes)) = some (some (.int .i64 0), 1, 8) := by kernel_rfl
theorem OwnL.sls {w : World} {base : Nat} {v : Value} {xs : List (List UInt8)} (h : OwnL 9 encS w base v xs) : SlS w v xs := by
  obtain ⟨A, c, rfl, _⟩ := h.slice
  cases hx : xs with
  | nil => exact .inl ⟨rfl, A, c, rfl⟩
  | cons x r =>
    rw [← hx]
    obtain ⟨g, hA, h1, h2, h3, _⟩ := h.get (i := 0) (x := x) (by rw [hx]; rfl)
    subst hA
    refine .inr ⟨g, 0, c, rfl, h2, fun i y hy => ?_⟩
    obtain ⟨g', hA', _, _, h4, _⟩ := h.get hy
    simp only [Option.some.injEq, Addr.mk.injEq, and_true] at hA'
    subst hA'
    rw [Nat.zero_add]
    exact h4
end Go.Proofs.YtgmdjbhclihflaaDoor
