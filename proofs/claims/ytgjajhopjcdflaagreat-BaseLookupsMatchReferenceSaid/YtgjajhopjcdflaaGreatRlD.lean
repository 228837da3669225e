import Derived.Lib.SlicesCompact
import Derived.Test.YtgjajhopjcdflaaGreatFlD
import Derived.Test.YtgjajhopjcdflaaGreatFlI
import Derived.Test.YtgjajhopjcdflaaGreatFkZ
import Derived.Test.YtgjajhopjcdflaaGreatFlB
import Derived.Test.YtgjajhopjcdflaaGreatRfA
namespace Go.Proofs.YtgjajhopjcdflaaGreat
open Go Go.Lib
def insH (n : Int) : List Int → List Int
  | [] => [n]
  | x :: r => if x < n then x :: insH n r else if x = n then x :: r else n :: x :: r
theorem insH_mem (n y : Int) : ∀ l, y ∈ insH n l ↔ y = n ∨ y ∈ l
  | [] => by simp [insH]
  | x :: r => by
    unfold insH
    split
    · simp only [List.mem_cons, insH_mem n y r]
      constructor
      · rintro (h | h | h)
        · exact .inr (.inl h)
        · exact .inl h
        · exact .inr (.inr h)
      · rintro (h | h | h)
        · exact .inr (.inl h)
        · exact .inl h
        · exact .inr (.inr h)
    · split
      · rename_i h; subst h; simp
      · simp
theorem insH_sorted (n : Int) : ∀ l, List.Pairwise (fun (a b : Int) => a < b) l → List.Pairwise (fun (a b : Int) => a < b) (insH n l)
  | [], _ => by simp [insH]
  | x :: r, h => by
    rw [List.pairwise_cons] at h
    unfold insH
    split
    · rw [List.pairwise_cons]
      refine ⟨fun y hy => ?_, insH_sorted n r h.2⟩
      rcases (insH_mem n y r).1 hy with e | e
      · omega
      · exact h.1 y e
    · split
      · exact List.pairwise_cons.2 h
      · refine List.pairwise_cons.2 ⟨fun y hy => ?_, List.pairwise_cons.2 h⟩
        rcases List.mem_cons.1 hy with e | e
        · omega
        · have := h.1 y e; omega
theorem sorted_eq : ∀ {a b : List Int}, List.Pairwise (fun (a b : Int) => a < b) a → List.Pairwise (fun (a b : Int) => a < b) b → (∀ y, y ∈ a ↔ y ∈ b) → a = b
  | [], [], _, _, _ => rfl
  | [], y :: b, _, _, h => by have := (h y).2 (by simp); simp at this
  | x :: a, [], _, _, h => by have := (h x).1 (by simp); simp at this
  | x :: a, y :: b, ha, hb, h => by
    rw [List.pairwise_cons] at ha hb
    have hxy : x = y := by
      rcases List.mem_cons.1 ((h x).1 (by simp)) with e | e
      · exact e
      · rcases List.mem_cons.1 ((h y).2 (by simp)) with e2 | e2
        · exact e2.symm
        · have h1 := hb.1 x e; have h2 := ha.1 y e2; omega
    subst hxy
    rw [sorted_eq ha.2 hb.2 fun z => ?_]
    constructor
    · intro hz
      rcases List.mem_cons.1 ((h z).1 (List.mem_cons_of_mem _ hz)) with e | e
      · have := ha.1 z hz; omega
      · exact e
    · intro hz
      rcases List.mem_cons.1 ((h z).2 (List.mem_cons_of_mem _ hz)) with e | e
      · have := hb.1 z hz; omega
      · exact e
/-- where the reference's loop stops -/
theorem insH_at (n : Int) : ∀ (l : List Int) (k : Nat), k ≤ l.length → (∀ x ∈ l.take k, x < n) →
    (k = l.length → insH n l = l ++ [n]) ∧ ∀ y, l[k]? = some y → ¬ y < n → (y = n → insH n l = l) ∧ (y ≠ n → insH n l = l.take k ++ n :: l.drop k)
  | [], k, hk, _ => by
    have : k = 0 := by simpa using hk
    subst this
    exact ⟨fun _ => rfl, fun y h => by simp at h⟩
  | x :: r, 0, _, _ => by
    refine ⟨fun h => by simp at h, fun y h hy => ?_⟩
    simp at h
    subst h
    unfold insH
    rw [if_neg hy]
    exact ⟨fun e => by rw [if_pos e], fun e => by rw [if_neg e]; rfl⟩
  | x :: r, k + 1, hk, h => by
    have hx := h x (by simp)
    obtain ⟨h1, h2⟩ := insH_at n r k (by simpa using hk) (fun y hy => h y (by simp [hy]))
    unfold insH
    rw [if_pos hx]
    refine ⟨fun e => by rw [h1 (by simpa using e)]; rfl, fun y hy hn => ?_⟩
    obtain ⟨h3, h4⟩ := h2 y (by simpa using hy) hn
    exact ⟨fun e => by rw [h3 e], fun e => by rw [h4 e]; rfl⟩
def foldH (xs : List Int) : List Int := xs.foldl (fun o n => insH n o) []
theorem foldH_spec (xs : List Int) : List.Pairwise (fun (a b : Int) => a < b) (foldH xs) ∧ ∀ y, y ∈ foldH xs ↔ y ∈ xs := by
  have key : ∀ (xs o : List Int), List.Pairwise (fun (a b : Int) => a < b) o → List.Pairwise (fun (a b : Int) => a < b) (xs.foldl (fun o n => insH n o) o) ∧ ∀ y, y ∈ xs.foldl (fun o n => insH n o) o ↔ y ∈ xs ∨ y ∈ o := by
    intro xs
    induction xs with
    | nil => intro o h; exact ⟨h, by simp⟩
    | cons x r ih =>
      intro o h
      obtain ⟨h1, h2⟩ := ih (insH x o) (insH_sorted x o h)
      refine ⟨h1, fun y => ?_⟩
      rw [List.foldl_cons, h2 y, insH_mem, List.mem_cons]
      constructor
      · rintro (h | h | h)
        · exact .inl (.inr h)
        · exact .inl (.inl h)
        · exact .inr h
      · rintro ((h | h) | h)
        · exact .inr (.inl h)
        · exact .inl h
        · exact .inr (.inr h)
  obtain ⟨h1, h2⟩ := key xs [] .nil
  exact ⟨h1, fun y => by rw [show foldH xs = xs.foldl (fun o n => insH n o) [] from rfl, h2 y]; simp⟩
theorem compactUpTo_spec (d : Array Int) (hs : List.Pairwise (fun (a b : Int) => a ≤ b) d.toList) : ∀ m, m ≤ d.size → List.Pairwise (fun (a b : Int) => a < b) (compactUpTo d m) ∧ (∀ y, y ∈ compactUpTo d m ↔ ∃ j, j < m ∧ d[j]? = some y) := by
  have hle : ∀ (i j : Nat) (x y : Int), i < j → d[i]? = some x → d[j]? = some y → x ≤ y := by
    intro i j x y hij hi hj
    rw [List.pairwise_iff_getElem] at hs
    obtain ⟨h1, h2⟩ := Array.getElem?_eq_some_iff.1 hi
    obtain ⟨h3, h4⟩ := Array.getElem?_eq_some_iff.1 hj
    have := hs i j (by simpa using h1) (by simpa using h3) hij
    simp only [Array.getElem_toList] at this
    rw [h2, h4] at this
    exact this
  intro m
  induction m with
  | zero => intro _; simp [compactUpTo]
  | succ m ih =>
    intro hm
    obtain ⟨h1, h2⟩ := ih (by omega)
    rw [compactUpTo_succ]
    have hdm : d[m]? = some d[m]! := by
      rw [Array.getElem?_eq_getElem (by omega), getElem!_pos d m (by omega)]
    by_cases hk : keeps d m = true
    · rw [if_pos hk]
      constructor
      · rw [List.pairwise_append]
        refine ⟨h1, by simp, fun a ha b hb => ?_⟩
        rw [List.mem_singleton] at hb
        subst hb
        obtain ⟨j, hj, hja⟩ := (h2 a).1 ha
        have hp : d[m - 1]? = some d[m - 1]! := by rw [Array.getElem?_eq_getElem (by omega), getElem!_pos d (m - 1) (by omega)]
        have hne : d[m]! ≠ d[m - 1]! := by
          unfold keeps at hk
          rw [decide_eq_true_eq] at hk
          rcases hk with e | e
          · omega
          · exact e
        have e1 : a ≤ d[m - 1]! := by
          by_cases e : j = m - 1
          · subst e; rw [hp] at hja; simp at hja; omega
          · exact hle j (m - 1) _ _ (by omega) hja hp
        have e2 := hle (m - 1) m _ _ (by omega) hp hdm
        omega
      · intro y
        rw [List.mem_append, h2 y, List.mem_singleton]
        constructor
        · rintro (⟨j, hj, hy⟩ | h)
          · exact ⟨j, by omega, hy⟩
          · exact ⟨m, by omega, by rw [h, hdm]⟩
        · rintro ⟨j, hj, hy⟩
          by_cases e : j = m
          · subst e; rw [hdm] at hy; simp at hy; exact .inr hy.symm
          · exact .inl ⟨j, by omega, hy⟩
    · rw [if_neg hk, List.append_nil]
      refine ⟨h1, fun y => ?_⟩
      have hm0 : m ≠ 0 ∧ d[m]! = d[m - 1]! := by
        unfold keeps at hk
        rw [decide_eq_true_eq, not_or] at hk
        exact ⟨hk.1, by simpa using hk.2⟩
      have hp : d[m - 1]? = some d[m - 1]! := by rw [Array.getElem?_eq_getElem (by omega), getElem!_pos d (m - 1) (by omega)]
      rw [h2 y]
      constructor
      · rintro ⟨j, hj, hy⟩; exact ⟨j, by omega, hy⟩
      · rintro ⟨j, hj, hy⟩
        by_cases e : j = m
        · subst e
          rw [hdm] at hy
          exact ⟨j - 1, by omega, by rw [hp, ← hm0.2]; exact hy⟩
        · exact ⟨j, by omega, hy⟩
theorem compact_spec (zs : List Int) (hs : List.Pairwise (fun (a b : Int) => a ≤ b) zs) : List.Pairwise (fun (a b : Int) => a < b) (compact zs) ∧ ∀ y, y ∈ compact zs ↔ y ∈ zs := by
  obtain ⟨h1, h2⟩ := compactUpTo_spec zs.toArray hs zs.length (by simp)
  refine ⟨h1, fun y => ?_⟩
  unfold compact
  rw [h2 y, List.mem_iff_getElem?]
  constructor
  · rintro ⟨j, _, hj⟩; exact ⟨j, by simpa using hj⟩
  · rintro ⟨j, hj⟩; exact ⟨j, (List.getElem?_eq_some_iff.1 hj).1, by simpa using hj⟩
theorem foldH_eq (xs : List Int) (f : Int → Int → Bool) (hf : ∀ x y, f x y = decide (x ≤ y)) : compact (xs.mergeSort f) = foldH xs := by
  have hp := List.mergeSort_perm xs f
  have hsrt : List.Pairwise (fun (a b : Int) => a ≤ b) (xs.mergeSort f) := by
    have := List.pairwise_mergeSort (le := f) (fun a b c h1 h2 => by rw [hf, decide_eq_true_eq] at *; omega) (fun a b => by rw [hf, hf]; simp; omega) xs
    exact this.imp (fun h => by rw [hf, decide_eq_true_eq] at h; exact h)
  obtain ⟨h1, h2⟩ := compact_spec _ hsrt
  obtain ⟨h3, h4⟩ := foldH_spec xs
  exact sorted_eq h1 h3 fun y => by rw [h2 y, h4 y]; exact hp.mem_iff
end Go.Proofs.YtgjajhopjcdflaaGreat
namespace Go.Proofs.YtgjajhopjcdflaaGreat
open Go Go.RowKit Go.Lib Go.Shelf Go.Maps

theorem OwnI.cut {w : World} {base : Nat} {A : Option Addr} {m c : Nat} {xs : List Int} (h : OwnI w base (.slice A m c) xs) (k : Nat) (hk : k ≤ m) : OwnI w base (.slice A k c) (xs.take k) := by
  have hm : xs.length = m := by
    rcases h.2 with ⟨h1, h2⟩ | ⟨g, cap, cur, h1, _⟩
    · cases h1; exact h2
    · cases h1; rfl
  have hl : (xs.take k).length = k := by rw [List.length_take]; omega
  unfold OwnI at h ⊢
  rw [hl]
  refine ⟨by rw [List.length_map, hl]; omega, ?_⟩
  rcases h.2 with ⟨h1, h2⟩ | ⟨g, cap, cur, h1, hb, hg, hnc, hcm, hcs, ht⟩
  · cases h1
    exact .inl ⟨by rw [show k = 0 by omega], by omega⟩
  · cases h1
    refine .inr ⟨g, c, cur, rfl, hb, hg, by omega, hcm, hcs, ?_⟩
    rw [Nat.mul_one] at ht ⊢
    rw [List.map_take, ← ht, List.take_take, Nat.min_eq_left (by omega)]
/-- integers that are read one by one -/
def IntsX (w : World) (v : Value) (R : List Int) : Prop :=
  (R = [] ∧ ∃ A c, v = .slice A 0 c) ∨ ∃ b o c, v = .slice (some ⟨b, o, none⟩) R.length c ∧ ∀ (i : Nat) x, R[i]? = some x → w.cell? ⟨b, o + i, none⟩ = some (.int .i64 x)
theorem OwnI.form {w : World} {base : Nat} {v : Value} {xs : List Int} (h : OwnI w base v xs) : (v = .slice none 0 0 ∧ xs = []) ∨ ∃ g c, v = .slice (some ⟨g, 0, none⟩) xs.length c ∧ base ≤ g ∧ g < w.heap.size ∧ xs.length ≤ c ∧ ∀ (i : Nat) x, xs[i]? = some x → w.cell? ⟨g, i, none⟩ = some (.int .i64 x) := by
  rcases h.2 with ⟨h1, h2⟩ | ⟨g, cap, cur, h1, hb, hg, hnc, hcm, hcs, ht⟩
  · exact .inl ⟨h1, List.length_eq_zero_iff.1 h2⟩
  · refine .inr ⟨g, cap, h1, hb, (Array.getElem?_eq_some_iff.1 hg).1, hnc, fun i x hx => ?_⟩
    subst h1
    have h2 := World.ownsRow.cellAt h i (by have := (List.getElem?_eq_some_iff.1 hx).1; omega)
    rw [h2, List.getElem?_map, hx]
    rfl
theorem OwnI.tail {w : World} {base g m c : Nat} {xs : List Int} (h : OwnI w base (.slice (some ⟨g, 0, none⟩) m c) xs) (k : Nat) (cc : Nat) (hk : k ≤ m) : IntsX w (.slice (some ⟨g, k, none⟩) (m - k) cc) (xs.drop k) := by
  rcases h.form with ⟨h1, _⟩ | ⟨g', c', h1, _, _, _, hc⟩
  · cases h1
  · cases h1
    refine .inr ⟨g, k, cc, by rw [List.length_drop], fun i x hx => ?_⟩
    rw [List.getElem?_drop] at hx
    exact hc (k + i) x hx
theorem OwnI.all {w : World} {base : Nat} {v : Value} {xs : List Int} (h : OwnI w base v xs) : IntsX w v xs := by
  rcases h.form with ⟨h1, h2⟩ | ⟨g, c, h1, _, _, _, hc⟩
  · exact .inl ⟨h2, none, 0, h1⟩
  · exact .inr ⟨g, 0, c, h1, fun i x hx => by rw [Nat.zero_add]; exact hc i x hx⟩
theorem wp_append_ints {o : Oper} {a : Act} {w : World} {K : Act → World → Prop} {Q : Exit → Act → World → Prop} (s x : Operand) (base : Nat) (L R : List Int) (v xv : Value) (hown : OwnI w base v L) (hR : IntsX w xv R) (hlen : L.length + R.length ≤ 1000000000) (hbase : base ≤ w.heap.size)
    (ho : o.op = .call { callee := .builtin .append, args := #[s, x], argTypes := #[32, 32] })
    (hs : a.eval s = v) (hx : a.eval x = xv)
    (h : ∀ v' w', OwnI w' base v' (L ++ R) → w.grownBy w' v.ownBlock → K (a.put o.dst v') w') : o.wp Tryz.prog a w K Q := by
  obtain ⟨i0, hi, hz0, hz1, hz2⟩ := info_parts int_info
  have fin : ∀ (ad : Addr) c, xv = .slice (some ad) R.length c → (∀ (j : Nat) u, (R.map (Value.int .i64))[j]? = some u → w.cell? (ad.add j) = some u) → o.wp Tryz.prog a w K Q := by
    intro ad c he hn
    obtain ⟨v', w', hr, h2, h3, _⟩ := run_append_own_at (P := Tryz.prog) w base 32 o.type 3 i0 _ 1 8 Tryz.underlying32 hi hz0 hz1 hz2 rfl (by decide) v L.length (L.map (Value.int .i64)) hown ad R.length c (R.map (Value.int .i64)) (by simp) hn (by intro u hu; obtain ⟨y, _, rfl⟩ := List.mem_map.1 hu; rfl) (by unfold maxLen; omega) (by omega) hbase
    rw [← he] at hr
    unfold Oper.wp execOp
    simp only [ho, resolve, invoke, builtin, Sem.run_bind, Sem.run_pure, Result.andThen_ok, List.map_toArray, List.map_cons, List.map_nil, hs, hx, hr]
    refine h v' w' ?_ h3
    unfold OwnI
    rw [List.map_append, List.length_append]
    exact h2
  rcases hR with ⟨rfl, A, c, he⟩ | ⟨b, off, c, he, hc⟩
  · cases A with
    | some ad => exact fin ad c he (by intro j u hj; simp at hj)
    | none =>
      obtain ⟨A0, n0, c0, hv0⟩ : ∃ A n c, v = .slice A n c := by
        rcases hown.form with ⟨h1, _⟩ | ⟨g, c, h1, _⟩
        · exact ⟨_, _, _, h1⟩
        · exact ⟨_, _, _, h1⟩
      have hle : n0 ≤ c0 := by
        rcases hown.form with ⟨h1, _⟩ | ⟨g, c, h1, _, _, h2, _⟩
        · rw [h1] at hv0; cases hv0; exact Nat.le_refl _
        · rw [h1] at hv0; cases hv0; exact h2
      subst hv0
      have hrun := run_append_nothing (P := Tryz.prog) w 32 32 o.type 3 i0 Tryz.underlying32 hi A0 n0 c0 hle xv (by rw [he, hz1]; exact Src.ofNil _ Tryz.underlying32 c)
      unfold Oper.wp execOp
      simp only [ho, resolve, invoke, builtin, Sem.run_bind, Sem.run_pure, Result.andThen_ok, List.map_toArray, List.map_cons, List.map_nil, hs, hx, hrun]
      exact h _ _ (by rw [List.append_nil]; exact hown) ⟨rfl, rfl, rfl, Nat.le_refl _, fun _ _ _ => rfl⟩
  · refine fin ⟨b, off, none⟩ c he fun j u hj => ?_
    rw [List.getElem?_map] at hj
    obtain ⟨x, hx, rfl⟩ := Option.map_eq_some_iff.1 hj
    rw [Go.WideShapes.add_plain]
    exact hc j x hx
theorem append_ints {ops : Array Oper} {rest : List Oper} {o : Oper} {a : Act} {w : World} {Q : Exit → Act → World → Prop} (s x : Operand) (base : Nat) (L R : List Int) (v xv : Value) (hown : OwnI w base v L) (hR : IntsX w xv R) (hlen : L.length + R.length ≤ 1000000000) (hbase : base ≤ w.heap.size)
    (hgd : o.guard = none) (ho : o.op = .call { callee := .builtin .append, args := #[s, x], argTypes := #[32, 32] })
    (hs : a.eval s = v) (hx : a.eval x = xv)
    (h : ∀ v' w', OwnI w' base v' (L ++ R) → w.grownBy w' v.ownBlock → wpList Tryz.prog ops Q rest (a.put o.dst v') w') : wpList Tryz.prog ops Q (o :: rest) a w :=
  wpList_plain hgd fun _ hK => wp_append_ints s x base L R v xv hown hR hlen hbase ho hs hx fun v' w' h1 h2 => hK _ _ (h v' w' h1 h2)
theorem wp_build_nofacts {o : Oper} {a : Act} {w : World} {K : Act → World → Prop} {Q : Exit → Act → World → Prop} (N : Nat) (hN : w.heap.size = N) (ho : o.op = .buildSlice 23 0 #[])
    (h : K (a.put o.dst (.slice (some ⟨N, 0, none⟩) 0 0)) (w.alloc (.cells #[] 34))) : o.wp Tryz.prog a w K Q := by
  subst hN
  obtain ⟨i0, hi, hz0, hz1, hz2⟩ := info_parts fact_info
  have hr : (Instr.buildSlice 23 0 #[]).run Tryz.prog w = .ok (.slice (some ⟨w.heap.size, 0, none⟩) 0 0) (w.alloc (.cells #[] 34)) := by
    simp [Instr.buildSlice, run_underlying Tryz.underlying23, sizeOf, typeInfo, hi, newRow, Instr.fill]
    rw [show Array.map (fun _ => (default : Value)) (Array.range 0) = #[] from Array.size_eq_zero_iff.1 (by simp)]
  unfold Oper.wp execOp
  simp only [ho, List.map_toArray, List.map_nil, Sem.run_bind, hr, Result.andThen_ok]
  exact h
end Go.Proofs.YtgjajhopjcdflaaGreat
namespace Go.Proofs.YtgjajhopjcdflaaGreat
open Go Go.RowKit Go.Lib Go.Shelf Go.Maps

set_option linter.unusedSimpArgs false in
set_option maxRecDepth 100000 in
set_option maxHeartbeats 8000000 in
theorem rcontract_any (bs : Array Value) (LA : Nat → List FactV) (x p : Int) (w : World) (h : BaseR w bs LA) (hn : ∀ q, (LA q).length ≤ 1000000) :
    Calls Tryz.prog 13 #[.agg bs, .int .i64 x, .int .i64 p] w fun e w' => e = .returned (.tuple #[.agg ((contractF LA x p).getD zf).cells, .bool (contractF LA x p).isSome]) ∧ Below w.heap.size w w' := by
  obtain ⟨v, hvq, hv⟩ := h.at_ 3 (by omega)
  have hn0 := hn 3
  have r0 := ((RowAt.new w 27 bs).alloc (.cells #[.int .i64 0, .int .i64 0, .int .i64 0, .int .i64 0, .int .i64 0, .int .i64 0, .int .i64 0, .int .i64 0, .int .i64 0, .int .i64 0, .int .i64 0, .int .i64 0, .int .i64 0, .int .i64 0, .int .i64 0, .int .i64 0, .int .i64 0, .string ⟨#[]⟩] 34)).alloc (.cells #[.int .i64 0, .int .i64 0, .int .i64 0, .int .i64 0, .int .i64 0, .int .i64 0, .int .i64 0, .int .i64 0, .int .i64 0, .int .i64 0, .int .i64 0, .int .i64 0, .int .i64 0, .int .i64 0, .int .i64 0, .int .i64 0, .int .i64 0, .string ⟨#[]⟩] 34)
  have r1 := (RowAt.new (w.alloc (.cells bs 27)) 34 #[.int .i64 0, .int .i64 0, .int .i64 0, .int .i64 0, .int .i64 0, .int .i64 0, .int .i64 0, .int .i64 0, .int .i64 0, .int .i64 0, .int .i64 0, .int .i64 0, .int .i64 0, .int .i64 0, .int .i64 0, .int .i64 0, .int .i64 0, .string ⟨#[]⟩]).alloc (.cells #[.int .i64 0, .int .i64 0, .int .i64 0, .int .i64 0, .int .i64 0, .int .i64 0, .int .i64 0, .int .i64 0, .int .i64 0, .int .i64 0, .int .i64 0, .int .i64 0, .int .i64 0, .int .i64 0, .int .i64 0, .int .i64 0, .int .i64 0, .string ⟨#[]⟩] 34)
  have r2 := RowAt.new ((w.alloc (.cells bs 27)).alloc (.cells #[.int .i64 0, .int .i64 0, .int .i64 0, .int .i64 0, .int .i64 0, .int .i64 0, .int .i64 0, .int .i64 0, .int .i64 0, .int .i64 0, .int .i64 0, .int .i64 0, .int .i64 0, .int .i64 0, .int .i64 0, .int .i64 0, .int .i64 0, .string ⟨#[]⟩] 34)) 34 #[.int .i64 0, .int .i64 0, .int .i64 0, .int .i64 0, .int .i64 0, .int .i64 0, .int .i64 0, .int .i64 0, .int .i64 0, .int .i64 0, .int .i64 0, .int .i64 0, .int .i64 0, .int .i64 0, .int .i64 0, .int .i64 0, .int .i64 0, .string ⟨#[]⟩]
  have e1 : (w.alloc (.cells bs 27)).heap.size = w.heap.size + 1 := by simp
  have e2 : ((w.alloc (.cells bs 27)).alloc (.cells #[.int .i64 0, .int .i64 0, .int .i64 0, .int .i64 0, .int .i64 0, .int .i64 0, .int .i64 0, .int .i64 0, .int .i64 0, .int .i64 0, .int .i64 0, .int .i64 0, .int .i64 0, .int .i64 0, .int .i64 0, .int .i64 0, .int .i64 0, .string ⟨#[]⟩] 34)).heap.size = w.heap.size + 2 := by simp
  rw [e1] at r1
  rw [e2] at r2
  obtain ⟨WB, hWB⟩ : ∃ z, ((w.alloc (.cells bs 27)).alloc (.cells #[.int .i64 0, .int .i64 0, .int .i64 0, .int .i64 0, .int .i64 0, .int .i64 0, .int .i64 0, .int .i64 0, .int .i64 0, .int .i64 0, .int .i64 0, .int .i64 0, .int .i64 0, .int .i64 0, .int .i64 0, .int .i64 0, .int .i64 0, .string ⟨#[]⟩] 34)).alloc (.cells #[.int .i64 0, .int .i64 0, .int .i64 0, .int .i64 0, .int .i64 0, .int .i64 0, .int .i64 0, .int .i64 0, .int .i64 0, .int .i64 0, .int .i64 0, .int .i64 0, .int .i64 0, .int .i64 0, .int .i64 0, .int .i64 0, .int .i64 0, .string ⟨#[]⟩] 34) = z := ⟨_, rfl⟩
  have hbw : Below w.heap.size w WB := by rw [← hWB]; exact (((Below.refl _ _).alloc (Nat.le_refl _) _).alloc (by simp) _).alloc (by simp; omega) _
  rw [hWB] at r0 r1 r2
  have HR1 := Lib.hid r1
  obtain ⟨NB, hNB⟩ : ∃ z, w.heap.size = z := ⟨_, rfl⟩
  obtain ⟨NO, hNO⟩ : ∃ z, w.heap.size + 2 = z := ⟨_, rfl⟩
  rw [hNB] at r0
  rw [hNO] at r2
  have HNN : Hid (w.heap.size = NB ∧ w.heap.size + 2 = NO) := Lib.hid ⟨hNB, hNO⟩
  have H0 : Hid (RowAt WB NB 27 bs ∧ RowAt WB NO 34 zf.cells ∧ Below w.heap.size w WB ∧ FactsAt w v (LA 3)) := Lib.hid ⟨r0, r2, hbw, hv⟩
  have HVQ := Lib.hid hvq
  have HWB := Lib.hid hWB
  have HSP : Hid (contractF LA x p = inEff (fun f => f.n 9 == x) p (LA 3)) := Lib.hid rfl
  obtain ⟨l, hl⟩ : ∃ z, LA 3 = z := ⟨_, rfl⟩
  rw [hl] at H0 HSP hn0
  obtain ⟨A, c, rfl⟩ := hv.sl
  rw [hl] at HVQ H0
  obtain ⟨m, hm⟩ : ∃ z, l.length = z := ⟨_, rfl⟩
  rw [hm] at HVQ H0 hn0
  have HM := Lib.hid hm
  have cl : WB.cell? ⟨NB, 3, none⟩ = some (.slice A m c) := by rw [H0.out.1.cell]; exact HVQ.out
  clear h hn hv hvq r0 r2 e1 hbw hWB hNB hNO hl hm
  go_enter Tryz.func13, Tryz.ntmps13
  go_upto_region 4 with fail
  rw [HWB.out, HNN.out.2, HNN.out.1]
  go_loopw [9, 10, 11] (fun v9 v10 v11 wr => ∃ i : Nat, v10 = .int .i64 i ∧ i ≤ m ∧ v9 = .bool (inEff (fun f => f.n 9 == x) p (l.take i)).isSome ∧ Hid (RowAt wr NO 34 ((inEff (fun f => f.n 9 == x) p (l.take i)).getD zf).cells ∧ Below NO WB wr)) (fun v9 v10 v11 _ => m - (RowKit.intOf v10).toNat)
  case atStart => exact ⟨0, rfl, by omega, rfl, Lib.hid ⟨H0.out.2.1, Below.refl _ _⟩⟩
  case round =>
    obtain ⟨i, rfl, hi, rfl, HS⟩ := hrel
    have HBO : Hid (NB < NO) := Lib.hid (by have := HNN.out; omega)
    have clr : wr.cell? ⟨NB, 3, none⟩ = some (.slice A m c) := (HS.out.2.cell (p := ⟨NB, 3, none⟩) HBO.out).trans cl
    by_cases h1 : i < m
    · have h1d : decide (i < m) = true := by simpa using h1
      obtain ⟨gg, hgg⟩ : ∃ x, l[i]? = some x := ⟨_, List.getElem?_eq_getElem (by have := HM.out; omega)⟩
      obtain ⟨b, o, rfl, hlt0, hcell0⟩ := H0.out.2.2.2.get hgg
      have HST := Lib.hid (inEff_take (fun f => f.n 9 == x) p hgg)
      have HGI : Hid ((Tryz.prog.info? 34).map (·.size) = some gg.cells.size ∧ gg.cells.all (·.oneCell') = true ∧ z18c.size = gg.cells.size) := Lib.hid ⟨fact_size, gg.cells_one, rfl⟩
      obtain ⟨cgg, hcgg⟩ : ∃ z, gg.cells = z := ⟨_, rfl⟩
      have HCG := Lib.hid hcgg
      rw [hcgg] at hcell0 HGI
      have HL0 : Hid (∀ j2 x, cgg[j2]? = some x → wr.cell? ⟨b, o + i * 18 + j2, none⟩ = some x) := Lib.hid (fun j2 x hx => (HS.out.2.cell (p := ⟨b, o + i * 18 + j2, none⟩) (by have := HNN.out; show b < NO; omega)).trans ((H0.out.2.2.1.cell (p := ⟨b, o + i * 18 + j2, none⟩) hlt0).trans (hcell0 j2 x hx)))
      obtain ⟨oo, hoo⟩ : ∃ z, inEff (fun f => f.n 9 == x) p (l.take i) = z := ⟨_, rfl⟩
      rw [hoo] at HST HS ⊢
      have hrp := RowAt.new wr 34 cgg
      have hro := HS.out.1.alloc (.cells cgg 34)
      have HBN : Hid (Below NO WB (wr.alloc (.cells cgg 34))) := Lib.hid (HS.out.2.alloc (Nat.le_of_lt HS.out.1.lt) _)
      have HRP := Lib.hid (And.intro hrp hro)
      have e11 : (wr.alloc (.cells cgg 34)).cell? ⟨wr.heap.size, 11, none⟩ = some (.int .i64 (gg.n 11)) := by rw [hrp.cell, ← HCG.out, cells_get gg 11 (by omega)]
      have d11 : (wr.alloc (.cells cgg 34)).cell? ⟨NO, 11, none⟩ = some (.int .i64 ((oo.getD zf).n 11)) := by rw [hro.cell, cells_get _ 11 (by omega)]
      have etst : (wr.alloc (.cells cgg 34)).cell? ⟨wr.heap.size, 9, none⟩ = some (.int .i64 (gg.n 9)) := by rw [hrp.cell, ← HCG.out, cells_get gg 9 (by omega)]
      obtain ⟨c1, hc1⟩ : ∃ z, (gg.n 9 == x) = z := ⟨_, rfl⟩
      have HC1 := Lib.hid hc1
      obtain ⟨c2, hc2⟩ : ∃ z, decide (gg.n 11 ≤ p) = z := ⟨_, rfl⟩
      have HC2 := Lib.hid hc2
      have HH1 := Lib.hid h1
      clear hgg hlt0 hcell0 hcgg hoo hrp hro
      cases oo with
      | none =>
        cases c1
        · go_wp2_with (first | ((with_reducible refine load_at (o := ⟨some 24, _, _, _, _, _⟩) (.tmp 23) b (o + i * 18) cgg HL0.out HGI.out.1 ?_ ?_ ?_ ?_); rfl; rfl; rfl) | ((with_reducible refine store_cs (o := ⟨none, _, _, _, _, _⟩) (.tmp 11) (.tmp 24) wr.heap.size rfl _ cgg HGI.out.1 HGI.out.2.1 HGI.out.2.2 ?_ ?_ ?_ ?_ ?_); rfl; rfl; rfl; rfl))
          go_roundw
          case rel =>
            have hst : inEff (fun f => f.n 9 == x) p (l.take (i + 1)) = none := by rw [HST.out]; unfold stepE; simp [HC1.out, ]
            exact ⟨i + 1, by go_num, by have := HH1.out; omega, by rw [hst]; rfl, Lib.hid ⟨by rw [hst]; exact HRP.out.2, HBN.out⟩⟩
          case measure => simp [RowKit.intOf]; have := HH1.out; omega
        · cases c2
          · go_wp2_with (first | ((with_reducible refine load_at (o := ⟨some 24, _, _, _, _, _⟩) (.tmp 23) b (o + i * 18) cgg HL0.out HGI.out.1 ?_ ?_ ?_ ?_); rfl; rfl; rfl) | ((with_reducible refine store_cs (o := ⟨none, _, _, _, _, _⟩) (.tmp 11) (.tmp 24) wr.heap.size rfl _ cgg HGI.out.1 HGI.out.2.1 HGI.out.2.2 ?_ ?_ ?_ ?_ ?_); rfl; rfl; rfl; rfl))
            go_roundw
            case rel =>
              have hst : inEff (fun f => f.n 9 == x) p (l.take (i + 1)) = none := by rw [HST.out]; unfold stepE; simp [HC1.out, HC2.out]
              exact ⟨i + 1, by go_num, by have := HH1.out; omega, by rw [hst]; rfl, Lib.hid ⟨by rw [hst]; exact HRP.out.2, HBN.out⟩⟩
            case measure => simp [RowKit.intOf]; have := HH1.out; omega
          · have HRO : Hid (RowAt (wr.alloc (.cells cgg 34)) NO 34 (zf).cells) := Lib.hid HRP.out.2
            have HOS : Hid ((zf).cells.size = cgg.size) := Lib.hid (by rw [← HCG.out, FactV.cells_size, FactV.cells_size])
            go_wp2_with (first | ((with_reducible refine load_at (o := ⟨some 24, _, _, _, _, _⟩) (.tmp 23) b (o + i * 18) cgg HL0.out HGI.out.1 ?_ ?_ ?_ ?_); rfl; rfl; rfl) | ((with_reducible refine store_cs (o := ⟨none, _, _, _, _, _⟩) (.tmp 11) (.tmp 24) wr.heap.size rfl _ cgg HGI.out.1 HGI.out.2.1 HGI.out.2.2 ?_ ?_ ?_ ?_ ?_); rfl; rfl; rfl; rfl) | ((with_reducible refine load_cs (o := ⟨some 46, _, _, _, _, _⟩) (.tmp 11) wr.heap.size cgg (fun j v h => by rw [Nat.zero_add, HRP.out.1.cell]; exact h) HGI.out.1 ?_ ?_ ?_ ?_); rfl; rfl; rfl) | ((with_reducible refine store_fact_row (o := ⟨none, _, _, _, _, _⟩) (.tmp 8) (.tmp 46) NO cgg _ HRO.out HGI.out.1 HOS.out HGI.out.2.1 ?_ ?_ ?_ ?_ ?_); rfl; rfl; rfl; rfl))
            go_roundw
            case rel =>
              have hst : inEff (fun f => f.n 9 == x) p (l.take (i + 1)) = some gg := by rw [HST.out]; unfold stepE; simp [HC1.out, HC2.out]
              exact ⟨i + 1, by go_num, by have := HH1.out; omega, by rw [hst]; rfl, Lib.hid ⟨by rw [hst]; exact (by rw [show ((some gg).getD zf).cells = cgg from HCG.out]; exact setRow_at HRP.out.2), below_setRow HBN.out (Nat.le_refl _)⟩⟩
            case measure => simp [RowKit.intOf]; have := HH1.out; omega
      | some g =>
        cases c1
        · go_wp2_with (first | ((with_reducible refine load_at (o := ⟨some 24, _, _, _, _, _⟩) (.tmp 23) b (o + i * 18) cgg HL0.out HGI.out.1 ?_ ?_ ?_ ?_); rfl; rfl; rfl) | ((with_reducible refine store_cs (o := ⟨none, _, _, _, _, _⟩) (.tmp 11) (.tmp 24) wr.heap.size rfl _ cgg HGI.out.1 HGI.out.2.1 HGI.out.2.2 ?_ ?_ ?_ ?_ ?_); rfl; rfl; rfl; rfl))
          go_roundw
          case rel =>
            have hst : inEff (fun f => f.n 9 == x) p (l.take (i + 1)) = some g := by rw [HST.out]; unfold stepE; simp [HC1.out, ]
            exact ⟨i + 1, by go_num, by have := HH1.out; omega, by rw [hst]; rfl, Lib.hid ⟨by rw [hst]; exact HRP.out.2, HBN.out⟩⟩
          case measure => simp [RowKit.intOf]; have := HH1.out; omega
        · cases c2
          · go_wp2_with (first | ((with_reducible refine load_at (o := ⟨some 24, _, _, _, _, _⟩) (.tmp 23) b (o + i * 18) cgg HL0.out HGI.out.1 ?_ ?_ ?_ ?_); rfl; rfl; rfl) | ((with_reducible refine store_cs (o := ⟨none, _, _, _, _, _⟩) (.tmp 11) (.tmp 24) wr.heap.size rfl _ cgg HGI.out.1 HGI.out.2.1 HGI.out.2.2 ?_ ?_ ?_ ?_ ?_); rfl; rfl; rfl; rfl))
            go_roundw
            case rel =>
              have hst : inEff (fun f => f.n 9 == x) p (l.take (i + 1)) = some g := by rw [HST.out]; unfold stepE; simp [HC1.out, HC2.out]
              exact ⟨i + 1, by go_num, by have := HH1.out; omega, by rw [hst]; rfl, Lib.hid ⟨by rw [hst]; exact HRP.out.2, HBN.out⟩⟩
            case measure => simp [RowKit.intOf]; have := HH1.out; omega
          · obtain ⟨c3, hc3⟩ : ∃ z, decide (g.n 11 < gg.n 11) = z := ⟨_, rfl⟩
            have HC3 := Lib.hid hc3
            cases c3
            · go_wp2_with (first | ((with_reducible refine load_at (o := ⟨some 24, _, _, _, _, _⟩) (.tmp 23) b (o + i * 18) cgg HL0.out HGI.out.1 ?_ ?_ ?_ ?_); rfl; rfl; rfl) | ((with_reducible refine store_cs (o := ⟨none, _, _, _, _, _⟩) (.tmp 11) (.tmp 24) wr.heap.size rfl _ cgg HGI.out.1 HGI.out.2.1 HGI.out.2.2 ?_ ?_ ?_ ?_ ?_); rfl; rfl; rfl; rfl))
              go_roundw
              case rel =>
                have hst : inEff (fun f => f.n 9 == x) p (l.take (i + 1)) = some g := by rw [HST.out]; unfold stepE; simp [HC1.out, HC2.out, HC3.out]
                exact ⟨i + 1, by go_num, by have := HH1.out; omega, by rw [hst]; rfl, Lib.hid ⟨by rw [hst]; exact HRP.out.2, HBN.out⟩⟩
              case measure => simp [RowKit.intOf]; have := HH1.out; omega
            · have HRO : Hid (RowAt (wr.alloc (.cells cgg 34)) NO 34 (g).cells) := Lib.hid HRP.out.2
              have HOS : Hid ((g).cells.size = cgg.size) := Lib.hid (by rw [← HCG.out, FactV.cells_size, FactV.cells_size])
              go_wp2_with (first | ((with_reducible refine load_at (o := ⟨some 24, _, _, _, _, _⟩) (.tmp 23) b (o + i * 18) cgg HL0.out HGI.out.1 ?_ ?_ ?_ ?_); rfl; rfl; rfl) | ((with_reducible refine store_cs (o := ⟨none, _, _, _, _, _⟩) (.tmp 11) (.tmp 24) wr.heap.size rfl _ cgg HGI.out.1 HGI.out.2.1 HGI.out.2.2 ?_ ?_ ?_ ?_ ?_); rfl; rfl; rfl; rfl) | ((with_reducible refine load_cs (o := ⟨some 46, _, _, _, _, _⟩) (.tmp 11) wr.heap.size cgg (fun j v h => by rw [Nat.zero_add, HRP.out.1.cell]; exact h) HGI.out.1 ?_ ?_ ?_ ?_); rfl; rfl; rfl) | ((with_reducible refine store_fact_row (o := ⟨none, _, _, _, _, _⟩) (.tmp 8) (.tmp 46) NO cgg _ HRO.out HGI.out.1 HOS.out HGI.out.2.1 ?_ ?_ ?_ ?_ ?_); rfl; rfl; rfl; rfl))
              go_roundw
              case rel =>
                have hst : inEff (fun f => f.n 9 == x) p (l.take (i + 1)) = some gg := by rw [HST.out]; unfold stepE; simp [HC1.out, HC2.out, HC3.out]
                exact ⟨i + 1, by go_num, by have := HH1.out; omega, by rw [hst]; rfl, Lib.hid ⟨by rw [hst]; exact (by rw [show ((some gg).getD zf).cells = cgg from HCG.out]; exact setRow_at HRP.out.2), below_setRow HBN.out (Nat.le_refl _)⟩⟩
              case measure => simp [RowKit.intOf]; have := HH1.out; omega
    · obtain rfl : i = m := by omega
      have h1d : decide (i < i) = false := by simp
      have htk : l.take i = l := List.take_of_length_le (by rw [HM.out]; omega)
      rw [htk, ← HSP.out] at HS ⊢
      obtain ⟨oo, hoo⟩ : ∃ z, contractF LA x p = z := ⟨_, rfl⟩
      rw [hoo] at HS ⊢
      have HBF : Hid (Below w.heap.size w wr) := Lib.hid (H0.out.2.2.1.trans (HS.out.2.mono (by have := HNN.out; omega)))
      have HOO := Lib.hid hoo
      clear hoo htk
      have HOI : Hid ((Tryz.prog.info? 34).map (·.size) = some (oo.getD zf).cells.size ∧ (oo.getD zf).cells.all (·.oneCell') = true ∧ (#[.int .i64 0, .int .i64 0, .int .i64 0, .int .i64 0, .int .i64 0, .int .i64 0, .int .i64 0, .int .i64 0, .int .i64 0, .int .i64 0, .int .i64 0, .int .i64 0, .int .i64 0, .int .i64 0, .int .i64 0, .int .i64 0, .int .i64 0, .string ⟨#[]⟩] : Array Value).size = (oo.getD zf).cells.size) := Lib.hid ⟨fact_size, (oo.getD zf).cells_one, rfl⟩
      have HRR : Hid (RowAt wr (NB + 1) 34 #[.int .i64 0, .int .i64 0, .int .i64 0, .int .i64 0, .int .i64 0, .int .i64 0, .int .i64 0, .int .i64 0, .int .i64 0, .int .i64 0, .int .i64 0, .int .i64 0, .int .i64 0, .int .i64 0, .int .i64 0, .int .i64 0, .int .i64 0, .string ⟨#[]⟩]) := Lib.hid (by rw [← HNN.out.1]; exact HR1.out.below HS.out.2 (by have := HNN.out; omega))
      go_wp2_with (first | ((with_reducible refine load_cs (o := ⟨some 47, _, _, _, _, _⟩) (.tmp 8) NO (oo.getD zf).cells (fun j v h => by rw [Nat.zero_add, HS.out.1.cell]; exact h) HOI.out.1 ?_ ?_ ?_ ?_); rfl; rfl; rfl) | ((with_reducible refine store_fact_row (o := ⟨none, _, _, _, _, _⟩) (.tmp 6) (.tmp 47) (NB + 1) (oo.getD zf).cells _ HRR.out HOI.out.1 HOI.out.2.2 HOI.out.2.1 ?_ ?_ ?_ ?_ ?_); rfl; rfl; rfl; rfl))
      have hrow : (wr.setRow (NB + 1) (oo.getD zf).cells).heap[NB + 1]? = some (.cells (oo.getD zf).cells 34 (0, 0)) := setRow_at HRR.out
      exact bodyPost_ret (results_cell_tmp rfl _ _ (NB + 1) _ (oo.getD zf).cells _ _ rfl hrow Tryz.underlying34 rfl fact_size) rfl ⟨by rw [HOO.out]; rfl, below_setR HBF.out (by have := HNN.out; omega)⟩
set_option linter.unusedSimpArgs false in
set_option maxRecDepth 100000 in
set_option maxHeartbeats 8000000 in
theorem rrules_any (bs : Array Value) (LA : Nat → List FactV) (p : Int) (w : World) (h : BaseR w bs LA) (hn : ∀ q, (LA q).length ≤ 1000000) :
    Calls Tryz.prog 15 #[.agg bs, .int .i64 p] w fun e w' => e = .returned (.tuple #[.agg ((rulesF LA p).getD zf).cells, .bool (rulesF LA p).isSome]) ∧ Below w.heap.size w w' := by
  obtain ⟨v, hvq, hv⟩ := h.at_ 8 (by omega)
  have hn0 := hn 8
  have r0 := ((RowAt.new w 27 bs).alloc (.cells #[.int .i64 0, .int .i64 0, .int .i64 0, .int .i64 0, .int .i64 0, .int .i64 0, .int .i64 0, .int .i64 0, .int .i64 0, .int .i64 0, .int .i64 0, .int .i64 0, .int .i64 0, .int .i64 0, .int .i64 0, .int .i64 0, .int .i64 0, .string ⟨#[]⟩] 34)).alloc (.cells #[.int .i64 0, .int .i64 0, .int .i64 0, .int .i64 0, .int .i64 0, .int .i64 0, .int .i64 0, .int .i64 0, .int .i64 0, .int .i64 0, .int .i64 0, .int .i64 0, .int .i64 0, .int .i64 0, .int .i64 0, .int .i64 0, .int .i64 0, .string ⟨#[]⟩] 34)
  have r1 := (RowAt.new (w.alloc (.cells bs 27)) 34 #[.int .i64 0, .int .i64 0, .int .i64 0, .int .i64 0, .int .i64 0, .int .i64 0, .int .i64 0, .int .i64 0, .int .i64 0, .int .i64 0, .int .i64 0, .int .i64 0, .int .i64 0, .int .i64 0, .int .i64 0, .int .i64 0, .int .i64 0, .string ⟨#[]⟩]).alloc (.cells #[.int .i64 0, .int .i64 0, .int .i64 0, .int .i64 0, .int .i64 0, .int .i64 0, .int .i64 0, .int .i64 0, .int .i64 0, .int .i64 0, .int .i64 0, .int .i64 0, .int .i64 0, .int .i64 0, .int .i64 0, .int .i64 0, .int .i64 0, .string ⟨#[]⟩] 34)
  have r2 := RowAt.new ((w.alloc (.cells bs 27)).alloc (.cells #[.int .i64 0, .int .i64 0, .int .i64 0, .int .i64 0, .int .i64 0, .int .i64 0, .int .i64 0, .int .i64 0, .int .i64 0, .int .i64 0, .int .i64 0, .int .i64 0, .int .i64 0, .int .i64 0, .int .i64 0, .int .i64 0, .int .i64 0, .string ⟨#[]⟩] 34)) 34 #[.int .i64 0, .int .i64 0, .int .i64 0, .int .i64 0, .int .i64 0, .int .i64 0, .int .i64 0, .int .i64 0, .int .i64 0, .int .i64 0, .int .i64 0, .int .i64 0, .int .i64 0, .int .i64 0, .int .i64 0, .int .i64 0, .int .i64 0, .string ⟨#[]⟩]
  have e1 : (w.alloc (.cells bs 27)).heap.size = w.heap.size + 1 := by simp
  have e2 : ((w.alloc (.cells bs 27)).alloc (.cells #[.int .i64 0, .int .i64 0, .int .i64 0, .int .i64 0, .int .i64 0, .int .i64 0, .int .i64 0, .int .i64 0, .int .i64 0, .int .i64 0, .int .i64 0, .int .i64 0, .int .i64 0, .int .i64 0, .int .i64 0, .int .i64 0, .int .i64 0, .string ⟨#[]⟩] 34)).heap.size = w.heap.size + 2 := by simp
  rw [e1] at r1
  rw [e2] at r2
  obtain ⟨WB, hWB⟩ : ∃ z, ((w.alloc (.cells bs 27)).alloc (.cells #[.int .i64 0, .int .i64 0, .int .i64 0, .int .i64 0, .int .i64 0, .int .i64 0, .int .i64 0, .int .i64 0, .int .i64 0, .int .i64 0, .int .i64 0, .int .i64 0, .int .i64 0, .int .i64 0, .int .i64 0, .int .i64 0, .int .i64 0, .string ⟨#[]⟩] 34)).alloc (.cells #[.int .i64 0, .int .i64 0, .int .i64 0, .int .i64 0, .int .i64 0, .int .i64 0, .int .i64 0, .int .i64 0, .int .i64 0, .int .i64 0, .int .i64 0, .int .i64 0, .int .i64 0, .int .i64 0, .int .i64 0, .int .i64 0, .int .i64 0, .string ⟨#[]⟩] 34) = z := ⟨_, rfl⟩
  have hbw : Below w.heap.size w WB := by rw [← hWB]; exact (((Below.refl _ _).alloc (Nat.le_refl _) _).alloc (by simp) _).alloc (by simp; omega) _
  rw [hWB] at r0 r1 r2
  have HR1 := Lib.hid r1
  obtain ⟨NB, hNB⟩ : ∃ z, w.heap.size = z := ⟨_, rfl⟩
  obtain ⟨NO, hNO⟩ : ∃ z, w.heap.size + 2 = z := ⟨_, rfl⟩
  rw [hNB] at r0
  rw [hNO] at r2
  have HNN : Hid (w.heap.size = NB ∧ w.heap.size + 2 = NO) := Lib.hid ⟨hNB, hNO⟩
  have H0 : Hid (RowAt WB NB 27 bs ∧ RowAt WB NO 34 zf.cells ∧ Below w.heap.size w WB ∧ FactsAt w v (LA 8)) := Lib.hid ⟨r0, r2, hbw, hv⟩
  have HVQ := Lib.hid hvq
  have HWB := Lib.hid hWB
  have HSP : Hid (rulesF LA p = inEff (fun _ => true) p (LA 8)) := Lib.hid rfl
  obtain ⟨l, hl⟩ : ∃ z, LA 8 = z := ⟨_, rfl⟩
  rw [hl] at H0 HSP hn0
  obtain ⟨A, c, rfl⟩ := hv.sl
  rw [hl] at HVQ H0
  obtain ⟨m, hm⟩ : ∃ z, l.length = z := ⟨_, rfl⟩
  rw [hm] at HVQ H0 hn0
  have HM := Lib.hid hm
  have cl : WB.cell? ⟨NB, 8, none⟩ = some (.slice A m c) := by rw [H0.out.1.cell]; exact HVQ.out
  clear h hn hv hvq r0 r2 e1 hbw hWB hNB hNO hl hm
  go_enter Tryz.func15, Tryz.ntmps15
  go_upto_region 4 with fail
  rw [HWB.out, HNN.out.2, HNN.out.1]
  go_loopw [7, 8, 9] (fun v7 v8 v9 wr => ∃ i : Nat, v8 = .int .i64 i ∧ i ≤ m ∧ v7 = .bool (inEff (fun _ => true) p (l.take i)).isSome ∧ Hid (RowAt wr NO 34 ((inEff (fun _ => true) p (l.take i)).getD zf).cells ∧ Below NO WB wr)) (fun v7 v8 v9 _ => m - (RowKit.intOf v8).toNat)
  case atStart => exact ⟨0, rfl, by omega, rfl, Lib.hid ⟨H0.out.2.1, Below.refl _ _⟩⟩
  case round =>
    obtain ⟨i, rfl, hi, rfl, HS⟩ := hrel
    have HBO : Hid (NB < NO) := Lib.hid (by have := HNN.out; omega)
    have clr : wr.cell? ⟨NB, 8, none⟩ = some (.slice A m c) := (HS.out.2.cell (p := ⟨NB, 8, none⟩) HBO.out).trans cl
    by_cases h1 : i < m
    · have h1d : decide (i < m) = true := by simpa using h1
      obtain ⟨gg, hgg⟩ : ∃ x, l[i]? = some x := ⟨_, List.getElem?_eq_getElem (by have := HM.out; omega)⟩
      obtain ⟨b, o, rfl, hlt0, hcell0⟩ := H0.out.2.2.2.get hgg
      have HST := Lib.hid (inEff_take (fun _ => true) p hgg)
      have HGI : Hid ((Tryz.prog.info? 34).map (·.size) = some gg.cells.size ∧ gg.cells.all (·.oneCell') = true ∧ z18c.size = gg.cells.size) := Lib.hid ⟨fact_size, gg.cells_one, rfl⟩
      obtain ⟨cgg, hcgg⟩ : ∃ z, gg.cells = z := ⟨_, rfl⟩
      have HCG := Lib.hid hcgg
      rw [hcgg] at hcell0 HGI
      have HL0 : Hid (∀ j2 x, cgg[j2]? = some x → wr.cell? ⟨b, o + i * 18 + j2, none⟩ = some x) := Lib.hid (fun j2 x hx => (HS.out.2.cell (p := ⟨b, o + i * 18 + j2, none⟩) (by have := HNN.out; show b < NO; omega)).trans ((H0.out.2.2.1.cell (p := ⟨b, o + i * 18 + j2, none⟩) hlt0).trans (hcell0 j2 x hx)))
      obtain ⟨oo, hoo⟩ : ∃ z, inEff (fun _ => true) p (l.take i) = z := ⟨_, rfl⟩
      rw [hoo] at HST HS ⊢
      have hrp := RowAt.new wr 34 cgg
      have hro := HS.out.1.alloc (.cells cgg 34)
      have HBN : Hid (Below NO WB (wr.alloc (.cells cgg 34))) := Lib.hid (HS.out.2.alloc (Nat.le_of_lt HS.out.1.lt) _)
      have HRP := Lib.hid (And.intro hrp hro)
      have e11 : (wr.alloc (.cells cgg 34)).cell? ⟨wr.heap.size, 11, none⟩ = some (.int .i64 (gg.n 11)) := by rw [hrp.cell, ← HCG.out, cells_get gg 11 (by omega)]
      have d11 : (wr.alloc (.cells cgg 34)).cell? ⟨NO, 11, none⟩ = some (.int .i64 ((oo.getD zf).n 11)) := by rw [hro.cell, cells_get _ 11 (by omega)]
      obtain ⟨c2, hc2⟩ : ∃ z, decide (gg.n 11 ≤ p) = z := ⟨_, rfl⟩
      have HC2 := Lib.hid hc2
      have HH1 := Lib.hid h1
      clear hgg hlt0 hcell0 hcgg hoo hrp hro
      cases oo with
      | none =>
        cases c2
        · go_wp2_with (first | ((with_reducible refine load_at (o := ⟨some 22, _, _, _, _, _⟩) (.tmp 21) b (o + i * 18) cgg HL0.out HGI.out.1 ?_ ?_ ?_ ?_); rfl; rfl; rfl) | ((with_reducible refine store_cs (o := ⟨none, _, _, _, _, _⟩) (.tmp 9) (.tmp 22) wr.heap.size rfl _ cgg HGI.out.1 HGI.out.2.1 HGI.out.2.2 ?_ ?_ ?_ ?_ ?_); rfl; rfl; rfl; rfl))
          go_roundw
          case rel =>
            have hst : inEff (fun _ => true) p (l.take (i + 1)) = none := by rw [HST.out]; unfold stepE; simp [HC2.out]
            exact ⟨i + 1, by go_num, by have := HH1.out; omega, by rw [hst]; rfl, Lib.hid ⟨by rw [hst]; exact HRP.out.2, HBN.out⟩⟩
          case measure => simp [RowKit.intOf]; have := HH1.out; omega
        · have HRO : Hid (RowAt (wr.alloc (.cells cgg 34)) NO 34 (zf).cells) := Lib.hid HRP.out.2
          have HOS : Hid ((zf).cells.size = cgg.size) := Lib.hid (by rw [← HCG.out, FactV.cells_size, FactV.cells_size])
          go_wp2_with (first | ((with_reducible refine load_at (o := ⟨some 22, _, _, _, _, _⟩) (.tmp 21) b (o + i * 18) cgg HL0.out HGI.out.1 ?_ ?_ ?_ ?_); rfl; rfl; rfl) | ((with_reducible refine store_cs (o := ⟨none, _, _, _, _, _⟩) (.tmp 9) (.tmp 22) wr.heap.size rfl _ cgg HGI.out.1 HGI.out.2.1 HGI.out.2.2 ?_ ?_ ?_ ?_ ?_); rfl; rfl; rfl; rfl) | ((with_reducible refine load_cs (o := ⟨some 38, _, _, _, _, _⟩) (.tmp 9) wr.heap.size cgg (fun j v h => by rw [Nat.zero_add, HRP.out.1.cell]; exact h) HGI.out.1 ?_ ?_ ?_ ?_); rfl; rfl; rfl) | ((with_reducible refine store_fact_row (o := ⟨none, _, _, _, _, _⟩) (.tmp 6) (.tmp 38) NO cgg _ HRO.out HGI.out.1 HOS.out HGI.out.2.1 ?_ ?_ ?_ ?_ ?_); rfl; rfl; rfl; rfl))
          go_roundw
          case rel =>
            have hst : inEff (fun _ => true) p (l.take (i + 1)) = some gg := by rw [HST.out]; unfold stepE; simp [HC2.out]
            exact ⟨i + 1, by go_num, by have := HH1.out; omega, by rw [hst]; rfl, Lib.hid ⟨by rw [hst]; exact (by rw [show ((some gg).getD zf).cells = cgg from HCG.out]; exact setRow_at HRP.out.2), below_setRow HBN.out (Nat.le_refl _)⟩⟩
          case measure => simp [RowKit.intOf]; have := HH1.out; omega
      | some g =>
        cases c2
        · go_wp2_with (first | ((with_reducible refine load_at (o := ⟨some 22, _, _, _, _, _⟩) (.tmp 21) b (o + i * 18) cgg HL0.out HGI.out.1 ?_ ?_ ?_ ?_); rfl; rfl; rfl) | ((with_reducible refine store_cs (o := ⟨none, _, _, _, _, _⟩) (.tmp 9) (.tmp 22) wr.heap.size rfl _ cgg HGI.out.1 HGI.out.2.1 HGI.out.2.2 ?_ ?_ ?_ ?_ ?_); rfl; rfl; rfl; rfl))
          go_roundw
          case rel =>
            have hst : inEff (fun _ => true) p (l.take (i + 1)) = some g := by rw [HST.out]; unfold stepE; simp [HC2.out]
            exact ⟨i + 1, by go_num, by have := HH1.out; omega, by rw [hst]; rfl, Lib.hid ⟨by rw [hst]; exact HRP.out.2, HBN.out⟩⟩
          case measure => simp [RowKit.intOf]; have := HH1.out; omega
        · obtain ⟨c3, hc3⟩ : ∃ z, decide (g.n 11 < gg.n 11) = z := ⟨_, rfl⟩
          have HC3 := Lib.hid hc3
          cases c3
          · go_wp2_with (first | ((with_reducible refine load_at (o := ⟨some 22, _, _, _, _, _⟩) (.tmp 21) b (o + i * 18) cgg HL0.out HGI.out.1 ?_ ?_ ?_ ?_); rfl; rfl; rfl) | ((with_reducible refine store_cs (o := ⟨none, _, _, _, _, _⟩) (.tmp 9) (.tmp 22) wr.heap.size rfl _ cgg HGI.out.1 HGI.out.2.1 HGI.out.2.2 ?_ ?_ ?_ ?_ ?_); rfl; rfl; rfl; rfl))
            go_roundw
            case rel =>
              have hst : inEff (fun _ => true) p (l.take (i + 1)) = some g := by rw [HST.out]; unfold stepE; simp [HC2.out, HC3.out]
              exact ⟨i + 1, by go_num, by have := HH1.out; omega, by rw [hst]; rfl, Lib.hid ⟨by rw [hst]; exact HRP.out.2, HBN.out⟩⟩
            case measure => simp [RowKit.intOf]; have := HH1.out; omega
          · have HRO : Hid (RowAt (wr.alloc (.cells cgg 34)) NO 34 (g).cells) := Lib.hid HRP.out.2
            have HOS : Hid ((g).cells.size = cgg.size) := Lib.hid (by rw [← HCG.out, FactV.cells_size, FactV.cells_size])
            go_wp2_with (first | ((with_reducible refine load_at (o := ⟨some 22, _, _, _, _, _⟩) (.tmp 21) b (o + i * 18) cgg HL0.out HGI.out.1 ?_ ?_ ?_ ?_); rfl; rfl; rfl) | ((with_reducible refine store_cs (o := ⟨none, _, _, _, _, _⟩) (.tmp 9) (.tmp 22) wr.heap.size rfl _ cgg HGI.out.1 HGI.out.2.1 HGI.out.2.2 ?_ ?_ ?_ ?_ ?_); rfl; rfl; rfl; rfl) | ((with_reducible refine load_cs (o := ⟨some 38, _, _, _, _, _⟩) (.tmp 9) wr.heap.size cgg (fun j v h => by rw [Nat.zero_add, HRP.out.1.cell]; exact h) HGI.out.1 ?_ ?_ ?_ ?_); rfl; rfl; rfl) | ((with_reducible refine store_fact_row (o := ⟨none, _, _, _, _, _⟩) (.tmp 6) (.tmp 38) NO cgg _ HRO.out HGI.out.1 HOS.out HGI.out.2.1 ?_ ?_ ?_ ?_ ?_); rfl; rfl; rfl; rfl))
            go_roundw
            case rel =>
              have hst : inEff (fun _ => true) p (l.take (i + 1)) = some gg := by rw [HST.out]; unfold stepE; simp [HC2.out, HC3.out]
              exact ⟨i + 1, by go_num, by have := HH1.out; omega, by rw [hst]; rfl, Lib.hid ⟨by rw [hst]; exact (by rw [show ((some gg).getD zf).cells = cgg from HCG.out]; exact setRow_at HRP.out.2), below_setRow HBN.out (Nat.le_refl _)⟩⟩
            case measure => simp [RowKit.intOf]; have := HH1.out; omega
    · obtain rfl : i = m := by omega
      have h1d : decide (i < i) = false := by simp
      have htk : l.take i = l := List.take_of_length_le (by rw [HM.out]; omega)
      rw [htk, ← HSP.out] at HS ⊢
      obtain ⟨oo, hoo⟩ : ∃ z, rulesF LA p = z := ⟨_, rfl⟩
      rw [hoo] at HS ⊢
      have HBF : Hid (Below w.heap.size w wr) := Lib.hid (H0.out.2.2.1.trans (HS.out.2.mono (by have := HNN.out; omega)))
      have HOO := Lib.hid hoo
      clear hoo htk
      have HOI : Hid ((Tryz.prog.info? 34).map (·.size) = some (oo.getD zf).cells.size ∧ (oo.getD zf).cells.all (·.oneCell') = true ∧ (#[.int .i64 0, .int .i64 0, .int .i64 0, .int .i64 0, .int .i64 0, .int .i64 0, .int .i64 0, .int .i64 0, .int .i64 0, .int .i64 0, .int .i64 0, .int .i64 0, .int .i64 0, .int .i64 0, .int .i64 0, .int .i64 0, .int .i64 0, .string ⟨#[]⟩] : Array Value).size = (oo.getD zf).cells.size) := Lib.hid ⟨fact_size, (oo.getD zf).cells_one, rfl⟩
      have HRR : Hid (RowAt wr (NB + 1) 34 #[.int .i64 0, .int .i64 0, .int .i64 0, .int .i64 0, .int .i64 0, .int .i64 0, .int .i64 0, .int .i64 0, .int .i64 0, .int .i64 0, .int .i64 0, .int .i64 0, .int .i64 0, .int .i64 0, .int .i64 0, .int .i64 0, .int .i64 0, .string ⟨#[]⟩]) := Lib.hid (by rw [← HNN.out.1]; exact HR1.out.below HS.out.2 (by have := HNN.out; omega))
      go_wp2_with (first | ((with_reducible refine load_cs (o := ⟨some 39, _, _, _, _, _⟩) (.tmp 6) NO (oo.getD zf).cells (fun j v h => by rw [Nat.zero_add, HS.out.1.cell]; exact h) HOI.out.1 ?_ ?_ ?_ ?_); rfl; rfl; rfl) | ((with_reducible refine store_fact_row (o := ⟨none, _, _, _, _, _⟩) (.tmp 4) (.tmp 39) (NB + 1) (oo.getD zf).cells _ HRR.out HOI.out.1 HOI.out.2.2 HOI.out.2.1 ?_ ?_ ?_ ?_ ?_); rfl; rfl; rfl; rfl))
      have hrow : (wr.setRow (NB + 1) (oo.getD zf).cells).heap[NB + 1]? = some (.cells (oo.getD zf).cells 34 (0, 0)) := setRow_at HRR.out
      exact bodyPost_ret (results_cell_tmp rfl _ _ (NB + 1) _ (oo.getD zf).cells _ _ rfl hrow Tryz.underlying34 rfl fact_size) rfl ⟨by rw [HOO.out]; rfl, below_setR HBF.out (by have := HNN.out; omega)⟩
set_option linter.unusedSimpArgs false in
set_option maxRecDepth 100000 in
set_option maxHeartbeats 8000000 in
theorem rmethod_any (bs : Array Value) (LA : Nat → List FactV) (x p : Int) (w : World) (h : BaseR w bs LA) (hn : ∀ q, (LA q).length ≤ 1000000) :
    Calls Tryz.prog 18 #[.agg bs, .int .i64 x, .int .i64 p] w fun e w' => e = .returned (.int .i64 (methV (methodF LA x p))) ∧ Below w.heap.size w w' := by
  obtain ⟨v, hvq, hv⟩ := h.at_ 9 (by omega)
  have hn0 := hn 9
  have r0 := (RowAt.new w 27 bs).alloc (.cells #[.int .i64 0, .int .i64 0, .int .i64 0, .int .i64 0, .int .i64 0, .int .i64 0, .int .i64 0, .int .i64 0, .int .i64 0, .int .i64 0, .int .i64 0, .int .i64 0, .int .i64 0, .int .i64 0, .int .i64 0, .int .i64 0, .int .i64 0, .string ⟨#[]⟩] 34)
  have r2 := RowAt.new (w.alloc (.cells bs 27)) 34 #[.int .i64 0, .int .i64 0, .int .i64 0, .int .i64 0, .int .i64 0, .int .i64 0, .int .i64 0, .int .i64 0, .int .i64 0, .int .i64 0, .int .i64 0, .int .i64 0, .int .i64 0, .int .i64 0, .int .i64 0, .int .i64 0, .int .i64 0, .string ⟨#[]⟩]
  have e1 : (w.alloc (.cells bs 27)).heap.size = w.heap.size + 1 := by simp
  rw [e1] at r2
  obtain ⟨WB, hWB⟩ : ∃ z, (w.alloc (.cells bs 27)).alloc (.cells #[.int .i64 0, .int .i64 0, .int .i64 0, .int .i64 0, .int .i64 0, .int .i64 0, .int .i64 0, .int .i64 0, .int .i64 0, .int .i64 0, .int .i64 0, .int .i64 0, .int .i64 0, .int .i64 0, .int .i64 0, .int .i64 0, .int .i64 0, .string ⟨#[]⟩] 34) = z := ⟨_, rfl⟩
  have hbw : Below w.heap.size w WB := by rw [← hWB]; exact ((Below.refl _ _).alloc (Nat.le_refl _) _).alloc (by simp) _
  rw [hWB] at r0 r2
  obtain ⟨NB, hNB⟩ : ∃ z, w.heap.size = z := ⟨_, rfl⟩
  obtain ⟨NO, hNO⟩ : ∃ z, w.heap.size + 1 = z := ⟨_, rfl⟩
  rw [hNB] at r0
  rw [hNO] at r2
  have HNN : Hid (w.heap.size = NB ∧ w.heap.size + 1 = NO) := Lib.hid ⟨hNB, hNO⟩
  have H0 : Hid (RowAt WB NB 27 bs ∧ RowAt WB NO 34 zf.cells ∧ Below w.heap.size w WB ∧ FactsAt w v (LA 9)) := Lib.hid ⟨r0, r2, hbw, hv⟩
  have HVQ := Lib.hid hvq
  have HWB := Lib.hid hWB
  have HSP : Hid (methodF LA x p = inEff (fun f => f.n 8 == x) p (LA 9)) := Lib.hid rfl
  obtain ⟨l, hl⟩ : ∃ z, LA 9 = z := ⟨_, rfl⟩
  rw [hl] at H0 HSP hn0
  obtain ⟨A, c, rfl⟩ := hv.sl
  rw [hl] at HVQ H0
  obtain ⟨m, hm⟩ : ∃ z, l.length = z := ⟨_, rfl⟩
  rw [hm] at HVQ H0 hn0
  have HM := Lib.hid hm
  have cl : WB.cell? ⟨NB, 9, none⟩ = some (.slice A m c) := by rw [H0.out.1.cell]; exact HVQ.out
  clear h hn hv hvq r0 r2 e1 hbw hWB hNB hNO hl hm
  go_enter Tryz.func18, Tryz.ntmps18
  go_upto_region 4 with fail
  rw [HWB.out, HNN.out.2, HNN.out.1]
  go_loopw [8, 9, 10] (fun v8 v9 v10 wr => ∃ i : Nat, v9 = .int .i64 i ∧ i ≤ m ∧ v8 = .bool (inEff (fun f => f.n 8 == x) p (l.take i)).isSome ∧ Hid (RowAt wr NO 34 ((inEff (fun f => f.n 8 == x) p (l.take i)).getD zf).cells ∧ Below NO WB wr)) (fun v8 v9 v10 _ => m - (RowKit.intOf v9).toNat)
  case atStart => exact ⟨0, rfl, by omega, rfl, Lib.hid ⟨H0.out.2.1, Below.refl _ _⟩⟩
  case round =>
    obtain ⟨i, rfl, hi, rfl, HS⟩ := hrel
    have HBO : Hid (NB < NO) := Lib.hid (by have := HNN.out; omega)
    have clr : wr.cell? ⟨NB, 9, none⟩ = some (.slice A m c) := (HS.out.2.cell (p := ⟨NB, 9, none⟩) HBO.out).trans cl
    by_cases h1 : i < m
    · have h1d : decide (i < m) = true := by simpa using h1
      obtain ⟨gg, hgg⟩ : ∃ x, l[i]? = some x := ⟨_, List.getElem?_eq_getElem (by have := HM.out; omega)⟩
      obtain ⟨b, o, rfl, hlt0, hcell0⟩ := H0.out.2.2.2.get hgg
      have HST := Lib.hid (inEff_take (fun f => f.n 8 == x) p hgg)
      have HGI : Hid ((Tryz.prog.info? 34).map (·.size) = some gg.cells.size ∧ gg.cells.all (·.oneCell') = true ∧ z18c.size = gg.cells.size) := Lib.hid ⟨fact_size, gg.cells_one, rfl⟩
      obtain ⟨cgg, hcgg⟩ : ∃ z, gg.cells = z := ⟨_, rfl⟩
      have HCG := Lib.hid hcgg
      rw [hcgg] at hcell0 HGI
      have HL0 : Hid (∀ j2 x, cgg[j2]? = some x → wr.cell? ⟨b, o + i * 18 + j2, none⟩ = some x) := Lib.hid (fun j2 x hx => (HS.out.2.cell (p := ⟨b, o + i * 18 + j2, none⟩) (by have := HNN.out; show b < NO; omega)).trans ((H0.out.2.2.1.cell (p := ⟨b, o + i * 18 + j2, none⟩) hlt0).trans (hcell0 j2 x hx)))
      obtain ⟨oo, hoo⟩ : ∃ z, inEff (fun f => f.n 8 == x) p (l.take i) = z := ⟨_, rfl⟩
      rw [hoo] at HST HS ⊢
      have hrp := RowAt.new wr 34 cgg
      have hro := HS.out.1.alloc (.cells cgg 34)
      have HBN : Hid (Below NO WB (wr.alloc (.cells cgg 34))) := Lib.hid (HS.out.2.alloc (Nat.le_of_lt HS.out.1.lt) _)
      have HRP := Lib.hid (And.intro hrp hro)
      have e11 : (wr.alloc (.cells cgg 34)).cell? ⟨wr.heap.size, 11, none⟩ = some (.int .i64 (gg.n 11)) := by rw [hrp.cell, ← HCG.out, cells_get gg 11 (by omega)]
      have d11 : (wr.alloc (.cells cgg 34)).cell? ⟨NO, 11, none⟩ = some (.int .i64 ((oo.getD zf).n 11)) := by rw [hro.cell, cells_get _ 11 (by omega)]
      have etst : (wr.alloc (.cells cgg 34)).cell? ⟨wr.heap.size, 8, none⟩ = some (.int .i64 (gg.n 8)) := by rw [hrp.cell, ← HCG.out, cells_get gg 8 (by omega)]
      obtain ⟨c1, hc1⟩ : ∃ z, (gg.n 8 == x) = z := ⟨_, rfl⟩
      have HC1 := Lib.hid hc1
      obtain ⟨c2, hc2⟩ : ∃ z, decide (gg.n 11 ≤ p) = z := ⟨_, rfl⟩
      have HC2 := Lib.hid hc2
      have HH1 := Lib.hid h1
      clear hgg hlt0 hcell0 hcgg hoo hrp hro
      cases oo with
      | none =>
        cases c1
        · go_wp2_with (first | ((with_reducible refine load_at (o := ⟨some 23, _, _, _, _, _⟩) (.tmp 22) b (o + i * 18) cgg HL0.out HGI.out.1 ?_ ?_ ?_ ?_); rfl; rfl; rfl) | ((with_reducible refine store_cs (o := ⟨none, _, _, _, _, _⟩) (.tmp 10) (.tmp 23) wr.heap.size rfl _ cgg HGI.out.1 HGI.out.2.1 HGI.out.2.2 ?_ ?_ ?_ ?_ ?_); rfl; rfl; rfl; rfl))
          go_roundw
          case rel =>
            have hst : inEff (fun f => f.n 8 == x) p (l.take (i + 1)) = none := by rw [HST.out]; unfold stepE; simp [HC1.out, ]
            exact ⟨i + 1, by go_num, by have := HH1.out; omega, by rw [hst]; rfl, Lib.hid ⟨by rw [hst]; exact HRP.out.2, HBN.out⟩⟩
          case measure => simp [RowKit.intOf]; have := HH1.out; omega
        · cases c2
          · go_wp2_with (first | ((with_reducible refine load_at (o := ⟨some 23, _, _, _, _, _⟩) (.tmp 22) b (o + i * 18) cgg HL0.out HGI.out.1 ?_ ?_ ?_ ?_); rfl; rfl; rfl) | ((with_reducible refine store_cs (o := ⟨none, _, _, _, _, _⟩) (.tmp 10) (.tmp 23) wr.heap.size rfl _ cgg HGI.out.1 HGI.out.2.1 HGI.out.2.2 ?_ ?_ ?_ ?_ ?_); rfl; rfl; rfl; rfl))
            go_roundw
            case rel =>
              have hst : inEff (fun f => f.n 8 == x) p (l.take (i + 1)) = none := by rw [HST.out]; unfold stepE; simp [HC1.out, HC2.out]
              exact ⟨i + 1, by go_num, by have := HH1.out; omega, by rw [hst]; rfl, Lib.hid ⟨by rw [hst]; exact HRP.out.2, HBN.out⟩⟩
            case measure => simp [RowKit.intOf]; have := HH1.out; omega
          · have HRO : Hid (RowAt (wr.alloc (.cells cgg 34)) NO 34 (zf).cells) := Lib.hid HRP.out.2
            have HOS : Hid ((zf).cells.size = cgg.size) := Lib.hid (by rw [← HCG.out, FactV.cells_size, FactV.cells_size])
            go_wp2_with (first | ((with_reducible refine load_at (o := ⟨some 23, _, _, _, _, _⟩) (.tmp 22) b (o + i * 18) cgg HL0.out HGI.out.1 ?_ ?_ ?_ ?_); rfl; rfl; rfl) | ((with_reducible refine store_cs (o := ⟨none, _, _, _, _, _⟩) (.tmp 10) (.tmp 23) wr.heap.size rfl _ cgg HGI.out.1 HGI.out.2.1 HGI.out.2.2 ?_ ?_ ?_ ?_ ?_); rfl; rfl; rfl; rfl) | ((with_reducible refine load_cs (o := ⟨some 45, _, _, _, _, _⟩) (.tmp 10) wr.heap.size cgg (fun j v h => by rw [Nat.zero_add, HRP.out.1.cell]; exact h) HGI.out.1 ?_ ?_ ?_ ?_); rfl; rfl; rfl) | ((with_reducible refine store_fact_row (o := ⟨none, _, _, _, _, _⟩) (.tmp 7) (.tmp 45) NO cgg _ HRO.out HGI.out.1 HOS.out HGI.out.2.1 ?_ ?_ ?_ ?_ ?_); rfl; rfl; rfl; rfl))
            go_roundw
            case rel =>
              have hst : inEff (fun f => f.n 8 == x) p (l.take (i + 1)) = some gg := by rw [HST.out]; unfold stepE; simp [HC1.out, HC2.out]
              exact ⟨i + 1, by go_num, by have := HH1.out; omega, by rw [hst]; rfl, Lib.hid ⟨by rw [hst]; exact (by rw [show ((some gg).getD zf).cells = cgg from HCG.out]; exact setRow_at HRP.out.2), below_setRow HBN.out (Nat.le_refl _)⟩⟩
            case measure => simp [RowKit.intOf]; have := HH1.out; omega
      | some g =>
        cases c1
        · go_wp2_with (first | ((with_reducible refine load_at (o := ⟨some 23, _, _, _, _, _⟩) (.tmp 22) b (o + i * 18) cgg HL0.out HGI.out.1 ?_ ?_ ?_ ?_); rfl; rfl; rfl) | ((with_reducible refine store_cs (o := ⟨none, _, _, _, _, _⟩) (.tmp 10) (.tmp 23) wr.heap.size rfl _ cgg HGI.out.1 HGI.out.2.1 HGI.out.2.2 ?_ ?_ ?_ ?_ ?_); rfl; rfl; rfl; rfl))
          go_roundw
          case rel =>
            have hst : inEff (fun f => f.n 8 == x) p (l.take (i + 1)) = some g := by rw [HST.out]; unfold stepE; simp [HC1.out, ]
            exact ⟨i + 1, by go_num, by have := HH1.out; omega, by rw [hst]; rfl, Lib.hid ⟨by rw [hst]; exact HRP.out.2, HBN.out⟩⟩
          case measure => simp [RowKit.intOf]; have := HH1.out; omega
        · cases c2
          · go_wp2_with (first | ((with_reducible refine load_at (o := ⟨some 23, _, _, _, _, _⟩) (.tmp 22) b (o + i * 18) cgg HL0.out HGI.out.1 ?_ ?_ ?_ ?_); rfl; rfl; rfl) | ((with_reducible refine store_cs (o := ⟨none, _, _, _, _, _⟩) (.tmp 10) (.tmp 23) wr.heap.size rfl _ cgg HGI.out.1 HGI.out.2.1 HGI.out.2.2 ?_ ?_ ?_ ?_ ?_); rfl; rfl; rfl; rfl))
            go_roundw
            case rel =>
              have hst : inEff (fun f => f.n 8 == x) p (l.take (i + 1)) = some g := by rw [HST.out]; unfold stepE; simp [HC1.out, HC2.out]
              exact ⟨i + 1, by go_num, by have := HH1.out; omega, by rw [hst]; rfl, Lib.hid ⟨by rw [hst]; exact HRP.out.2, HBN.out⟩⟩
            case measure => simp [RowKit.intOf]; have := HH1.out; omega
          · obtain ⟨c3, hc3⟩ : ∃ z, decide (g.n 11 < gg.n 11) = z := ⟨_, rfl⟩
            have HC3 := Lib.hid hc3
            cases c3
            · go_wp2_with (first | ((with_reducible refine load_at (o := ⟨some 23, _, _, _, _, _⟩) (.tmp 22) b (o + i * 18) cgg HL0.out HGI.out.1 ?_ ?_ ?_ ?_); rfl; rfl; rfl) | ((with_reducible refine store_cs (o := ⟨none, _, _, _, _, _⟩) (.tmp 10) (.tmp 23) wr.heap.size rfl _ cgg HGI.out.1 HGI.out.2.1 HGI.out.2.2 ?_ ?_ ?_ ?_ ?_); rfl; rfl; rfl; rfl))
              go_roundw
              case rel =>
                have hst : inEff (fun f => f.n 8 == x) p (l.take (i + 1)) = some g := by rw [HST.out]; unfold stepE; simp [HC1.out, HC2.out, HC3.out]
                exact ⟨i + 1, by go_num, by have := HH1.out; omega, by rw [hst]; rfl, Lib.hid ⟨by rw [hst]; exact HRP.out.2, HBN.out⟩⟩
              case measure => simp [RowKit.intOf]; have := HH1.out; omega
            · have HRO : Hid (RowAt (wr.alloc (.cells cgg 34)) NO 34 (g).cells) := Lib.hid HRP.out.2
              have HOS : Hid ((g).cells.size = cgg.size) := Lib.hid (by rw [← HCG.out, FactV.cells_size, FactV.cells_size])
              go_wp2_with (first | ((with_reducible refine load_at (o := ⟨some 23, _, _, _, _, _⟩) (.tmp 22) b (o + i * 18) cgg HL0.out HGI.out.1 ?_ ?_ ?_ ?_); rfl; rfl; rfl) | ((with_reducible refine store_cs (o := ⟨none, _, _, _, _, _⟩) (.tmp 10) (.tmp 23) wr.heap.size rfl _ cgg HGI.out.1 HGI.out.2.1 HGI.out.2.2 ?_ ?_ ?_ ?_ ?_); rfl; rfl; rfl; rfl) | ((with_reducible refine load_cs (o := ⟨some 45, _, _, _, _, _⟩) (.tmp 10) wr.heap.size cgg (fun j v h => by rw [Nat.zero_add, HRP.out.1.cell]; exact h) HGI.out.1 ?_ ?_ ?_ ?_); rfl; rfl; rfl) | ((with_reducible refine store_fact_row (o := ⟨none, _, _, _, _, _⟩) (.tmp 7) (.tmp 45) NO cgg _ HRO.out HGI.out.1 HOS.out HGI.out.2.1 ?_ ?_ ?_ ?_ ?_); rfl; rfl; rfl; rfl))
              go_roundw
              case rel =>
                have hst : inEff (fun f => f.n 8 == x) p (l.take (i + 1)) = some gg := by rw [HST.out]; unfold stepE; simp [HC1.out, HC2.out, HC3.out]
                exact ⟨i + 1, by go_num, by have := HH1.out; omega, by rw [hst]; rfl, Lib.hid ⟨by rw [hst]; exact (by rw [show ((some gg).getD zf).cells = cgg from HCG.out]; exact setRow_at HRP.out.2), below_setRow HBN.out (Nat.le_refl _)⟩⟩
              case measure => simp [RowKit.intOf]; have := HH1.out; omega
    · obtain rfl : i = m := by omega
      have h1d : decide (i < i) = false := by simp
      have htk : l.take i = l := List.take_of_length_le (by rw [HM.out]; omega)
      rw [htk, ← HSP.out] at HS ⊢
      obtain ⟨oo, hoo⟩ : ∃ z, methodF LA x p = z := ⟨_, rfl⟩
      rw [hoo] at HS ⊢
      have HBF : Hid (Below w.heap.size w wr) := Lib.hid (H0.out.2.2.1.trans (HS.out.2.mono (by have := HNN.out; omega)))
      have HOO := Lib.hid hoo
      clear hoo htk
      cases oo with
      | none =>
        go_wp2_with fail
        go_ret
        exact ⟨by rw [HOO.out]; rfl, HBF.out⟩
      | some g =>
        have d16 : wr.cell? ⟨NO, 16, none⟩ = some (.int .i64 (g.n 16)) := by rw [HS.out.1.cell, show ((some g).getD zf) = g from rfl, cells_get g 16 (by omega)]
        go_wp2_with fail
        go_ret
        exact ⟨by rw [HOO.out]; rfl, HBF.out⟩
end Go.Proofs.YtgjajhopjcdflaaGreat
namespace Go.Proofs.YtgjajhopjcdflaaGreat
open Go Go.RowKit Go.Lib Go.Shelf Go.Maps

def devTest (d n : Int) (f : FactV) : Bool := f.n 6 == d && f.n 1 == n
set_option linter.unusedSimpArgs false in
set_option maxRecDepth 100000 in
set_option maxHeartbeats 8000000 in
theorem rofd_any (fs : List FactV) (v : Value) (d n : Int) (w : World) (hn : fs.length ≤ 1000000) (hv : FactsAt w v fs) :
    Calls Tryz.prog 48 #[v, .int .i64 d, .int .i64 n] w fun e w' => e = .returned (.tuple #[.agg (firstSpec (devTest d n) fs).1.cells, .bool (firstSpec (devTest d n) fs).2]) ∧ Below w.heap.size w w' := by
  have HV := Lib.hid hv
  obtain ⟨A, c, rfl⟩ := hv.sl
  obtain ⟨m, hm⟩ : ∃ z, fs.length = z := ⟨_, rfl⟩
  rw [hm] at HV hn ⊢
  have HM := Lib.hid hm
  obtain ⟨WB, hWB⟩ : ∃ z, w.alloc (.cells #[.int .i64 0, .int .i64 0, .int .i64 0, .int .i64 0, .int .i64 0, .int .i64 0, .int .i64 0, .int .i64 0, .int .i64 0, .int .i64 0, .int .i64 0, .int .i64 0, .int .i64 0, .int .i64 0, .int .i64 0, .int .i64 0, .int .i64 0, .string ⟨#[]⟩] 34) = z := ⟨_, rfl⟩
  have hr := RowAt.new w 34 #[.int .i64 0, .int .i64 0, .int .i64 0, .int .i64 0, .int .i64 0, .int .i64 0, .int .i64 0, .int .i64 0, .int .i64 0, .int .i64 0, .int .i64 0, .int .i64 0, .int .i64 0, .int .i64 0, .int .i64 0, .int .i64 0, .int .i64 0, .string ⟨#[]⟩]
  have hbw := (Below.refl w.heap.size w).alloc (Nat.le_refl _) (.cells #[.int .i64 0, .int .i64 0, .int .i64 0, .int .i64 0, .int .i64 0, .int .i64 0, .int .i64 0, .int .i64 0, .int .i64 0, .int .i64 0, .int .i64 0, .int .i64 0, .int .i64 0, .int .i64 0, .int .i64 0, .int .i64 0, .int .i64 0, .string ⟨#[]⟩] 34)
  rw [hWB] at hr hbw
  have H0 : Hid (RowAt WB w.heap.size 34 #[.int .i64 0, .int .i64 0, .int .i64 0, .int .i64 0, .int .i64 0, .int .i64 0, .int .i64 0, .int .i64 0, .int .i64 0, .int .i64 0, .int .i64 0, .int .i64 0, .int .i64 0, .int .i64 0, .int .i64 0, .int .i64 0, .int .i64 0, .string ⟨#[]⟩] ∧ Below w.heap.size w WB) := Lib.hid ⟨hr, hbw⟩
  have HWB := Lib.hid hWB
  clear hv hm hr hbw hWB
  go_enter Tryz.func48, Tryz.ntmps48
  go_upto_region 2 with fail
  rw [HWB.out]
  go_loopw [8] (fun v8 wr => ∃ i : Nat, v8 = .int .i64 i ∧ i ≤ m ∧ Hid (WB = wr ∧ fs.find? (devTest d n) = (fs.drop i).find? (devTest d n))) (fun v8 _ => m - (RowKit.intOf v8).toNat)
  case atStart => exact ⟨0, rfl, by omega, Lib.hid ⟨rfl, by simp⟩⟩
  case round =>
    obtain ⟨i, rfl, hi, HS⟩ := hrel
    obtain rfl := HS.out.1
    by_cases h1 : i < m
    · have h1d : decide (i < m) = true := by simpa using h1
      obtain ⟨gg, hgg⟩ : ∃ x, fs[i]? = some x := ⟨_, List.getElem?_eq_getElem (by have := HM.out; omega)⟩
      obtain ⟨b, o, rfl, hlt0, hcell0⟩ := (HV.out.more H0.out.2).get hgg
      have HD := Lib.hid (drop_at hgg)
      have HGI : Hid ((Tryz.prog.info? 34).map (·.size) = some gg.cells.size ∧ gg.cells.all (·.oneCell') = true ∧ (#[.int .i64 0, .int .i64 0, .int .i64 0, .int .i64 0, .int .i64 0, .int .i64 0, .int .i64 0, .int .i64 0, .int .i64 0, .int .i64 0, .int .i64 0, .int .i64 0, .int .i64 0, .int .i64 0, .int .i64 0, .int .i64 0, .int .i64 0, .string ⟨#[]⟩] : Array Value).size = gg.cells.size) := Lib.hid ⟨fact_size, gg.cells_one, rfl⟩
      have e6 : WB.cell? ⟨b, o + i * 18 + 6, none⟩ = some (.int .i64 (gg.n 6)) := hcell0 6 _ (cells_get gg 6 (by omega))
      have e1 : WB.cell? ⟨b, o + i * 18 + 1, none⟩ = some (.int .i64 (gg.n 1)) := hcell0 1 _ (cells_get gg 1 (by omega))
      have HC0 := Lib.hid hcell0
      obtain ⟨c1, hc1⟩ : ∃ z, (gg.n 6 == d) = z := ⟨_, rfl⟩
      obtain ⟨c2, hc2⟩ : ∃ z, (gg.n 1 == n) = z := ⟨_, rfl⟩
      have HT : Hid (devTest d n gg = (c1 && c2)) := Lib.hid (by unfold devTest; rw [hc1, hc2])
      have HH1 := Lib.hid h1
      clear hgg hlt0 hcell0
      have nxt : Hid ((c1 && c2) = false → fs.find? (devTest d n) = (fs.drop (i + 1)).find? (devTest d n)) := Lib.hid (fun h => by rw [HS.out.2, HD.out, List.find?_cons, HT.out, h])
      cases c1
      · go_wp2_with fail
        go_roundw
        case rel => exact ⟨i + 1, by go_num, by have := HH1.out; omega, Lib.hid ⟨by first | rfl | trivial, nxt.out rfl⟩⟩
        case measure => simp [RowKit.intOf]; have := HH1.out; omega
      · cases c2
        · go_wp2_with fail
          go_roundw
          case rel => exact ⟨i + 1, by go_num, by have := HH1.out; omega, Lib.hid ⟨by first | rfl | trivial, nxt.out rfl⟩⟩
          case measure => simp [RowKit.intOf]; have := HH1.out; omega
        · have HF : Hid (firstSpec (devTest d n) fs = (gg, true)) := Lib.hid (by
            unfold firstSpec
            rw [HS.out.2, HD.out, List.find?_cons, HT.out]
            rfl)
          go_wp2_with (first | ((with_reducible refine load_at (o := ⟨some 34, _, _, _, _, _⟩) (.tmp 33) b (o + i * 18) gg.cells HC0.out HGI.out.1 ?_ ?_ ?_ ?_); rfl; rfl; rfl) | ((with_reducible refine store_fact_row (o := ⟨none, _, _, _, _, _⟩) (.tmp 6) (.tmp 34) w.heap.size gg.cells _ H0.out.1 HGI.out.1 HGI.out.2.2 HGI.out.2.1 ?_ ?_ ?_ ?_ ?_); rfl; rfl; rfl; rfl))
          have hrow : (WB.setRow w.heap.size gg.cells).heap[w.heap.size]? = some (.cells gg.cells 34 (0, 0)) := setRow_at H0.out.1
          exact bodyPost_ret (results_cell_tmp rfl _ _ w.heap.size _ gg.cells _ _ rfl hrow Tryz.underlying34 rfl fact_size) rfl ⟨by rw [HF.out]; rfl, below_setR H0.out.2 (Nat.le_refl _)⟩
    · obtain rfl : i = m := by omega
      have h1d : decide (i < i) = false := by simp
      have HF : Hid (firstSpec (devTest d n) fs = (zf, false)) := Lib.hid (by
        unfold firstSpec
        rw [HS.out.2, List.drop_eq_nil_of_le (by rw [HM.out]; omega)]
        rfl)
      have HZI : Hid ((Tryz.prog.info? 34).map (·.size) = some (#[.int .i64 0, .int .i64 0, .int .i64 0, .int .i64 0, .int .i64 0, .int .i64 0, .int .i64 0, .int .i64 0, .int .i64 0, .int .i64 0, .int .i64 0, .int .i64 0, .int .i64 0, .int .i64 0, .int .i64 0, .int .i64 0, .int .i64 0, .string ⟨#[]⟩] : Array Value).size ∧ (#[.int .i64 0, .int .i64 0, .int .i64 0, .int .i64 0, .int .i64 0, .int .i64 0, .int .i64 0, .int .i64 0, .int .i64 0, .int .i64 0, .int .i64 0, .int .i64 0, .int .i64 0, .int .i64 0, .int .i64 0, .int .i64 0, .int .i64 0, .string ⟨#[]⟩] : Array Value).all (·.oneCell') = true) := Lib.hid ⟨fact_size, zf.cells_one⟩
      go_wp2_with (first | ((with_reducible refine store_fact_row (o := ⟨none, _, _, _, _, _⟩) (.tmp 6) (.tmp 35) w.heap.size #[.int .i64 0, .int .i64 0, .int .i64 0, .int .i64 0, .int .i64 0, .int .i64 0, .int .i64 0, .int .i64 0, .int .i64 0, .int .i64 0, .int .i64 0, .int .i64 0, .int .i64 0, .int .i64 0, .int .i64 0, .int .i64 0, .int .i64 0, .string ⟨#[]⟩] _ H0.out.1 HZI.out.1 rfl HZI.out.2 ?_ ?_ ?_ ?_ ?_); rfl; rfl; rfl; rfl))
      have hrow : (WB.setRow w.heap.size #[.int .i64 0, .int .i64 0, .int .i64 0, .int .i64 0, .int .i64 0, .int .i64 0, .int .i64 0, .int .i64 0, .int .i64 0, .int .i64 0, .int .i64 0, .int .i64 0, .int .i64 0, .int .i64 0, .int .i64 0, .int .i64 0, .int .i64 0, .string ⟨#[]⟩]).heap[w.heap.size]? = some (.cells #[.int .i64 0, .int .i64 0, .int .i64 0, .int .i64 0, .int .i64 0, .int .i64 0, .int .i64 0, .int .i64 0, .int .i64 0, .int .i64 0, .int .i64 0, .int .i64 0, .int .i64 0, .int .i64 0, .int .i64 0, .int .i64 0, .int .i64 0, .string ⟨#[]⟩] 34 (0, 0)) := setRow_at H0.out.1
      exact bodyPost_ret (results_cell_tmp rfl _ _ w.heap.size _ #[.int .i64 0, .int .i64 0, .int .i64 0, .int .i64 0, .int .i64 0, .int .i64 0, .int .i64 0, .int .i64 0, .int .i64 0, .int .i64 0, .int .i64 0, .int .i64 0, .int .i64 0, .int .i64 0, .int .i64 0, .int .i64 0, .int .i64 0, .string ⟨#[]⟩] _ _ rfl hrow Tryz.underlying34 rfl fact_size) rfl ⟨by rw [HF.out]; rfl, below_setR H0.out.2 (Nat.le_refl _)⟩

set_option maxRecDepth 100000 in
set_option maxHeartbeats 4000000 in
theorem rplay_any (bs : Array Value) (LA : Nat → List FactV) (d n : Int) (w : World) (h : BaseR w bs LA) (hn : ∀ q, (LA q).length ≤ 1000000) :
    Calls Tryz.prog 22 #[.agg bs, .int .i64 d, .int .i64 n] w fun e w' => e = .returned (.tuple #[.agg (firstSpec (devTest d n) (LA 0)).1.cells, .bool (firstSpec (devTest d n) (LA 0)).2]) ∧ Below w.heap.size w w' := by
  obtain ⟨v, hvq, hv⟩ := h.at_ 0 (by omega)
  have r0 := (RowAt.new w 27 bs).alloc (.cells #[.int .i64 0, .int .i64 0, .int .i64 0, .int .i64 0, .int .i64 0, .int .i64 0, .int .i64 0, .int .i64 0, .int .i64 0, .int .i64 0, .int .i64 0, .int .i64 0, .int .i64 0, .int .i64 0, .int .i64 0, .int .i64 0, .int .i64 0, .string ⟨#[]⟩] 34)
  have r1 := RowAt.new (w.alloc (.cells bs 27)) 34 #[.int .i64 0, .int .i64 0, .int .i64 0, .int .i64 0, .int .i64 0, .int .i64 0, .int .i64 0, .int .i64 0, .int .i64 0, .int .i64 0, .int .i64 0, .int .i64 0, .int .i64 0, .int .i64 0, .int .i64 0, .int .i64 0, .int .i64 0, .string ⟨#[]⟩]
  have e1 : (w.alloc (.cells bs 27)).heap.size = w.heap.size + 1 := by simp
  rw [e1] at r1
  have hb : Below w.heap.size w ((w.alloc (.cells bs 27)).alloc (.cells #[.int .i64 0, .int .i64 0, .int .i64 0, .int .i64 0, .int .i64 0, .int .i64 0, .int .i64 0, .int .i64 0, .int .i64 0, .int .i64 0, .int .i64 0, .int .i64 0, .int .i64 0, .int .i64 0, .int .i64 0, .int .i64 0, .int .i64 0, .string ⟨#[]⟩] 34)) := ((Below.refl _ _).alloc (Nat.le_refl _) _).alloc (by simp) _
  have OF := Lib.hid (rofd_any (LA 0) v d n _ (hn 0) (hv.more hb))
  have H0 := Lib.hid (And.intro r1 hb)
  have hc0 : ((w.alloc (.cells bs 27)).alloc (.cells #[.int .i64 0, .int .i64 0, .int .i64 0, .int .i64 0, .int .i64 0, .int .i64 0, .int .i64 0, .int .i64 0, .int .i64 0, .int .i64 0, .int .i64 0, .int .i64 0, .int .i64 0, .int .i64 0, .int .i64 0, .int .i64 0, .int .i64 0, .string ⟨#[]⟩] 34)).cell? ⟨w.heap.size, 0, none⟩ = some v := by rw [r0.cell]; exact hvq
  obtain ⟨A, c, rfl⟩ := hv.sl
  obtain ⟨s, hs⟩ : ∃ z, firstSpec (devTest d n) (LA 0) = z := ⟨_, rfl⟩
  rw [hs] at OF ⊢
  have HSI : Hid ((Tryz.prog.info? 34).map (·.size) = some s.1.cells.size ∧ s.1.cells.all (·.oneCell') = true ∧ (#[.int .i64 0, .int .i64 0, .int .i64 0, .int .i64 0, .int .i64 0, .int .i64 0, .int .i64 0, .int .i64 0, .int .i64 0, .int .i64 0, .int .i64 0, .int .i64 0, .int .i64 0, .int .i64 0, .int .i64 0, .int .i64 0, .int .i64 0, .string ⟨#[]⟩] : Array Value).size = s.1.cells.size) := Lib.hid ⟨fact_size, s.1.cells_one, rfl⟩
  clear h hn hvq hv r0 r1 e1 hb hs
  go_enter Tryz.func22, Tryz.ntmps22
  go_wp2_with fail
  refine OF.out.mono ?_
  rintro e W1 ⟨rfl, hb1⟩
  have H1 : Hid (RowAt W1 (w.heap.size + 1) 34 #[.int .i64 0, .int .i64 0, .int .i64 0, .int .i64 0, .int .i64 0, .int .i64 0, .int .i64 0, .int .i64 0, .int .i64 0, .int .i64 0, .int .i64 0, .int .i64 0, .int .i64 0, .int .i64 0, .int .i64 0, .int .i64 0, .int .i64 0, .string ⟨#[]⟩] ∧ Below w.heap.size w W1) := Lib.hid ⟨H0.out.1.below hb1 H0.out.1.lt, H0.out.2.trans (hb1.mono H0.out.2.size)⟩
  clear hb1 hc0
  go_wp2_with (first | ((with_reducible refine store_fact_row (o := ⟨none, _, _, _, _, _⟩) (.tmp 6) (.tmp 13) (w.heap.size + 1) s.1.cells _ H1.out.1 HSI.out.1 HSI.out.2.2 HSI.out.2.1 ?_ ?_ ?_ ?_ ?_); rfl; rfl; rfl; rfl))
  have hrow : (W1.setRow (w.heap.size + 1) s.1.cells).heap[w.heap.size + 1]? = some (.cells s.1.cells 34 (0, 0)) := setRow_at H1.out.1
  exact bodyPost_ret (results_cell_tmp rfl _ _ (w.heap.size + 1) _ s.1.cells _ _ rfl hrow Tryz.underlying34 rfl fact_size) rfl ⟨rfl, below_setR H1.out.2 (by omega)⟩
end Go.Proofs.YtgjajhopjcdflaaGreat
namespace Go.Proofs.YtgjajhopjcdflaaGreat
open Go Go.RowKit Go.Lib Go.Shelf Go.Maps

set_option maxRecDepth 100000 in
set_option maxHeartbeats 1000000 in
theorem of1_any (f : FactV) (d n : Int) (B1 B2 : Nat) (w : World) (h1 : w.cell? ⟨B1, 0, none⟩ = some (.int .i64 d)) (h2 : w.cell? ⟨B2, 0, none⟩ = some (.int .i64 n)) :
    Calls Tryz.prog 64 #[.agg f.cells, .pointer (some ⟨B1, 0, none⟩), .pointer (some ⟨B2, 0, none⟩)] w fun e w' => e = .returned (.bool (devTest d n f)) ∧ Below w.heap.size w w' := by
  have b1 := World.block_lt_of_cell? _ _ h1
  have b2 := World.block_lt_of_cell? _ _ h2
  have f6 : f.cells[6]? = some (.int .i64 (f.n 6)) := rfl
  have f1 : f.cells[1]? = some (.int .i64 (f.n 1)) := rfl
  unfold devTest
  obtain ⟨x, hx⟩ : ∃ x, f.n 6 = x := ⟨_, rfl⟩
  obtain ⟨y, hy⟩ : ∃ x, f.n 1 = x := ⟨_, rfl⟩
  rw [hx] at f6 ⊢
  rw [hy] at f1 ⊢
  clear hx hy
  go_enter Tryz.func64, Tryz.ntmps64
  go_wp2
  all_goals
    go_ret
    exact ⟨by simp_all, (Below.refl _ _).alloc (Nat.le_refl _) _⟩
set_option maxRecDepth 100000 in
theorem mkof_any (d n : Int) (w : World) :
    Calls Tryz.prog 47 #[.int .i64 d, .int .i64 n] w fun e w' => e = .returned (.func (.func 64) #[] #[.pointer (some ⟨w.heap.size, 0, none⟩), .pointer (some ⟨w.heap.size + 1, 0, none⟩)]) ∧ w'.cell? ⟨w.heap.size, 0, none⟩ = some (.int .i64 d) ∧ w'.cell? ⟨w.heap.size + 1, 0, none⟩ = some (.int .i64 n) ∧ Below w.heap.size w w' := by
  have H : Hid (((w.alloc (.cells #[.int .i64 d] 3)).alloc (.cells #[.int .i64 n] 3)).cell? ⟨w.heap.size, 0, none⟩ = some (.int .i64 d) ∧ ((w.alloc (.cells #[.int .i64 d] 3)).alloc (.cells #[.int .i64 n] 3)).cell? ⟨w.heap.size + 1, 0, none⟩ = some (.int .i64 n) ∧ Below w.heap.size w ((w.alloc (.cells #[.int .i64 d] 3)).alloc (.cells #[.int .i64 n] 3))) := Lib.hid ⟨by rw [((RowAt.new w 3 #[.int .i64 d]).alloc _).cell]; rfl, by
    have r := RowAt.new (w.alloc (.cells #[.int .i64 d] 3)) 3 #[.int .i64 n]
    rw [World.size_alloc] at r
    rw [r.cell]; rfl, ((Below.refl _ _).alloc (Nat.le_refl _) _).alloc (by simp) _⟩
  go_enter Tryz.func47, Tryz.ntmps47
  go_wp2_with fail
  go_ret
  exact ⟨rfl, H.out⟩
/-- the zero fact's cells -/
def ZC : Array Value := #[.int .i64 0, .int .i64 0, .int .i64 0, .int .i64 0, .int .i64 0, .int .i64 0, .int .i64 0, .int .i64 0, .int .i64 0, .int .i64 0, .int .i64 0, .int .i64 0, .int .i64 0, .int .i64 0, .int .i64 0, .int .i64 0, .int .i64 0, .string ⟨#[]⟩]
theorem wp_alloc_fact {o : Oper} {a : Act} {w : World} {K : Act → World → Prop} {Q : Exit → Act → World → Prop} (N : Nat) (hN : w.heap.size = N) (ho : o.op = .alloc 34)
    (h : K (a.put o.dst (.pointer (some ⟨N, 0, none⟩))) (w.alloc (.cells ZC 34))) : o.wp Tryz.prog a w K Q := by
  subst hN
  have hz := Tryz.zeroValue34 w
  unfold Oper.wp execOp
  simp only [ho, Instr.alloc, Sem.run_bind, hz, Result.andThen_ok]
  exact h
set_option linter.unusedSimpArgs false in
set_option maxRecDepth 100000 in
set_option maxHeartbeats 8000000 in
theorem play_any (bs : Array Value) (LA : Nat → List FactV) (d n : Int) (w : World) (h : BaseR w bs LA) (hn : ∀ q, (LA q).length ≤ 1000000) :
    Calls Tryz.prog 21 #[.agg bs, .int .i64 d, .int .i64 n] w fun e w' => e = .returned (.tuple #[.agg (firstSpec (devTest d n) (LA 0)).1.cells, .bool (firstSpec (devTest d n) (LA 0)).2]) ∧ Below w.heap.size w w' := by
  obtain ⟨v, hvq, hv⟩ := h.at_ 0 (by omega)
  obtain ⟨X, hX⟩ : ∃ z, (w.alloc (.cells bs 27)).alloc (.cells #[.int .i64 0, .int .i64 0, .int .i64 0, .int .i64 0, .int .i64 0, .int .i64 0, .int .i64 0, .int .i64 0, .int .i64 0, .int .i64 0, .int .i64 0, .int .i64 0, .int .i64 0, .int .i64 0, .int .i64 0, .int .i64 0, .int .i64 0, .string ⟨#[]⟩] 34) = z := ⟨_, rfl⟩
  have r0 : RowAt X w.heap.size 27 bs := by rw [← hX]; exact (RowAt.new w _ _).alloc _
  have r1 : RowAt X (w.heap.size + 1) 34 ZC := by
    rw [← hX]
    have h := RowAt.new (w.alloc (.cells bs 27)) 34 #[.int .i64 0, .int .i64 0, .int .i64 0, .int .i64 0, .int .i64 0, .int .i64 0, .int .i64 0, .int .i64 0, .int .i64 0, .int .i64 0, .int .i64 0, .int .i64 0, .int .i64 0, .int .i64 0, .int .i64 0, .int .i64 0, .int .i64 0, .string ⟨#[]⟩]
    rw [World.size_alloc] at h
    exact h
  have hbw : Below w.heap.size w X := by rw [← hX]; exact ((Below.refl _ _).alloc (Nat.le_refl _) _).alloc (by simp) _
  have H0 : Hid (X.cell? ⟨w.heap.size, 0, none⟩ = some v ∧ w.heap.size < X.heap.size) := Lib.hid ⟨base_load _ _ _ _ _ r0 hvq, r0.lt⟩
  have HR := Lib.hid (And.intro r1 hbw)
  have HX := Lib.hid hX
  have HV := Lib.hid (hv.more hbw)
  have HFI : Hid (∀ Y1 b1 b2, Below X.heap.size X Y1 → Y1.cell? ⟨b1, 0, none⟩ = some (.int .i64 d) → Y1.cell? ⟨b2, 0, none⟩ = some (.int .i64 n) → Calls Tryz.prog 45 #[v, .func (.func 64) #[] #[.pointer (some ⟨b1, 0, none⟩), .pointer (some ⟨b2, 0, none⟩)]] Y1 fun e w' => e = .returned (.tuple #[.agg (firstSpec (devTest d n) (LA 0)).1.cells, .bool (firstSpec (devTest d n) (LA 0)).2]) ∧ Below Y1.heap.size Y1 w') := Lib.hid (fun Y1 b1 b2 hb h1 h2 =>
    first_any 64 _ _ (devTest d n) v (LA 0) Y1 (by have := hn 0; omega) (fun W => Below Y1.heap.size Y1 W) (fun W h => h) (enters_of Tryz.func64 (by kernel_rfl) rfl) (HV.out.more hb)
      (fun f W hW => of1_any f d n b1 b2 W ((hW.cell (p := ⟨b1, 0, none⟩) (World.block_lt_of_cell? _ _ h1)).trans h1) ((hW.cell (p := ⟨b2, 0, none⟩) (World.block_lt_of_cell? _ _ h2)).trans h2)))
  obtain ⟨A, c, rfl⟩ := hv.sl
  have HSS : Hid (∀ W, Below X.heap.size X W → Below w.heap.size w W ∧ W.cell? ⟨w.heap.size, 0, none⟩ = some (.slice A (LA 0).length c)) := Lib.hid (fun W hW => ⟨hbw.trans (hW.mono hbw.size), (hW.cell (p := ⟨w.heap.size, 0, none⟩) H0.out.2).trans H0.out.1⟩)
  obtain ⟨s, hs⟩ : ∃ z, firstSpec (devTest d n) (LA 0) = z := ⟨_, rfl⟩
  rw [hs] at HFI ⊢
  have HSI : Hid ((Tryz.prog.info? 34).map (·.size) = some s.1.cells.size ∧ s.1.cells.all (·.oneCell') = true ∧ ZC.size = s.1.cells.size) := Lib.hid ⟨fact_size, s.1.cells_one, rfl⟩
  have HLD := Lib.hid (fun W h => fact_load W (w.heap.size + 1) s.1 h)
  obtain ⟨cf, hcf⟩ : ∃ z, s.1.cells = z := ⟨_, rfl⟩
  rw [hcf] at HFI HSI HLD ⊢
  have HF16 := Lib.hid hcf
  clear h hn hvq hv r0 r1 hbw hs hcf hX
  go_enter Tryz.func21, Tryz.ntmps21
  go_upto_region 1 with fail
  rw [HX.out]
  refine wp_region_held_drew (S := fun W => Below w.heap.size w W ∧ W.cell? ⟨w.heap.size, 0, none⟩ = some (.slice A (LA 0).length c)) (by kernel_rfl) (HSS.out _ (Below.refl _ _).drew) (fun hHeld => ?_)
  have HB20 : Hid (Below X.heap.size X X.drew) := Lib.hid (Below.refl _ _).drew
  try simp only [Act.put, List.setIfInBounds_toArray, List.set_cons_zero, List.set_cons_succ]
  refine wpAnyH_take (i := 0) (oi := ⟨_, _, _, _, _, _⟩) (v := ?_) rfl (by kernel_rfl) (by kernel_rfl) (by kernel_rfl) (fun _ _ _ h => h) (Or.inl ⟨by rfl, ?_⟩) (by assumption) ?_
  rotate_left
  · intro w hSw; go_simp; all_goals with_reducible rfl
  simp only [Act.put, List.setIfInBounds_toArray, List.set_cons_zero, List.set_cons_succ]
  refine wpAnyH_take (i := 1) (oi := ⟨_, _, _, _, _, _⟩) (v := ?_) rfl (by kernel_rfl) (by kernel_rfl) (by kernel_rfl) (fun _ _ _ h => h) (Or.inl ⟨by rfl, ?_⟩) (by assumption) ?_
  rotate_left
  · intro wS hSw
    have hc0 := hSw.2
    go_simp
    all_goals with_reducible rfl
  simp only [Act.put, List.setIfInBounds_toArray, List.set_cons_zero, List.set_cons_succ]
  refine wpAnyH_take (i := 2) (oi := ⟨_, _, _, _, _, _⟩) (v := ?_) rfl (by kernel_rfl) (by kernel_rfl) (by kernel_rfl) (fun _ _ _ h => h) (Or.inl ⟨by rfl, ?_⟩) (by assumption) ?_
  rotate_left
  · intro w hSw; go_simp; all_goals with_reducible rfl
  simp only [Act.put, List.setIfInBounds_toArray, List.set_cons_zero, List.set_cons_succ]
  refine wpAnyH_take (i := 3) (oi := ⟨_, _, _, _, _, _⟩) (v := ?_) rfl (by kernel_rfl) (by kernel_rfl) (by kernel_rfl) (fun _ _ _ h => h) (Or.inl ⟨by rfl, ?_⟩) (by assumption) ?_
  rotate_left
  · intro w hSw; go_simp; all_goals with_reducible rfl
  simp only [Act.put, List.setIfInBounds_toArray, List.set_cons_zero, List.set_cons_succ]
  refine wpAnyH_ready (rs := [4]) (by kernel_rfl) (by simp) ?_
  refine AllReadyH.cons (o := ⟨_, _, _, _, _, _⟩) rfl (fun K hK => ?_) AllReadyH.nil
  go_simp
  go_at_call 47
  refine (mkof_any d n X.drew).mono ?_
  rintro e Y31 ⟨rfl, hc1, hc2, hb1⟩
  have HB31 : Hid (Below X.heap.size X Y31) := Lib.hid (HB20.out.trans (hb1.mono HB20.out.size))
  have HFI31 := Lib.hid (HFI.out Y31 _ _ HB31.out hc1 hc2)
  have HSZ31 := Lib.hid (And.intro hc1 hc2)
  clear hc1 hc2 hb1
  go_wp2_with fail
  refine hK.out _ _ (HSS.out _ HB31.out) (fun hHeld => ?_)
  clear hK K
  try simp only [Act.put, List.setIfInBounds_toArray, List.set_cons_zero, List.set_cons_succ]
  refine wpAnyH_ready (rs := [5]) (by kernel_rfl) (by simp) ?_
  refine AllReadyH.cons (o := ⟨_, _, _, _, _, _⟩) rfl (fun K hK => ?_) AllReadyH.nil
  go_simp
  go_at_call 45
  refine HFI31.out.mono ?_
  rintro e Y32 ⟨rfl, hb2⟩
  have HB32 : Hid (Below X.heap.size X Y32) := Lib.hid (HB31.out.trans (hb2.mono HB31.out.size))
  clear hb2
  go_wp2_with fail
  refine hK.out _ _ (HSS.out _ HB32.out) (fun hHeld => ?_)
  clear hK K
  try simp only [Act.put, List.setIfInBounds_toArray, List.set_cons_zero, List.set_cons_succ]
  refine wpAnyH_take (i := 6) (oi := ⟨_, _, _, _, _, _⟩) (v := ?_) rfl (by kernel_rfl) (by kernel_rfl) (by kernel_rfl) (fun _ _ _ h => h) (Or.inl ⟨by rfl, ?_⟩) (by assumption) ?_
  rotate_left
  · intro w hSw; go_simp; all_goals with_reducible rfl
  simp only [Act.put, List.setIfInBounds_toArray, List.set_cons_zero, List.set_cons_succ]
  refine wpAnyH_take (i := 7) (oi := ⟨_, _, _, _, _, _⟩) (v := ?_) rfl (by kernel_rfl) (by kernel_rfl) (by kernel_rfl) (fun _ _ _ h => h) (Or.inl ⟨by rfl, ?_⟩) (by assumption) ?_
  rotate_left
  · intro w hSw; go_simp; all_goals with_reducible rfl
  simp only [Act.put, List.setIfInBounds_toArray, List.set_cons_zero, List.set_cons_succ]
  refine wpAnyH_ready (rs := [8]) (by kernel_rfl) (by simp) ?_
  refine AllReadyH.cons (o := ⟨_, _, _, _, _, _⟩) rfl (fun K hK => ?_) AllReadyH.nil
  refine wp_store_row 34 (.tmp 6) (.tmp 14) rfl (w.heap.size + 1) cf rfl rfl _ ZC (HR.out.1.below HB32.out HR.out.1.lt) HSI.out.1 HSI.out.2.2 HSI.out.2.1 ?_
  have HROW : Hid (RowAt (Y32.setRow (w.heap.size + 1) cf) (w.heap.size + 1) 34 cf) := Lib.hid (setRow_at (HR.out.1.below HB32.out HR.out.1.lt))
  have HB33 : Hid (Below w.heap.size w (Y32.setRow (w.heap.size + 1) cf)) := Lib.hid (below_setR (HR.out.2.trans (HB32.out.mono HR.out.2.size)) (by omega))
  have HC33 : Hid ((Y32.setRow (w.heap.size + 1) cf).cell? ⟨w.heap.size, 0, none⟩ = some (.slice A (LA 0).length c)) := Lib.hid (((below_setR (Below.refl (w.heap.size + 1) Y32) (Nat.le_refl _)).cell (p := ⟨w.heap.size, 0, none⟩) (by show w.heap.size < w.heap.size + 1; omega)).trans (HSS.out _ HB32.out).2)
  refine hK.out _ _ (⟨HB33.out, HC33.out⟩) (fun hHeld => ?_)
  clear hK K
  try simp only [Act.put, List.setIfInBounds_toArray, List.set_cons_zero, List.set_cons_succ]
  refine wpAnyH_take (i := 9) (oi := ⟨_, _, _, _, _, _⟩) (v := ?_) rfl (by kernel_rfl) (by kernel_rfl) (by kernel_rfl) (fun _ _ _ h => h) (Or.inl ⟨by rfl, ?_⟩) (by assumption) ?_
  rotate_left
  · intro w hSw; go_simp; all_goals with_reducible rfl
  simp only [Act.put, List.setIfInBounds_toArray, List.set_cons_zero, List.set_cons_succ]
  refine wpAnyH_done (by kernel_rfl) ?_ _
  go_wp2_with fail
  refine bodyPost_ret (results_cell_tmp2 (p := 6) (q := 7) rfl _ _ _ _ rfl (HLD.out _ HROW.out)) rfl ⟨rfl, HB33.out⟩
set_option linter.unusedSimpArgs false in
set_option maxRecDepth 100000 in
set_option maxHeartbeats 8000000 in
theorem mark_any (bs : Array Value) (LA : Nat → List FactV) (d n : Int) (w : World) (h : BaseR w bs LA) (hn : ∀ q, (LA q).length ≤ 1000000) :
    Calls Tryz.prog 23 #[.agg bs, .int .i64 d, .int .i64 n] w fun e w' => e = .returned (.int .i64 ((firstSpec (devTest d n) (LA 1)).1.n 16)) ∧ Below w.heap.size w w' := by
  obtain ⟨v, hvq, hv⟩ := h.at_ 1 (by omega)
  obtain ⟨X, hX⟩ : ∃ z, w.alloc (.cells bs 27) = z := ⟨_, rfl⟩
  have r0 : RowAt X w.heap.size 27 bs := by rw [← hX]; exact RowAt.new w _ _
  have hbw : Below w.heap.size w X := by rw [← hX]; exact (Below.refl _ _).alloc (Nat.le_refl _) _
  have H0 : Hid (X.cell? ⟨w.heap.size, 1, none⟩ = some v ∧ w.heap.size < X.heap.size) := Lib.hid ⟨base_load _ _ _ _ _ r0 hvq, r0.lt⟩
  have HR := Lib.hid (hbw)
  have HX := Lib.hid hX
  have HV := Lib.hid (hv.more hbw)
  have HFI : Hid (∀ Y1 b1 b2, Below X.heap.size X Y1 → Y1.cell? ⟨b1, 0, none⟩ = some (.int .i64 d) → Y1.cell? ⟨b2, 0, none⟩ = some (.int .i64 n) → Calls Tryz.prog 45 #[v, .func (.func 64) #[] #[.pointer (some ⟨b1, 0, none⟩), .pointer (some ⟨b2, 0, none⟩)]] Y1 fun e w' => e = .returned (.tuple #[.agg (firstSpec (devTest d n) (LA 1)).1.cells, .bool (firstSpec (devTest d n) (LA 1)).2]) ∧ Below Y1.heap.size Y1 w') := Lib.hid (fun Y1 b1 b2 hb h1 h2 =>
    first_any 64 _ _ (devTest d n) v (LA 1) Y1 (by have := hn 1; omega) (fun W => Below Y1.heap.size Y1 W) (fun W h => h) (enters_of Tryz.func64 (by kernel_rfl) rfl) (HV.out.more hb)
      (fun f W hW => of1_any f d n b1 b2 W ((hW.cell (p := ⟨b1, 0, none⟩) (World.block_lt_of_cell? _ _ h1)).trans h1) ((hW.cell (p := ⟨b2, 0, none⟩) (World.block_lt_of_cell? _ _ h2)).trans h2)))
  obtain ⟨A, c, rfl⟩ := hv.sl
  have HSS : Hid (∀ W, Below X.heap.size X W → Below w.heap.size w W ∧ W.cell? ⟨w.heap.size, 1, none⟩ = some (.slice A (LA 1).length c)) := Lib.hid (fun W hW => ⟨hbw.trans (hW.mono hbw.size), (hW.cell (p := ⟨w.heap.size, 1, none⟩) H0.out.2).trans H0.out.1⟩)
  obtain ⟨s, hs⟩ : ∃ z, firstSpec (devTest d n) (LA 1) = z := ⟨_, rfl⟩
  rw [hs] at HFI ⊢
  have HSI : Hid ((Tryz.prog.info? 34).map (·.size) = some s.1.cells.size ∧ s.1.cells.all (·.oneCell') = true ∧ ZC.size = s.1.cells.size) := Lib.hid ⟨fact_size, s.1.cells_one, rfl⟩
  have HLD := Lib.hid (fun W h => fact_load W (w.heap.size + 1) s.1 h)
  have f16 : s.1.cells[16]? = some (.int .i64 (s.1.n 16)) := rfl
  obtain ⟨y, hy⟩ : ∃ z, s.1.n 16 = z := ⟨_, rfl⟩
  rw [hy] at f16 ⊢
  obtain ⟨cf, hcf⟩ : ∃ z, s.1.cells = z := ⟨_, rfl⟩
  rw [hcf] at HFI HSI HLD f16
  have HF16 := Lib.hid f16
  clear h hn hvq hv r0 f16 hy hbw hs hcf hX
  go_enter Tryz.func23, Tryz.ntmps23
  go_upto_region 1 with fail
  rw [HX.out]
  refine wp_region_held_drew (S := fun W => Below w.heap.size w W ∧ W.cell? ⟨w.heap.size, 1, none⟩ = some (.slice A (LA 1).length c)) (by kernel_rfl) (HSS.out _ (Below.refl _ _).drew) (fun hHeld => ?_)
  have HB20 : Hid (Below X.heap.size X X.drew) := Lib.hid (Below.refl _ _).drew
  try simp only [Act.put, List.setIfInBounds_toArray, List.set_cons_zero, List.set_cons_succ]
  refine wpAnyH_take (i := 0) (oi := ⟨_, _, _, _, _, _⟩) (v := ?_) rfl (by kernel_rfl) (by kernel_rfl) (by kernel_rfl) (fun _ _ _ h => h) (Or.inl ⟨by rfl, ?_⟩) (by assumption) ?_
  rotate_left
  · intro w hSw; go_simp; all_goals with_reducible rfl
  simp only [Act.put, List.setIfInBounds_toArray, List.set_cons_zero, List.set_cons_succ]
  refine wpAnyH_take (i := 1) (oi := ⟨_, _, _, _, _, _⟩) (v := ?_) rfl (by kernel_rfl) (by kernel_rfl) (by kernel_rfl) (fun _ _ _ h => h) (Or.inl ⟨by rfl, ?_⟩) (by assumption) ?_
  rotate_left
  · intro wS hSw
    have hc0 := hSw.2
    go_simp
    all_goals with_reducible rfl
  simp only [Act.put, List.setIfInBounds_toArray, List.set_cons_zero, List.set_cons_succ]
  refine wpAnyH_take (i := 2) (oi := ⟨_, _, _, _, _, _⟩) (v := ?_) rfl (by kernel_rfl) (by kernel_rfl) (by kernel_rfl) (fun _ _ _ h => h) (Or.inl ⟨by rfl, ?_⟩) (by assumption) ?_
  rotate_left
  · intro w hSw; go_simp; all_goals with_reducible rfl
  simp only [Act.put, List.setIfInBounds_toArray, List.set_cons_zero, List.set_cons_succ]
  refine wpAnyH_take (i := 3) (oi := ⟨_, _, _, _, _, _⟩) (v := ?_) rfl (by kernel_rfl) (by kernel_rfl) (by kernel_rfl) (fun _ _ _ h => h) (Or.inl ⟨by rfl, ?_⟩) (by assumption) ?_
  rotate_left
  · intro w hSw; go_simp; all_goals with_reducible rfl
  simp only [Act.put, List.setIfInBounds_toArray, List.set_cons_zero, List.set_cons_succ]
  refine wpAnyH_ready (rs := [4, 9]) (by kernel_rfl) (by simp) ?_
  refine AllReadyH.cons (o := ⟨_, _, _, _, _, _⟩) rfl (fun K hK => ?_) (AllReadyH.cons (o := ⟨_, _, _, _, _, _⟩) rfl (fun K hK => ?_) AllReadyH.nil)
  · go_simp
    go_at_call 47
    refine (mkof_any d n X.drew).mono ?_
    rintro e Y31 ⟨rfl, hc1, hc2, hb1⟩
    have HB31 : Hid (Below X.heap.size X Y31) := Lib.hid (HB20.out.trans (hb1.mono HB20.out.size))
    have HFI31 := Lib.hid (HFI.out Y31 _ _ HB31.out hc1 hc2)
    have HSZ31 := Lib.hid (And.intro hc1 hc2)
    clear hc1 hc2 hb1
    go_wp2_with fail
    refine hK.out _ _ (HSS.out _ HB31.out) (fun hHeld => ?_)
    clear hK K
    try simp only [Act.put, List.setIfInBounds_toArray, List.set_cons_zero, List.set_cons_succ]
    refine wpAnyH_ready (rs := [5, 9]) (by kernel_rfl) (by simp) ?_
    refine AllReadyH.cons (o := ⟨_, _, _, _, _, _⟩) rfl (fun K hK => ?_) (AllReadyH.cons (o := ⟨_, _, _, _, _, _⟩) rfl (fun K hK => ?_) AllReadyH.nil)
    · go_simp
      go_at_call 45
      refine HFI31.out.mono ?_
      rintro e Y32 ⟨rfl, hb2⟩
      have HB32 : Hid (Below X.heap.size X Y32) := Lib.hid (HB31.out.trans (hb2.mono HB31.out.size))
      clear hb2
      go_wp2_with fail
      refine hK.out _ _ (HSS.out _ HB32.out) (fun hHeld => ?_)
      clear hK K
      try simp only [Act.put, List.setIfInBounds_toArray, List.set_cons_zero, List.set_cons_succ]
      refine wpAnyH_take (i := 6) (oi := ⟨_, _, _, _, _, _⟩) (v := ?_) rfl (by kernel_rfl) (by kernel_rfl) (by kernel_rfl) (fun _ _ _ h => h) (Or.inl ⟨by rfl, ?_⟩) (by assumption) ?_
      rotate_left
      · intro w hSw; go_simp; all_goals with_reducible rfl
      simp only [Act.put, List.setIfInBounds_toArray, List.set_cons_zero, List.set_cons_succ]
      refine wpAnyH_take (i := 7) (oi := ⟨_, _, _, _, _, _⟩) (v := ?_) rfl (by kernel_rfl) (by kernel_rfl) (by kernel_rfl) (fun _ _ _ h => h) (Or.inl ⟨by rfl, ?_⟩) (by assumption) ?_
      rotate_left
      · intro w hSw; go_simp; all_goals with_reducible rfl
      simp only [Act.put, List.setIfInBounds_toArray, List.set_cons_zero, List.set_cons_succ]
      refine wpAnyH_take (i := 8) (oi := ⟨_, _, _, _, _, _⟩) (v := ?_) rfl (by kernel_rfl) (by kernel_rfl) (by kernel_rfl) (fun _ _ _ h => h) (Or.inl ⟨by rfl, ?_⟩) (by assumption) ?_
      rotate_left
      · intro w hSw; go_simp; all_goals with_reducible rfl
      simp only [Act.put, List.setIfInBounds_toArray, List.set_cons_zero, List.set_cons_succ]
      refine wpAnyH_ready (rs := [9]) (by kernel_rfl) (by simp) ?_
      refine AllReadyH.cons (o := ⟨_, _, _, _, _, _⟩) rfl (fun K hK => ?_) AllReadyH.nil
      obtain ⟨g33, hg33⟩ : ∃ z, Y32.heap.size = z := ⟨_, rfl⟩
      have Hg33 := Lib.hid hg33
      refine wp_alloc_fact g33 hg33 rfl ?_
      clear hg33
      have HB33 : Hid (Below X.heap.size X (Y32.alloc (.cells ZC 34))) := Lib.hid (HB32.out.alloc HB32.out.size _)
      have HRW33 : Hid (RowAt (Y32.alloc (.cells ZC 34)) g33 34 ZC) := Lib.hid (by rw [← Hg33.out]; exact RowAt.new _ _ _)
      have HG33 : Hid (X.heap.size ≤ g33) := Lib.hid (by rw [← Hg33.out]; exact HB32.out.size)
      obtain ⟨Z33, hZ33⟩ : ∃ z, Y32.alloc (.cells ZC 34) = z := ⟨_, rfl⟩
      rw [hZ33] at HB33 HRW33 ⊢
      clear hZ33
      refine hK.out _ _ (HSS.out _ HB33.out) (fun hHeld => ?_)
      clear hK K
      try simp only [Act.put, List.setIfInBounds_toArray, List.set_cons_zero, List.set_cons_succ]
      refine wpAnyH_ready (rs := [10]) (by kernel_rfl) (by simp) ?_
      refine AllReadyH.cons (o := ⟨_, _, _, _, _, _⟩) rfl (fun K hK => ?_) AllReadyH.nil
      refine wp_store_row 34 (.tmp 7) (.tmp 16) rfl g33 cf rfl rfl _ ZC HRW33.out HSI.out.1 HSI.out.2.2 HSI.out.2.1 ?_
      have HROW : Hid (RowAt (Z33.setRow g33 cf) g33 34 cf) := Lib.hid (setRow_at HRW33.out)
      have HB34 : Hid (Below X.heap.size X (Z33.setRow g33 cf)) := Lib.hid (below_setR HB33.out HG33.out)
      have c16 : (Z33.setRow g33 cf).cell? ⟨g33, 16, none⟩ = some (.int .i64 y) := by rw [HROW.out.cell]; exact HF16.out
      refine hK.out _ _ (HSS.out _ HB34.out) (fun hHeld => ?_)
      clear hK K
      try simp only [Act.put, List.setIfInBounds_toArray, List.set_cons_zero, List.set_cons_succ]
      refine wpAnyH_take (i := 11) (oi := ⟨_, _, _, _, _, _⟩) (v := ?_) rfl (by kernel_rfl) (by kernel_rfl) (by kernel_rfl) (fun _ _ _ h => h) (Or.inl ⟨by rfl, ?_⟩) (by assumption) ?_
      rotate_left
      · intro w hSw; go_simp; all_goals with_reducible rfl
      simp only [Act.put, List.setIfInBounds_toArray, List.set_cons_zero, List.set_cons_succ]
      refine wpAnyH_done (by kernel_rfl) ?_ _
      go_wp2_with fail
      go_ret
      exact ⟨rfl, HR.out.trans (HB34.out.mono HR.out.size)⟩
    · obtain ⟨g35, hg35⟩ : ∃ z, Y31.heap.size = z := ⟨_, rfl⟩
      have Hg35 := Lib.hid hg35
      refine wp_alloc_fact g35 hg35 rfl ?_
      clear hg35
      have HB35 : Hid (Below X.heap.size X (Y31.alloc (.cells ZC 34))) := Lib.hid (HB31.out.alloc HB31.out.size _)
      have HRW35 : Hid (RowAt (Y31.alloc (.cells ZC 34)) g35 34 ZC) := Lib.hid (by rw [← Hg35.out]; exact RowAt.new _ _ _)
      have HG35 : Hid (X.heap.size ≤ g35) := Lib.hid (by rw [← Hg35.out]; exact HB31.out.size)
      have HFI35 := Lib.hid (HFI.out _ _ _ HB35.out (((Below.refl _ _).alloc (Nat.le_refl _) _).cell (p := ⟨_, 0, none⟩) (World.block_lt_of_cell? _ _ HSZ31.out.1) |>.trans HSZ31.out.1) (((Below.refl _ _).alloc (Nat.le_refl _) _).cell (p := ⟨_, 0, none⟩) (World.block_lt_of_cell? _ _ HSZ31.out.2) |>.trans HSZ31.out.2))
      obtain ⟨Z35, hZ35⟩ : ∃ z, Y31.alloc (.cells ZC 34) = z := ⟨_, rfl⟩
      rw [hZ35] at HB35 HRW35 HFI35 ⊢
      clear hZ35
      refine hK.out _ _ (HSS.out _ HB35.out) (fun hHeld => ?_)
      clear hK K
      try simp only [Act.put, List.setIfInBounds_toArray, List.set_cons_zero, List.set_cons_succ]
      refine wpAnyH_ready (rs := [5]) (by kernel_rfl) (by simp) ?_
      refine AllReadyH.cons (o := ⟨_, _, _, _, _, _⟩) rfl (fun K hK => ?_) AllReadyH.nil
      go_simp
      go_at_call 45
      refine HFI35.out.mono ?_
      rintro e Y36 ⟨rfl, hb2⟩
      have HB36 : Hid (Below X.heap.size X Y36) := Lib.hid (HB35.out.trans (hb2.mono HB35.out.size))
      have HRW37 := Lib.hid (HRW35.out.below hb2 HRW35.out.lt)
      clear hb2
      go_wp2_with fail
      refine hK.out _ _ (HSS.out _ HB36.out) (fun hHeld => ?_)
      clear hK K
      try simp only [Act.put, List.setIfInBounds_toArray, List.set_cons_zero, List.set_cons_succ]
      refine wpAnyH_take (i := 6) (oi := ⟨_, _, _, _, _, _⟩) (v := ?_) rfl (by kernel_rfl) (by kernel_rfl) (by kernel_rfl) (fun _ _ _ h => h) (Or.inl ⟨by rfl, ?_⟩) (by assumption) ?_
      rotate_left
      · intro w hSw; go_simp; all_goals with_reducible rfl
      simp only [Act.put, List.setIfInBounds_toArray, List.set_cons_zero, List.set_cons_succ]
      refine wpAnyH_take (i := 7) (oi := ⟨_, _, _, _, _, _⟩) (v := ?_) rfl (by kernel_rfl) (by kernel_rfl) (by kernel_rfl) (fun _ _ _ h => h) (Or.inl ⟨by rfl, ?_⟩) (by assumption) ?_
      rotate_left
      · intro w hSw; go_simp; all_goals with_reducible rfl
      simp only [Act.put, List.setIfInBounds_toArray, List.set_cons_zero, List.set_cons_succ]
      refine wpAnyH_take (i := 8) (oi := ⟨_, _, _, _, _, _⟩) (v := ?_) rfl (by kernel_rfl) (by kernel_rfl) (by kernel_rfl) (fun _ _ _ h => h) (Or.inl ⟨by rfl, ?_⟩) (by assumption) ?_
      rotate_left
      · intro w hSw; go_simp; all_goals with_reducible rfl
      simp only [Act.put, List.setIfInBounds_toArray, List.set_cons_zero, List.set_cons_succ]
      refine wpAnyH_ready (rs := [10]) (by kernel_rfl) (by simp) ?_
      refine AllReadyH.cons (o := ⟨_, _, _, _, _, _⟩) rfl (fun K hK => ?_) AllReadyH.nil
      refine wp_store_row 34 (.tmp 7) (.tmp 16) rfl g35 cf rfl rfl _ ZC HRW37.out HSI.out.1 HSI.out.2.2 HSI.out.2.1 ?_
      have HROW : Hid (RowAt (Y36.setRow g35 cf) g35 34 cf) := Lib.hid (setRow_at HRW37.out)
      have HB38 : Hid (Below X.heap.size X (Y36.setRow g35 cf)) := Lib.hid (below_setR HB36.out HG35.out)
      have c16 : (Y36.setRow g35 cf).cell? ⟨g35, 16, none⟩ = some (.int .i64 y) := by rw [HROW.out.cell]; exact HF16.out
      refine hK.out _ _ (HSS.out _ HB38.out) (fun hHeld => ?_)
      clear hK K
      try simp only [Act.put, List.setIfInBounds_toArray, List.set_cons_zero, List.set_cons_succ]
      refine wpAnyH_take (i := 11) (oi := ⟨_, _, _, _, _, _⟩) (v := ?_) rfl (by kernel_rfl) (by kernel_rfl) (by kernel_rfl) (fun _ _ _ h => h) (Or.inl ⟨by rfl, ?_⟩) (by assumption) ?_
      rotate_left
      · intro w hSw; go_simp; all_goals with_reducible rfl
      simp only [Act.put, List.setIfInBounds_toArray, List.set_cons_zero, List.set_cons_succ]
      refine wpAnyH_done (by kernel_rfl) ?_ _
      go_wp2_with fail
      go_ret
      exact ⟨rfl, HR.out.trans (HB38.out.mono HR.out.size)⟩
  · obtain ⟨g39, hg39⟩ : ∃ z, X.drew.heap.size = z := ⟨_, rfl⟩
    have Hg39 := Lib.hid hg39
    refine wp_alloc_fact g39 hg39 rfl ?_
    clear hg39
    have HB39 : Hid (Below X.heap.size X (X.drew.alloc (.cells ZC 34))) := Lib.hid (HB20.out.alloc HB20.out.size _)
    have HRW39 : Hid (RowAt (X.drew.alloc (.cells ZC 34)) g39 34 ZC) := Lib.hid (by rw [← Hg39.out]; exact RowAt.new _ _ _)
    have HG39 : Hid (X.heap.size ≤ g39) := Lib.hid (by rw [← Hg39.out]; exact HB20.out.size)
    obtain ⟨Z39, hZ39⟩ : ∃ z, X.drew.alloc (.cells ZC 34) = z := ⟨_, rfl⟩
    rw [hZ39] at HB39 HRW39 ⊢
    clear hZ39
    refine hK.out _ _ (HSS.out _ HB39.out) (fun hHeld => ?_)
    clear hK K
    try simp only [Act.put, List.setIfInBounds_toArray, List.set_cons_zero, List.set_cons_succ]
    refine wpAnyH_ready (rs := [4]) (by kernel_rfl) (by simp) ?_
    refine AllReadyH.cons (o := ⟨_, _, _, _, _, _⟩) rfl (fun K hK => ?_) AllReadyH.nil
    go_simp
    go_at_call 47
    refine (mkof_any d n Z39).mono ?_
    rintro e Y40 ⟨rfl, hc1, hc2, hb1⟩
    have HB40 : Hid (Below X.heap.size X Y40) := Lib.hid (HB39.out.trans (hb1.mono HB39.out.size))
    have HFI40 := Lib.hid (HFI.out Y40 _ _ HB40.out hc1 hc2)
    have HSZ40 := Lib.hid (And.intro hc1 hc2)
    have HRW41 := Lib.hid (HRW39.out.below hb1 HRW39.out.lt)
    clear hc1 hc2 hb1
    go_wp2_with fail
    refine hK.out _ _ (HSS.out _ HB40.out) (fun hHeld => ?_)
    clear hK K
    try simp only [Act.put, List.setIfInBounds_toArray, List.set_cons_zero, List.set_cons_succ]
    refine wpAnyH_ready (rs := [5]) (by kernel_rfl) (by simp) ?_
    refine AllReadyH.cons (o := ⟨_, _, _, _, _, _⟩) rfl (fun K hK => ?_) AllReadyH.nil
    go_simp
    go_at_call 45
    refine HFI40.out.mono ?_
    rintro e Y42 ⟨rfl, hb2⟩
    have HB42 : Hid (Below X.heap.size X Y42) := Lib.hid (HB40.out.trans (hb2.mono HB40.out.size))
    have HRW43 := Lib.hid (HRW41.out.below hb2 HRW41.out.lt)
    clear hb2
    go_wp2_with fail
    refine hK.out _ _ (HSS.out _ HB42.out) (fun hHeld => ?_)
    clear hK K
    try simp only [Act.put, List.setIfInBounds_toArray, List.set_cons_zero, List.set_cons_succ]
    refine wpAnyH_take (i := 6) (oi := ⟨_, _, _, _, _, _⟩) (v := ?_) rfl (by kernel_rfl) (by kernel_rfl) (by kernel_rfl) (fun _ _ _ h => h) (Or.inl ⟨by rfl, ?_⟩) (by assumption) ?_
    rotate_left
    · intro w hSw; go_simp; all_goals with_reducible rfl
    simp only [Act.put, List.setIfInBounds_toArray, List.set_cons_zero, List.set_cons_succ]
    refine wpAnyH_take (i := 7) (oi := ⟨_, _, _, _, _, _⟩) (v := ?_) rfl (by kernel_rfl) (by kernel_rfl) (by kernel_rfl) (fun _ _ _ h => h) (Or.inl ⟨by rfl, ?_⟩) (by assumption) ?_
    rotate_left
    · intro w hSw; go_simp; all_goals with_reducible rfl
    simp only [Act.put, List.setIfInBounds_toArray, List.set_cons_zero, List.set_cons_succ]
    refine wpAnyH_take (i := 8) (oi := ⟨_, _, _, _, _, _⟩) (v := ?_) rfl (by kernel_rfl) (by kernel_rfl) (by kernel_rfl) (fun _ _ _ h => h) (Or.inl ⟨by rfl, ?_⟩) (by assumption) ?_
    rotate_left
    · intro w hSw; go_simp; all_goals with_reducible rfl
    simp only [Act.put, List.setIfInBounds_toArray, List.set_cons_zero, List.set_cons_succ]
    refine wpAnyH_ready (rs := [10]) (by kernel_rfl) (by simp) ?_
    refine AllReadyH.cons (o := ⟨_, _, _, _, _, _⟩) rfl (fun K hK => ?_) AllReadyH.nil
    refine wp_store_row 34 (.tmp 7) (.tmp 16) rfl g39 cf rfl rfl _ ZC HRW43.out HSI.out.1 HSI.out.2.2 HSI.out.2.1 ?_
    have HROW : Hid (RowAt (Y42.setRow g39 cf) g39 34 cf) := Lib.hid (setRow_at HRW43.out)
    have HB44 : Hid (Below X.heap.size X (Y42.setRow g39 cf)) := Lib.hid (below_setR HB42.out HG39.out)
    have c16 : (Y42.setRow g39 cf).cell? ⟨g39, 16, none⟩ = some (.int .i64 y) := by rw [HROW.out.cell]; exact HF16.out
    refine hK.out _ _ (HSS.out _ HB44.out) (fun hHeld => ?_)
    clear hK K
    try simp only [Act.put, List.setIfInBounds_toArray, List.set_cons_zero, List.set_cons_succ]
    refine wpAnyH_take (i := 11) (oi := ⟨_, _, _, _, _, _⟩) (v := ?_) rfl (by kernel_rfl) (by kernel_rfl) (by kernel_rfl) (fun _ _ _ h => h) (Or.inl ⟨by rfl, ?_⟩) (by assumption) ?_
    rotate_left
    · intro w hSw; go_simp; all_goals with_reducible rfl
    simp only [Act.put, List.setIfInBounds_toArray, List.set_cons_zero, List.set_cons_succ]
    refine wpAnyH_done (by kernel_rfl) ?_ _
    go_wp2_with fail
    go_ret
    exact ⟨rfl, HR.out.trans (HB44.out.mono HR.out.size)⟩
set_option maxRecDepth 100000 in
set_option maxHeartbeats 4000000 in
theorem rmark_any (bs : Array Value) (LA : Nat → List FactV) (d n : Int) (w : World) (h : BaseR w bs LA) (hn : ∀ q, (LA q).length ≤ 1000000) :
    Calls Tryz.prog 24 #[.agg bs, .int .i64 d, .int .i64 n] w fun e w' => e = .returned (.int .i64 ((firstSpec (devTest d n) (LA 1)).1.n 16)) ∧ Below w.heap.size w w' := by
  obtain ⟨v, hvq, hv⟩ := h.at_ 1 (by omega)
  have r0 := RowAt.new w 27 bs
  have hb : Below w.heap.size w (w.alloc (.cells bs 27)) := (Below.refl _ _).alloc (Nat.le_refl _) _
  have OF := Lib.hid (rofd_any (LA 1) v d n _ (hn 1) (hv.more hb))
  have HB := Lib.hid hb
  have hc0 : (w.alloc (.cells bs 27)).cell? ⟨w.heap.size, 1, none⟩ = some v := by rw [r0.cell]; exact hvq
  obtain ⟨A, c, rfl⟩ := hv.sl
  obtain ⟨s, hs⟩ : ∃ z, firstSpec (devTest d n) (LA 1) = z := ⟨_, rfl⟩
  rw [hs] at OF ⊢
  have f16 : s.1.cells[16]? = some (.int .i64 (s.1.n 16)) := rfl
  have HSI : Hid ((Tryz.prog.info? 34).map (·.size) = some s.1.cells.size ∧ s.1.cells.all (·.oneCell') = true) := Lib.hid ⟨fact_size, s.1.cells_one⟩
  obtain ⟨y, hy⟩ : ∃ z, s.1.n 16 = z := ⟨_, rfl⟩
  rw [hy] at f16 ⊢
  clear h hn hvq hv r0 hb hs hy
  go_enter Tryz.func24, Tryz.ntmps24
  go_wp2_with fail
  refine OF.out.mono ?_
  rintro e W1 ⟨rfl, hb1⟩
  have H1 : Hid (Below w.heap.size w W1) := Lib.hid (HB.out.trans (hb1.mono HB.out.size))
  have hsz := H1.out.size
  clear hb1 hc0
  go_wp2_with (refine wpList_store_new rfl 34 (.tmp 7) (.tmp 15) rfl rfl zf.cells s.1.cells rfl fact_size rfl s.1.cells_one ?_)
  go_ret
  exact ⟨rfl, H1.out.alloc hsz _⟩
set_option linter.unusedSimpArgs false in
set_option maxRecDepth 100000 in
set_option maxHeartbeats 8000000 in
theorem rrate_any (bs : Array Value) (LA : Nat → List FactV) (x p : Int) (w : World) (h : BaseR w bs LA) (hn : ∀ q, (LA q).length ≤ 1000000) :
    Calls Tryz.prog 20 #[.agg bs, .int .i64 x, .int .i64 p] w fun e w' => e = .returned (.tuple #[.int .i64 (rateSpec (LA 6) x p).1, .bool (rateSpec (LA 6) x p).2]) ∧ Below w.heap.size w w' := by
  by_cases h0 : x = 0
  · subst h0
    have e : rateSpec (LA 6) 0 p = (1000000, true) := by unfold rateSpec; rw [if_pos rfl]
    rw [e]
    clear e h hn
    go_enter Tryz.func20, Tryz.ntmps20
    go_wp2
    go_ret2
    exact ⟨rfl, (Below.refl _ _).alloc (Nat.le_refl _) _⟩
  · obtain ⟨v, hvq, hv⟩ := h.at_ 6 (by omega)
    have hn0 := hn 6
    have HSP : Hid (rateSpec (LA 6) x p = ((firstSpec (rateTest x p) (LA 6)).1.n 13, (firstSpec (rateTest x p) (LA 6)).2)) := Lib.hid (by unfold rateSpec; rw [if_neg h0])
    have q0 : (x == 0) = false := by rw [beq_eq_false_iff_ne]; exact h0
    obtain ⟨l, hl⟩ : ∃ z, LA 6 = z := ⟨_, rfl⟩
    rw [hl] at HSP hn0 hv ⊢
    obtain ⟨WB, hWB⟩ : ∃ z, w.alloc (.cells bs 27) = z := ⟨_, rfl⟩
    have r0 : RowAt WB w.heap.size 27 bs := by rw [← hWB]; exact RowAt.new w _ _
    have hbw : Below w.heap.size w WB := by rw [← hWB]; exact (Below.refl _ _).alloc (Nat.le_refl _) _
    have cl : WB.cell? ⟨w.heap.size, 6, none⟩ = some v := by rw [r0.cell]; exact hvq
    have HV := Lib.hid (hv.more hbw)
    have HB := Lib.hid hbw
    have HWB := Lib.hid hWB
    obtain ⟨A, c, rfl⟩ := hv.sl
    obtain ⟨m, hm⟩ : ∃ z, l.length = z := ⟨_, rfl⟩
    rw [hm] at HV hn0 cl
    have HM := Lib.hid hm
    clear h hn hvq hv r0 hbw hl hm h0 hWB
    go_enter Tryz.func20, Tryz.ntmps20
    go_upto_region 4 with fail
    rw [HWB.out]
    go_loopw [8] (fun v8 wr => ∃ i : Nat, v8 = .int .i64 i ∧ i ≤ m ∧ Hid (WB = wr ∧ l.find? (rateTest x p) = (l.drop i).find? (rateTest x p))) (fun v8 _ => m - (RowKit.intOf v8).toNat)
    case atStart => exact ⟨0, rfl, by omega, Lib.hid ⟨rfl, by simp⟩⟩
    case round =>
      obtain ⟨i, rfl, hi, HS⟩ := hrel
      obtain rfl := HS.out.1
      by_cases h1 : i < m
      · have h1d : decide (i < m) = true := by simpa using h1
        obtain ⟨gg, hgg⟩ : ∃ x, l[i]? = some x := ⟨_, List.getElem?_eq_getElem (by have := HM.out; omega)⟩
        obtain ⟨b, o, rfl, hlt0, hcell0⟩ := HV.out.get hgg
        have HD := Lib.hid (drop_at hgg)
        have e15 : WB.cell? ⟨b, o + i * 18 + 15, none⟩ = some (.int .i64 (gg.n 15)) := hcell0 15 _ (cells_get gg 15 (by omega))
        have e3 : WB.cell? ⟨b, o + i * 18 + 3, none⟩ = some (.int .i64 (gg.n 3)) := hcell0 3 _ (cells_get gg 3 (by omega))
        have e13 : WB.cell? ⟨b, o + i * 18 + 13, none⟩ = some (.int .i64 (gg.n 13)) := hcell0 13 _ (cells_get gg 13 (by omega))
        obtain ⟨c1, hc1⟩ : ∃ z, (gg.n 15 == x) = z := ⟨_, rfl⟩
        obtain ⟨c2, hc2⟩ : ∃ z, (gg.n 3 == p) = z := ⟨_, rfl⟩
        have HT : Hid (rateTest x p gg = (c1 && c2)) := Lib.hid (by unfold rateTest; rw [hc1, hc2])
        have HH1 := Lib.hid h1
        clear hgg hlt0 hcell0
        have nxt : Hid ((c1 && c2) = false → l.find? (rateTest x p) = (l.drop (i + 1)).find? (rateTest x p)) := Lib.hid (fun h => by rw [HS.out.2, HD.out, List.find?_cons, HT.out, h])
        cases c1
        · go_wp2_with fail
          go_roundw
          case rel => exact ⟨i + 1, by go_num, by have := HH1.out; omega, Lib.hid ⟨by first | rfl | trivial, nxt.out rfl⟩⟩
          case measure => simp [RowKit.intOf]; have := HH1.out; omega
        · cases c2
          · go_wp2_with fail
            go_roundw
            case rel => exact ⟨i + 1, by go_num, by have := HH1.out; omega, Lib.hid ⟨by first | rfl | trivial, nxt.out rfl⟩⟩
            case measure => simp [RowKit.intOf]; have := HH1.out; omega
          · have HF : Hid (firstSpec (rateTest x p) l = (gg, true)) := Lib.hid (by
              unfold firstSpec
              rw [HS.out.2, HD.out, List.find?_cons, HT.out]
              rfl)
            go_wp2_with fail
            go_ret2
            exact ⟨by rw [HSP.out, HF.out]; rfl, HB.out⟩
      · obtain rfl : i = m := by omega
        have h1d : decide (i < i) = false := by simp
        have HF : Hid (firstSpec (rateTest x p) l = (zf, false)) := Lib.hid (by
          unfold firstSpec
          rw [HS.out.2, List.drop_eq_nil_of_le (by rw [HM.out]; omega)]
          rfl)
        go_wp2_with fail
        go_ret2
        exact ⟨by rw [HSP.out, HF.out]; rfl, HB.out⟩
end Go.Proofs.YtgjajhopjcdflaaGreat
namespace Go.Proofs.YtgjajhopjcdflaaGreat
open Go Go.RowKit Go.Lib Go.Shelf Go.Maps

theorem new_int (Y : World) (y : Int) {M : Nat} (hM : M ≤ Y.heap.size) : OwnI (Y.alloc (.cells #[.int .i64 y] 3)) M (.slice (some ⟨Y.heap.size, 0, none⟩) 1 1) [y] :=
  ⟨by simp, .inr ⟨Y.heap.size, 1, #[.int .i64 y], rfl, hM, RowAt.new _ _ _, Nat.le_refl _, by unfold maxLen; omega, rfl, rfl⟩⟩
theorem OwnI.intsR {w : World} {base : Nat} {v : Value} {xs : List Int} (h : OwnI w base v xs) : IntsR w v xs := by
  rcases h.form with ⟨h1, h2⟩ | ⟨g, c, h1, _, h3, _, h5⟩
  · subst h2
    exact ⟨none, 0, h1, .inl rfl⟩
  · exact ⟨some ⟨g, 0, none⟩, c, h1, .inr ⟨g, rfl, h3, h5⟩⟩
theorem foldH_take {xs : List Int} {i : Nat} {y : Int} (h : xs[i]? = some y) : foldH (xs.take (i + 1)) = insH y (foldH (xs.take i)) := by
  rw [List.take_add_one, h]
  unfold foldH
  rw [List.foldl_append]
  rfl
theorem insH_len (n : Int) : ∀ l, (insH n l).length ≤ l.length + 1
  | [] => by simp [insH]
  | x :: r => by
    unfold insH
    split
    · have := insH_len n r; simp; omega
    · split <;> simp
theorem foldH_len (xs : List Int) : (foldH xs).length ≤ xs.length := by
  have key : ∀ (xs o : List Int), (xs.foldl (fun o n => insH n o) o).length ≤ xs.length + o.length := by
    intro xs
    induction xs with
    | nil => intro o; simp
    | cons x r ih => intro o; have h1 := ih (insH x o); have h2 := insH_len x o; simp only [List.foldl_cons, List.length_cons]; omega
  have := key xs []
  simpa [foldH] using this
theorem holders_fold (LA : Nat → List FactV) : holdersF LA = foldH (hol (LA 2) ++ hol (LA 3)) := by
  unfold holdersF sortI
  refine foldH_eq _ _ fun x y => ?_
  rw [ltOf_int, ← decide_not]
  exact decide_eq_decide.2 ⟨fun h => by omega, fun h => by omega⟩
theorem hol_len (l : List FactV) : (hol l).length = l.length := by simp [hol]
set_option linter.unusedSimpArgs false in
set_option maxRecDepth 100000 in
set_option maxHeartbeats 16000000 in
theorem rholders_any (bs : Array Value) (LA : Nat → List FactV) (w : World) (h : BaseR w bs LA) (hn : ∀ q, (LA q).length ≤ 400000) :
    Calls Tryz.prog 26 #[.agg bs] w fun e w' => ∃ v, e = .returned v ∧ IntsR w' v (holdersF LA) ∧ Below w.heap.size w w' := by
  rw [holders_fold]
  obtain ⟨v2, hv2, hf2⟩ := h.at_ 2 (by omega)
  obtain ⟨v3, hv3, hf3⟩ := h.at_ 3 (by omega)
  obtain ⟨W1, hW1⟩ : ∃ z, w.alloc (.cells bs 27) = z := ⟨_, rfl⟩
  have r1 : RowAt W1 w.heap.size 27 bs := by rw [← hW1]; exact RowAt.new w _ _
  have hbw : Below w.heap.size w W1 := by rw [← hW1]; exact (Below.refl _ _).alloc (Nat.le_refl _) _
  obtain ⟨N, hN⟩ : ∃ z, w.heap.size = z := ⟨_, rfl⟩
  have c2 : W1.cell? ⟨w.heap.size, 2, none⟩ = some v2 := base_load _ _ _ _ _ r1 hv2
  have c3 : W1.cell? ⟨w.heap.size, 3, none⟩ = some v3 := base_load _ _ _ _ _ r1 hv3
  have hlt := r1.lt
  have HC2 : Hid (∀ W, Below W1.heap.size W1 W → W.cell? ⟨N, 2, none⟩ = some v2) := Lib.hid (fun W hW => by rw [← hN]; exact (hW.cell (p := ⟨w.heap.size, 2, none⟩) hlt).trans c2)
  have HC3 : Hid (∀ W, Below W1.heap.size W1 W → W.cell? ⟨N, 3, none⟩ = some v3) := Lib.hid (fun W hW => by rw [← hN]; exact (hW.cell (p := ⟨w.heap.size, 3, none⟩) hlt).trans c3)
  have HF2 := Lib.hid (hf2.more hbw)
  have HF3 := Lib.hid (hf3.more hbw)
  obtain ⟨F2, hF2⟩ : ∃ z, LA 2 = z := ⟨_, rfl⟩
  obtain ⟨F3, hF3⟩ : ∃ z, LA 3 = z := ⟨_, rfl⟩
  have hl2 := hn 2
  have hl3 := hn 3
  rw [hF2] at hf2 hl2
  rw [hF3] at hf3 hl3
  rw [hF2] at HF2
  rw [hF3] at HF3
  rw [hF2, hF3]
  obtain ⟨A2, d2, rfl⟩ := hf2.sl
  obtain ⟨A3, d3, rfl⟩ := hf3.sl
  have HW1 := Lib.hid (And.intro hW1 hN)
  have HBW := Lib.hid hbw
  have HLL : Hid (F2.length ≤ 400000 ∧ F3.length ≤ 400000) := Lib.hid ⟨hl2, hl3⟩
  obtain ⟨R, hR⟩ : ∃ z, foldH (hol F2 ++ hol F3) = z := ⟨_, rfl⟩
  have HRZ := Lib.hid hR
  rw [hR]
  clear hR
  obtain ⟨m2, hm2⟩ : ∃ z, F2.length = z := ⟨_, rfl⟩
  obtain ⟨m3, hm3⟩ : ∃ z, F3.length = z := ⟨_, rfl⟩
  rw [hm2] at HC2 HF2
  rw [hm3] at HC3 HF3
  have HM := Lib.hid (And.intro hm2 hm3)
  clear hv2 hv3 hf2 hf3 r1 h hn hbw c2 c3 hF2 hF3 hlt hW1 hl2 hl3 hm2 hm3
  go_enter Tryz.func26, Tryz.ntmps26
  go_upto_region 2 with fail
  rw [HW1.out.1]
  clear hN
  refine wp_region_held_drew (S := fun W => Below W1.heap.size W1 W) (by kernel_rfl) (Below.refl _ _).drew (fun hHeld => ?_)
  have HBd : Hid (Below W1.heap.size W1 W1.drew) := Lib.hid (Below.refl _ _).drew
  obtain ⟨Y, hY⟩ : ∃ z, W1.drew = z := ⟨_, rfl⟩
  rw [hY] at HBd hHeld ⊢
  clear hY
  refine tk_ 1 (v := ?_) rfl ?_ ?_
  rotate_left
  · intro wS hSw; go_simp; all_goals with_reducible rfl
  simp only [Act.put, sa, s0, s1]
  refine tk_ 2 (v := ?_) rfl ?_ ?_
  rotate_left
  · intro wS hSw
    have hc := HC2.out wS hSw
    go_simp
    all_goals with_reducible rfl
  simp only [Act.put, sa, s0, s1]
  refine tk_ 4 (v := ?_) rfl ?_ ?_
  rotate_left
  · intro wS hSw; go_simp; all_goals with_reducible rfl
  simp only [Act.put, sa, s0, s1]
  refine tk_ 5 (v := ?_) rfl ?_ ?_
  rotate_left
  · intro wS hSw
    have hc := HC3.out wS hSw
    go_simp
    all_goals with_reducible rfl
  simp only [Act.put, sa, s0, s1]
  refine rd 0 (by kernel_rfl) rfl fun K hK => ?_
  rw [if_pos (by rfl)]
  refine wp_build_nofacts Y.heap.size rfl rfl ?_
  have HB0 : Hid (Below W1.heap.size W1 (Y.alloc (.cells #[] 34))) := Lib.hid (HBd.out.alloc HBd.out.size _)
  have HO0 : Hid (OwnF (Y.alloc (.cells #[] 34)) W1.heap.size (.slice (some ⟨Y.heap.size, 0, none⟩) 0 0) []) := Lib.hid ⟨rfl, .inr ⟨Y.heap.size, 0, #[], rfl, HBd.out.size, RowAt.new _ _ _, Nat.le_refl _, by unfold maxLen; omega, rfl, rfl⟩⟩
  have HN0 : Hid (W1.heap.size ≤ (Y.alloc (.cells #[] 34)).heap.size) := Lib.hid HB0.out.size
  obtain ⟨Y0, hY0⟩ : ∃ z, Y.alloc (.cells #[] 34) = z := ⟨_, rfl⟩
  obtain ⟨B0, hB0⟩ : ∃ z, Y.heap.size = z := ⟨_, rfl⟩
  rw [hB0, hY0] at HO0
  rw [hY0] at HB0 HN0
  rw [hB0, hY0]
  clear hY0 hB0
  refine hK.out _ _ (HB0.out) (fun hHeld => ?_)
  clear hK K
  try simp only [Act.put, sa, s0, s1]
  refine rd 3 (by kernel_rfl) rfl fun K hK => ?_
  rw [if_pos (by rfl)]
  refine wp_append_facts (.tmp 8) (.tmp 10) W1.heap.size [] F2 _ _ HO0.out (HF2.out.more HB0.out) (by have := HLL.out; simp; omega) HN0.out rfl rfl rfl ?_
  intro va Ya hoa hga
  have HBa : Hid (Below W1.heap.size W1 Ya) := Lib.hid (HB0.out.trans hga)
  have HOa := Lib.hid hoa
  have HNa : Hid (W1.heap.size ≤ Ya.heap.size) := Lib.hid HBa.out.size
  obtain ⟨Aa, na, ca, rfl⟩ := own_slice hoa
  clear hoa hga
  refine hK.out _ _ (HBa.out) (fun hHeld => ?_)
  clear hK K
  try simp only [Act.put, sa, s0, s1]
  refine rd 6 (by kernel_rfl) rfl fun K hK => ?_
  rw [if_pos (by rfl)]
  refine wp_append_facts (.tmp 11) (.tmp 13) W1.heap.size ([] ++ F2) F3 _ _ HOa.out (HF3.out.more HBa.out) (by have := HLL.out; simp; omega) HNa.out rfl rfl rfl ?_
  intro vb X hob hgb
  have HBb : Hid (Below W1.heap.size W1 X) := Lib.hid (HBa.out.trans hgb)
  have HFB := Lib.hid hob.facts
  obtain ⟨Ab, nb, cb, rfl⟩ := own_slice hob
  clear hob hgb
  refine hK.out _ _ (HBb.out) (fun hHeld => ?_)
  clear hK K
  try simp only [Act.put, sa, s0, s1]
  refine tk_ 7 (v := ?_) rfl ?_ ?_
  rotate_left
  · intro wS hSw; go_simp; all_goals with_reducible rfl
  simp only [Act.put, sa, s0, s1]
  refine wpAnyH_done (by kernel_rfl) ?_ _
  obtain ⟨ALL, hALL⟩ : ∃ z, [] ++ F2 ++ F3 = z := ⟨_, rfl⟩
  rw [hALL] at HFB
  have hnb : nb = ALL.length := by
    obtain ⟨A, c, e⟩ := HFB.out.sl
    simp only [Value.slice.injEq] at e
    exact e.2.1
  subst hnb
  have HHOL : Hid (hol F2 ++ hol F3 = hol ALL) := Lib.hid (by rw [← hALL]; simp [hol])
  have HLA : Hid (ALL.length ≤ 800000) := Lib.hid (by rw [← hALL]; have := HLL.out; simp; omega)
  obtain ⟨m, hm⟩ : ∃ z, ALL.length = z := ⟨_, rfl⟩
  rw [hm] at HFB HLA ⊢
  have HMM := Lib.hid hm
  have hm8 : m ≤ 800000 := HLA.out
  obtain ⟨M, hM⟩ : ∃ z, X.heap.size = z := ⟨_, rfl⟩
  have HXM := Lib.hid hM
  have HBX : Hid (Below w.heap.size w X) := Lib.hid (HBW.out.trans (HBb.out.mono HBW.out.size))
  have HR : Hid (R = foldH (hol ALL)) := Lib.hid (by rw [← HRZ.out, HHOL.out])
  clear hALL hm hM
  go_wp2_with fail
  go_loopw [3, 5] (fun ov iv wr => ∃ i : Nat, iv = .int .i64 i ∧ i ≤ m ∧ Hid (OwnI wr M ov (foldH ((hol ALL).take i)) ∧ Below M X wr ∧ M ≤ wr.heap.size)) (fun _ iv _ => m - (RowKit.intOf iv).toNat)
  case atStart => exact ⟨0, rfl, Nat.zero_le _, Lib.hid ⟨OwnI.nil _ _, Below.refl _ _, by rw [HXM.out]; exact Nat.le_refl _⟩⟩
  case round =>
    obtain ⟨i, rfl, hi, HS⟩ := hrel
    by_cases him : i < m
    · obtain ⟨f, hf⟩ : ∃ f, ALL[i]? = some f := ⟨_, List.getElem?_eq_getElem (by rw [HMM.out]; exact him)⟩
      have hy : (hol ALL)[i]? = some (f.n 9) := by unfold hol; rw [List.getElem?_map, hf]; rfl
      have HNX := Lib.hid (foldH_take hy)
      obtain ⟨O, hO⟩ : ∃ z, foldH ((hol ALL).take i) = z := ⟨_, rfl⟩
      have HLO : Hid (O.length ≤ 800000) := Lib.hid (by rw [← hO]; have h1 := foldH_len ((hol ALL).take i); rw [List.length_take] at h1; omega)
      rw [hO] at HS HNX
      have HO := Lib.hid HS.out.1
      have HB := Lib.hid HS.out.2.1
      have HNr := Lib.hid HS.out.2.2
      obtain ⟨b, o, hsl, hlt, hcells⟩ := (HFB.out.more (show Below X.heap.size X wr by rw [HXM.out]; exact HB.out)).get hf
      have hAb := hsl
      obtain ⟨y, hyy⟩ : ∃ z, f.n 9 = z := ⟨_, rfl⟩
      have hc9 : wr.cell? ⟨b, o + i * 18 + 9, none⟩ = some (.int .i64 y) := by rw [← hyy]; exact hcells 9 _ (cells_get f 9 (by omega))
      rw [hyy] at HNX
      clear hy hf hcells hO HS hyy hlt
      obtain ⟨A, c, rfl⟩ : ∃ A c, u3 = .slice A O.length c := by
        rcases HO.out.form with ⟨h1, h2⟩ | ⟨g, c, h1, _⟩
        · exact ⟨none, 0, by rw [h1, h2]; rfl⟩
        · exact ⟨_, c, h1⟩
      have HFORM : Hid (∀ k x, O[k]? = some x → ∃ g, A = some ⟨g, 0, none⟩ ∧ O.length ≤ c ∧ wr.cell? ⟨g, k, none⟩ = some (.int .i64 x)) := Lib.hid (fun k x hx => by
        rcases HO.out.form with ⟨h1, h2⟩ | ⟨g, c', h1, _, _, h4, h5⟩
        · rw [h2] at hx; simp at hx
        · simp only [Value.slice.injEq] at h1
          exact ⟨g, h1.1, by rw [h1.2.2]; exact h4, h5 k x hx⟩)
      have HNIL : Hid ((A = none ∧ c = 0 ∧ O = []) ∨ ∃ g, A = some ⟨g, 0, none⟩ ∧ O.length ≤ c) := Lib.hid (by
        rcases HO.out.form with ⟨h1, h2⟩ | ⟨g, c', h1, _, _, h4, h5⟩
        · simp only [Value.slice.injEq] at h1; exact .inl ⟨h1.1, h1.2.2, h2⟩
        · simp only [Value.slice.injEq] at h1; exact .inr ⟨g, h1.1, by rw [h1.2.2]; exact h4⟩)
      obtain ⟨ol, hol⟩ : ∃ z, O.length = z := ⟨_, rfl⟩
      rw [hol] at HO HFORM HNIL HLO ⊢
      have HOL := Lib.hid hol
      have hol8 : ol ≤ 800000 := HLO.out
      clear hol
      have hbA := hAb
      clear hAb
      subst hbA
      go_wp2_with fail
      clear hc9
      go_loopw [7] (fun kv wy => ∃ k : Nat, kv = .int .i64 k ∧ k ≤ ol ∧ wy = wr ∧ Hid (∀ x ∈ O.take k, x < y)) (fun kv _ => ol - (RowKit.intOf kv).toNat)
      case atStart => exact ⟨0, rfl, Nat.zero_le _, rfl, Lib.hid (by simp)⟩
      case round =>
        obtain ⟨k, rfl, hk, rfl, HLTK⟩ := hrel
        by_cases hkl : k < ol
        · obtain ⟨x, hx⟩ : ∃ x, O[k]? = some x := ⟨_, List.getElem?_eq_getElem (by rw [HOL.out]; exact hkl)⟩
          obtain ⟨g, rfl, hoc, hck⟩ := HFORM.out k x hx
          have HAT := Lib.hid (insH_at y O k (by rw [HOL.out]; exact hk) HLTK.out)
          by_cases hxy : x < y
          · have HNK : Hid (∀ z ∈ O.take (k + 1), z < y) := Lib.hid (by
              intro z hz
              rw [List.take_add_one, hx] at hz
              rcases List.mem_append.1 hz with h | h
              · exact HLTK.out z h
              · rw [show z = x by simpa using h]; exact hxy)
            have dxy : decide (x < y) = true := by simpa using hxy
            clear hx
            go_wp2_with fail
            go_roundw
            case rel => exact ⟨k + 1, by go_num, by omega, by first | rfl | trivial, HNK⟩
            case measure => simp [RowKit.intOf]; omega
          · have dxy : decide (x < y) = false := by simpa using hxy
            have dkl : ((k : Int) == (ol : Int)) = false := by rw [beq_eq_false_iff_ne]; omega
            have dkl2 : (k == ol) = false := by rw [beq_eq_false_iff_ne]; omega
            by_cases hey : x = y
            · have HSAME : Hid (insH y O = O) := Lib.hid ((HAT.out.2 x hx hxy).1 hey)
              have dne : (x != y) = false := by simp [hey]
              clear hx
              go_wp2_with fail
              go_roundw
              case rel => exact ⟨i + 1, by go_num, by omega, Lib.hid ⟨by rw [HNX.out, HSAME.out]; exact HO.out, HB.out, HNr.out⟩⟩
              case measure => simp [RowKit.intOf]; omega
            · have HINS : Hid (insH y O = O.take k ++ ([y] ++ O.drop k)) := Lib.hid ((HAT.out.2 x hx hxy).2 hey)
              have dne : (x != y) = true := by simp [hey]
              have hck2 : ¬ c = k := by omega
              have hkc : k ≤ c := by omega
              have hko : k ≤ ol := by omega
              have hck3 : ((c : Int) == (k : Int)) = false := by rw [beq_eq_false_iff_ne]; omega
              clear hx
              go_upto_region 11 with fail
              refine wp_region_held_drew (S := fun W => Below M X W) (by kernel_rfl) HB.out.drew (fun hHeld => ?_)
              have HOd : Hid (OwnI wr.drew M (.slice (some ⟨g, 0, none⟩) ol c) O) := Lib.hid (HO.out.below (Below.refl _ _).drew)
              have HBd : Hid (Below M X wr.drew) := Lib.hid HB.out.drew
              have HNd : Hid (M ≤ wr.drew.heap.size) := Lib.hid HNr.out
              obtain ⟨Y, hY⟩ : ∃ z, wr.drew = z := ⟨_, rfl⟩
              rw [hY] at HOd HBd HNd hHeld ⊢
              clear hY
              refine tk_ 0 (v := ?_) rfl ?_ ?_
              rotate_left
              · intro wS hSw; go_simp; all_goals with_reducible rfl
              simp only [Act.put, sa, s0, s1]
              refine tk_ 1 (v := ?_) rfl ?_ ?_
              rotate_left
              · intro wS hSw; go_simp; all_goals with_reducible rfl
              simp only [Act.put, sa, s0, s1]
              refine tk_ 2 (v := ?_) rfl ?_ ?_
              rotate_left
              · intro wS hSw; go_simp; all_goals with_reducible rfl
              simp only [Act.put, sa, s0, s1]
              refine tk_ 3 (v := ?_) rfl ?_ ?_
              rotate_left
              · intro wS hSw; go_simp; all_goals with_reducible rfl
              simp only [Act.put, sa, s0, s1]
              refine tk_ 5 (v := ?_) rfl ?_ ?_
              rotate_left
              · intro wS hSw; go_simp; all_goals with_reducible rfl
              simp only [Act.put, sa, s0, s1]
              refine tk_ 6 (v := ?_) rfl ?_ ?_
              rotate_left
              · intro wS hSw; go_simp; all_goals with_reducible rfl
              simp only [Act.put, sa, s0, s1]
              refine tk_ 7 (v := ?_) rfl ?_ ?_
              rotate_left
              · intro wS hSw; go_simp; all_goals with_reducible rfl
              simp only [Act.put, sa, s0, s1]
              refine rd 4 (by kernel_rfl) rfl fun K hK => ?_
              go_simp
              refine hK.out _ _ (HBd.out.alloc HNd.out _) (fun hHeld => ?_)
              clear hK K
              try simp only [Act.put, sa, s0, s1]
              have HN8 : Hid (OwnI (Y.alloc (.cells #[.int .i64 y] 3)) M (.slice (some ⟨Y.heap.size, 0, none⟩) 1 1) [y] ∧ OwnI (Y.alloc (.cells #[.int .i64 y] 3)) M (.slice (some ⟨g, 0, none⟩) ol c) O ∧ M ≤ (Y.alloc (.cells #[.int .i64 y] 3)).heap.size ∧ Below M X (Y.alloc (.cells #[.int .i64 y] 3)) ∧ Y.heap.size < (Y.alloc (.cells #[.int .i64 y] 3)).heap.size ∧ ∀ gq, ((.slice (some ⟨g, 0, none⟩) ol c) : Value).ownBlock = some gq → gq ≠ Y.heap.size) := Lib.hid ⟨new_int Y y HNd.out, HOd.out.below ((Below.refl _ _).alloc (Nat.le_refl _) _), by have := HNd.out; simp; omega, HBd.out.alloc HNd.out _, by simp, fun gq hgq => by have := (World.ownsRow.lt HOd.out gq hgq).2; omega⟩
              obtain ⟨Y8, hY8⟩ : ∃ z, Y.alloc (.cells #[.int .i64 y] 3) = z := ⟨_, rfl⟩
              obtain ⟨B8, hB8⟩ : ∃ z, Y.heap.size = z := ⟨_, rfl⟩
              rw [hY8, hB8] at HN8
              rw [hY8] at hHeld
              rw [hY8, hB8]
              clear hY8 hB8
              refine rd 8 (by kernel_rfl) rfl fun K hK => ?_
              rw [if_pos (by rfl)]
              refine wp_append_ints (.tmp 56) (.tmp 59) M [y] (O.drop k) _ _ HN8.out.1 (HN8.out.2.1.tail k (c - k) (by omega)) (by rw [List.length_drop]; have := HLO.out; have := HOL.out; simp; omega) HN8.out.2.2.1 rfl rfl rfl ?_
              intro v9 Y9 ho9 hg9
              obtain ⟨A9, n9, c9, rfl⟩ := own_slice ho9
              have HB9 : Hid (Below M X Y9) := Lib.hid (HN8.out.2.2.2.1.grown hg9 HN8.out.2.2.1 (fun j e => (World.ownsRow.lt HN8.out.1 j e).1))
              have HO9 : Hid (OwnI Y9 M (.slice (some ⟨g, 0, none⟩) ol c) O) := Lib.hid (World.ownsRow.kept HN8.out.2.1 hg9 (by
                by_cases e : ((.slice (some ⟨g, 0, none⟩) ol c) : Value).ownBlock = none
                · exact .inl e
                · refine .inr (fun e2 => ?_)
                  obtain ⟨gq, hgq⟩ : ∃ gq, ((.slice (some ⟨g, 0, none⟩) ol c) : Value).ownBlock = some gq := by
                    cases h : ((.slice (some ⟨g, 0, none⟩) ol c) : Value).ownBlock with
                    | none => exact absurd h e
                    | some gq => exact ⟨gq, rfl⟩
                  rw [hgq] at e2
                  exact HN8.out.2.2.2.2.2 gq hgq (by simpa [Value.ownBlock] using e2)))
              have HT9 := Lib.hid ho9.all
              have HN9 : Hid (M ≤ Y9.heap.size) := Lib.hid (Nat.le_trans HN8.out.2.2.1 hg9.size)
              clear ho9 hg9
              refine hK.out _ _ (HB9.out) (fun hHeld => ?_)
              clear hK K
              try simp only [Act.put, sa, s0, s1]
              refine rd 9 (by kernel_rfl) rfl fun K hK => ?_
              rw [if_pos (by rfl)]
              refine wp_append_ints (.tmp 54) (.tmp 60) M (O.take k) ([y] ++ O.drop k) _ _ (HO9.out.cut k (by omega)) HT9.out (by rw [List.length_take, List.length_append, List.length_drop]; have := HLO.out; have := HOL.out; simp; omega) HN9.out rfl rfl rfl ?_
              intro v10 Y10 ho10 hg10
              have HB10 : Hid (Below M X Y10) := Lib.hid (HB9.out.grown hg10 HN9.out (fun j e => (World.ownsRow.lt (HO9.out.cut k (by omega)) j e).1))
              have HO10 : Hid (OwnI Y10 M v10 (insH y O)) := Lib.hid (by rw [HINS.out]; exact ho10)
              have HN10 : Hid (M ≤ Y10.heap.size) := Lib.hid (Nat.le_trans HN9.out hg10.size)
              clear ho10 hg10
              refine hK.out _ _ (HB10.out) (fun hHeld => ?_)
              clear hK K
              try simp only [Act.put, sa, s0, s1]
              refine tk_ 10 (v := ?_) rfl ?_ ?_
              rotate_left
              · intro wS hSw; go_simp; all_goals with_reducible rfl
              simp only [Act.put, sa, s0, s1]
              refine wpAnyH_done (by kernel_rfl) ?_ _
              go_wp2_with fail
              go_roundw
              case rel => exact ⟨i + 1, by go_num, by omega, Lib.hid ⟨by rw [HNX.out]; exact HO10.out, HB10.out, HN10.out⟩⟩
              case measure => simp [RowKit.intOf]; omega
        · obtain rfl : k = ol := by omega
          have HAT := Lib.hid ((insH_at y O k (by rw [HOL.out]; exact hk) HLTK.out).1 HOL.out.symm)
          have HDR : Hid (O.drop k = []) := Lib.hid (List.drop_eq_nil_of_le (by rw [HOL.out]; exact Nat.le_refl _))
          have HINS : Hid (insH y O = O.take k ++ ([y] ++ O.drop k)) := Lib.hid (by rw [HAT.out, HDR.out, List.take_of_length_le (by rw [HOL.out]; exact Nat.le_refl _)]; simp)
          have hkk : decide (k < k) = false := by simp
          rcases HNIL.out with ⟨rfl, rfl, hO0⟩ | ⟨g, rfl, hoc⟩
          · obtain rfl : k = 0 := by have := HOL.out; rw [hO0] at this; simpa using this.symm
            clear hO0
            go_upto_region 11 with fail
            refine wp_region_held_drew (S := fun W => Below M X W) (by kernel_rfl) HB.out.drew (fun hHeld => ?_)
            have HOd : Hid (OwnI wr.drew M (.slice none 0 0) O) := Lib.hid (HO.out.below (Below.refl _ _).drew)
            have HBd : Hid (Below M X wr.drew) := Lib.hid HB.out.drew
            have HNd : Hid (M ≤ wr.drew.heap.size) := Lib.hid HNr.out
            obtain ⟨Y, hY⟩ : ∃ z, wr.drew = z := ⟨_, rfl⟩
            rw [hY] at HOd HBd HNd hHeld ⊢
            clear hY
            refine tk_ 0 (v := ?_) rfl ?_ ?_
            rotate_left
            · intro wS hSw; go_simp; all_goals with_reducible rfl
            simp only [Act.put, sa, s0, s1]
            refine tk_ 1 (v := ?_) rfl ?_ ?_
            rotate_left
            · intro wS hSw; go_simp; all_goals with_reducible rfl
            simp only [Act.put, sa, s0, s1]
            refine tk_ 2 (v := ?_) rfl ?_ ?_
            rotate_left
            · intro wS hSw; go_simp; all_goals with_reducible rfl
            simp only [Act.put, sa, s0, s1]
            refine tk_ 3 (v := ?_) rfl ?_ ?_
            rotate_left
            · intro wS hSw; go_simp; all_goals with_reducible rfl
            simp only [Act.put, sa, s0, s1]
            refine tk_ 5 (v := ?_) rfl ?_ ?_
            rotate_left
            · intro wS hSw; go_simp; all_goals with_reducible rfl
            simp only [Act.put, sa, s0, s1]
            refine tk_ 6 (v := ?_) rfl ?_ ?_
            rotate_left
            · intro wS hSw; go_simp; all_goals with_reducible rfl
            simp only [Act.put, sa, s0, s1]
            refine tk_ 7 (v := ?_) rfl ?_ ?_
            rotate_left
            · intro wS hSw; go_simp; all_goals with_reducible rfl
            simp only [Act.put, sa, s0, s1]
            refine rd 4 (by kernel_rfl) rfl fun K hK => ?_
            go_simp
            refine hK.out _ _ (HBd.out.alloc HNd.out _) (fun hHeld => ?_)
            clear hK K
            try simp only [Act.put, sa, s0, s1]
            have HN8 : Hid (OwnI (Y.alloc (.cells #[.int .i64 y] 3)) M (.slice (some ⟨Y.heap.size, 0, none⟩) 1 1) [y] ∧ OwnI (Y.alloc (.cells #[.int .i64 y] 3)) M (.slice none 0 0) O ∧ M ≤ (Y.alloc (.cells #[.int .i64 y] 3)).heap.size ∧ Below M X (Y.alloc (.cells #[.int .i64 y] 3)) ∧ Y.heap.size < (Y.alloc (.cells #[.int .i64 y] 3)).heap.size ∧ ∀ gq, ((.slice none 0 0) : Value).ownBlock = some gq → gq ≠ Y.heap.size) := Lib.hid ⟨new_int Y y HNd.out, HOd.out.below ((Below.refl _ _).alloc (Nat.le_refl _) _), by have := HNd.out; simp; omega, HBd.out.alloc HNd.out _, by simp, fun gq hgq => by have := (World.ownsRow.lt HOd.out gq hgq).2; omega⟩
            obtain ⟨Y8, hY8⟩ : ∃ z, Y.alloc (.cells #[.int .i64 y] 3) = z := ⟨_, rfl⟩
            obtain ⟨B8, hB8⟩ : ∃ z, Y.heap.size = z := ⟨_, rfl⟩
            rw [hY8, hB8] at HN8
            rw [hY8] at hHeld
            rw [hY8, hB8]
            clear hY8 hB8
            refine rd 8 (by kernel_rfl) rfl fun K hK => ?_
            rw [if_pos (by rfl)]
            refine wp_append_ints (.tmp 56) (.tmp 59) M [y] (O.drop 0) _ _ HN8.out.1 (.inl ⟨HDR.out, _, _, rfl⟩) (by rw [List.length_drop]; have := HLO.out; have := HOL.out; simp; omega) HN8.out.2.2.1 rfl rfl rfl ?_
            intro v9 Y9 ho9 hg9
            obtain ⟨A9, n9, c9, rfl⟩ := own_slice ho9
            have HB9 : Hid (Below M X Y9) := Lib.hid (HN8.out.2.2.2.1.grown hg9 HN8.out.2.2.1 (fun j e => (World.ownsRow.lt HN8.out.1 j e).1))
            have HO9 : Hid (OwnI Y9 M (.slice none 0 0) O) := Lib.hid (World.ownsRow.kept HN8.out.2.1 hg9 (by
              by_cases e : ((.slice none 0 0) : Value).ownBlock = none
              · exact .inl e
              · refine .inr (fun e2 => ?_)
                obtain ⟨gq, hgq⟩ : ∃ gq, ((.slice none 0 0) : Value).ownBlock = some gq := by
                  cases h : ((.slice none 0 0) : Value).ownBlock with
                  | none => exact absurd h e
                  | some gq => exact ⟨gq, rfl⟩
                rw [hgq] at e2
                exact HN8.out.2.2.2.2.2 gq hgq (by simpa [Value.ownBlock] using e2)))
            have HT9 := Lib.hid ho9.all
            have HN9 : Hid (M ≤ Y9.heap.size) := Lib.hid (Nat.le_trans HN8.out.2.2.1 hg9.size)
            clear ho9 hg9
            refine hK.out _ _ (HB9.out) (fun hHeld => ?_)
            clear hK K
            try simp only [Act.put, sa, s0, s1]
            refine rd 9 (by kernel_rfl) rfl fun K hK => ?_
            rw [if_pos (by rfl)]
            refine wp_append_ints (.tmp 54) (.tmp 60) M (O.take 0) ([y] ++ O.drop 0) _ _ (HO9.out.cut 0 (by omega)) HT9.out (by rw [List.length_take, List.length_append, List.length_drop]; have := HLO.out; have := HOL.out; simp; omega) HN9.out rfl rfl rfl ?_
            intro v10 Y10 ho10 hg10
            have HB10 : Hid (Below M X Y10) := Lib.hid (HB9.out.grown hg10 HN9.out (fun j e => (World.ownsRow.lt (HO9.out.cut 0 (by omega)) j e).1))
            have HO10 : Hid (OwnI Y10 M v10 (insH y O)) := Lib.hid (by rw [HINS.out]; exact ho10)
            have HN10 : Hid (M ≤ Y10.heap.size) := Lib.hid (Nat.le_trans HN9.out hg10.size)
            clear ho10 hg10
            refine hK.out _ _ (HB10.out) (fun hHeld => ?_)
            clear hK K
            try simp only [Act.put, sa, s0, s1]
            refine tk_ 10 (v := ?_) rfl ?_ ?_
            rotate_left
            · intro wS hSw; go_simp; all_goals with_reducible rfl
            simp only [Act.put, sa, s0, s1]
            refine wpAnyH_done (by kernel_rfl) ?_ _
            go_wp2_with fail
            go_roundw
            case rel => exact ⟨i + 1, by go_num, by omega, Lib.hid ⟨by rw [HNX.out]; exact HO10.out, HB10.out, HN10.out⟩⟩
            case measure => simp [RowKit.intOf]; omega
          · have hkc : k ≤ c := hoc
            by_cases hcol : k = c
            · subst hcol
              go_upto_region 11 with fail
              refine wp_region_held_drew (S := fun W => Below M X W) (by kernel_rfl) HB.out.drew (fun hHeld => ?_)
              have HOd : Hid (OwnI wr.drew M (.slice (some ⟨g, 0, none⟩) k k) O) := Lib.hid (HO.out.below (Below.refl _ _).drew)
              have HBd : Hid (Below M X wr.drew) := Lib.hid HB.out.drew
              have HNd : Hid (M ≤ wr.drew.heap.size) := Lib.hid HNr.out
              obtain ⟨Y, hY⟩ : ∃ z, wr.drew = z := ⟨_, rfl⟩
              rw [hY] at HOd HBd HNd hHeld ⊢
              clear hY
              refine tk_ 0 (v := ?_) rfl ?_ ?_
              rotate_left
              · intro wS hSw; go_simp; all_goals with_reducible rfl
              simp only [Act.put, sa, s0, s1]
              refine tk_ 1 (v := ?_) rfl ?_ ?_
              rotate_left
              · intro wS hSw; go_simp; all_goals with_reducible rfl
              simp only [Act.put, sa, s0, s1]
              refine tk_ 2 (v := ?_) rfl ?_ ?_
              rotate_left
              · intro wS hSw; go_simp; all_goals with_reducible rfl
              simp only [Act.put, sa, s0, s1]
              refine tk_ 3 (v := ?_) rfl ?_ ?_
              rotate_left
              · intro wS hSw; go_simp; all_goals with_reducible rfl
              simp only [Act.put, sa, s0, s1]
              refine tk_ 5 (v := ?_) rfl ?_ ?_
              rotate_left
              · intro wS hSw; go_simp; all_goals with_reducible rfl
              simp only [Act.put, sa, s0, s1]
              refine tk_ 6 (v := ?_) rfl ?_ ?_
              rotate_left
              · intro wS hSw; go_simp; all_goals with_reducible rfl
              simp only [Act.put, sa, s0, s1]
              refine tk_ 7 (v := ?_) rfl ?_ ?_
              rotate_left
              · intro wS hSw; go_simp; all_goals with_reducible rfl
              simp only [Act.put, sa, s0, s1]
              refine rd 4 (by kernel_rfl) rfl fun K hK => ?_
              go_simp
              refine hK.out _ _ (HBd.out.alloc HNd.out _) (fun hHeld => ?_)
              clear hK K
              try simp only [Act.put, sa, s0, s1]
              have HN8 : Hid (OwnI (Y.alloc (.cells #[.int .i64 y] 3)) M (.slice (some ⟨Y.heap.size, 0, none⟩) 1 1) [y] ∧ OwnI (Y.alloc (.cells #[.int .i64 y] 3)) M (.slice (some ⟨g, 0, none⟩) k k) O ∧ M ≤ (Y.alloc (.cells #[.int .i64 y] 3)).heap.size ∧ Below M X (Y.alloc (.cells #[.int .i64 y] 3)) ∧ Y.heap.size < (Y.alloc (.cells #[.int .i64 y] 3)).heap.size ∧ ∀ gq, ((.slice (some ⟨g, 0, none⟩) k k) : Value).ownBlock = some gq → gq ≠ Y.heap.size) := Lib.hid ⟨new_int Y y HNd.out, HOd.out.below ((Below.refl _ _).alloc (Nat.le_refl _) _), by have := HNd.out; simp; omega, HBd.out.alloc HNd.out _, by simp, fun gq hgq => by have := (World.ownsRow.lt HOd.out gq hgq).2; omega⟩
              obtain ⟨Y8, hY8⟩ : ∃ z, Y.alloc (.cells #[.int .i64 y] 3) = z := ⟨_, rfl⟩
              obtain ⟨B8, hB8⟩ : ∃ z, Y.heap.size = z := ⟨_, rfl⟩
              rw [hY8, hB8] at HN8
              rw [hY8] at hHeld
              rw [hY8, hB8]
              clear hY8 hB8
              refine rd 8 (by kernel_rfl) rfl fun K hK => ?_
              rw [if_pos (by rfl)]
              refine wp_append_ints (.tmp 56) (.tmp 59) M [y] (O.drop k) _ _ HN8.out.1 (.inl ⟨HDR.out, _, _, rfl⟩) (by rw [List.length_drop]; have := HLO.out; have := HOL.out; simp; omega) HN8.out.2.2.1 rfl rfl rfl ?_
              intro v9 Y9 ho9 hg9
              obtain ⟨A9, n9, c9, rfl⟩ := own_slice ho9
              have HB9 : Hid (Below M X Y9) := Lib.hid (HN8.out.2.2.2.1.grown hg9 HN8.out.2.2.1 (fun j e => (World.ownsRow.lt HN8.out.1 j e).1))
              have HO9 : Hid (OwnI Y9 M (.slice (some ⟨g, 0, none⟩) k k) O) := Lib.hid (World.ownsRow.kept HN8.out.2.1 hg9 (by
                by_cases e : ((.slice (some ⟨g, 0, none⟩) k k) : Value).ownBlock = none
                · exact .inl e
                · refine .inr (fun e2 => ?_)
                  obtain ⟨gq, hgq⟩ : ∃ gq, ((.slice (some ⟨g, 0, none⟩) k k) : Value).ownBlock = some gq := by
                    cases h : ((.slice (some ⟨g, 0, none⟩) k k) : Value).ownBlock with
                    | none => exact absurd h e
                    | some gq => exact ⟨gq, rfl⟩
                  rw [hgq] at e2
                  exact HN8.out.2.2.2.2.2 gq hgq (by simpa [Value.ownBlock] using e2)))
              have HT9 := Lib.hid ho9.all
              have HN9 : Hid (M ≤ Y9.heap.size) := Lib.hid (Nat.le_trans HN8.out.2.2.1 hg9.size)
              clear ho9 hg9
              refine hK.out _ _ (HB9.out) (fun hHeld => ?_)
              clear hK K
              try simp only [Act.put, sa, s0, s1]
              refine rd 9 (by kernel_rfl) rfl fun K hK => ?_
              rw [if_pos (by rfl)]
              refine wp_append_ints (.tmp 54) (.tmp 60) M (O.take k) ([y] ++ O.drop k) _ _ (HO9.out.cut k (by omega)) HT9.out (by rw [List.length_take, List.length_append, List.length_drop]; have := HLO.out; have := HOL.out; simp; omega) HN9.out rfl rfl rfl ?_
              intro v10 Y10 ho10 hg10
              have HB10 : Hid (Below M X Y10) := Lib.hid (HB9.out.grown hg10 HN9.out (fun j e => (World.ownsRow.lt (HO9.out.cut k (by omega)) j e).1))
              have HO10 : Hid (OwnI Y10 M v10 (insH y O)) := Lib.hid (by rw [HINS.out]; exact ho10)
              have HN10 : Hid (M ≤ Y10.heap.size) := Lib.hid (Nat.le_trans HN9.out hg10.size)
              clear ho10 hg10
              refine hK.out _ _ (HB10.out) (fun hHeld => ?_)
              clear hK K
              try simp only [Act.put, sa, s0, s1]
              refine tk_ 10 (v := ?_) rfl ?_ ?_
              rotate_left
              · intro wS hSw; go_simp; all_goals with_reducible rfl
              simp only [Act.put, sa, s0, s1]
              refine wpAnyH_done (by kernel_rfl) ?_ _
              go_wp2_with fail
              go_roundw
              case rel => exact ⟨i + 1, by go_num, by omega, Lib.hid ⟨by rw [HNX.out]; exact HO10.out, HB10.out, HN10.out⟩⟩
              case measure => simp [RowKit.intOf]; omega
            · have hcol2 : ((c : Int) == (k : Int)) = false := by rw [beq_eq_false_iff_ne]; omega
              have hcol3 : ¬ c = k := fun e => hcol e.symm
              go_upto_region 11 with fail
              refine wp_region_held_drew (S := fun W => Below M X W) (by kernel_rfl) HB.out.drew (fun hHeld => ?_)
              have HOd : Hid (OwnI wr.drew M (.slice (some ⟨g, 0, none⟩) k c) O) := Lib.hid (HO.out.below (Below.refl _ _).drew)
              have HBd : Hid (Below M X wr.drew) := Lib.hid HB.out.drew
              have HNd : Hid (M ≤ wr.drew.heap.size) := Lib.hid HNr.out
              obtain ⟨Y, hY⟩ : ∃ z, wr.drew = z := ⟨_, rfl⟩
              rw [hY] at HOd HBd HNd hHeld ⊢
              clear hY
              refine tk_ 0 (v := ?_) rfl ?_ ?_
              rotate_left
              · intro wS hSw; go_simp; all_goals with_reducible rfl
              simp only [Act.put, sa, s0, s1]
              refine tk_ 1 (v := ?_) rfl ?_ ?_
              rotate_left
              · intro wS hSw; go_simp; all_goals with_reducible rfl
              simp only [Act.put, sa, s0, s1]
              refine tk_ 2 (v := ?_) rfl ?_ ?_
              rotate_left
              · intro wS hSw; go_simp; all_goals with_reducible rfl
              simp only [Act.put, sa, s0, s1]
              refine tk_ 3 (v := ?_) rfl ?_ ?_
              rotate_left
              · intro wS hSw; go_simp; all_goals with_reducible rfl
              simp only [Act.put, sa, s0, s1]
              refine tk_ 5 (v := ?_) rfl ?_ ?_
              rotate_left
              · intro wS hSw; go_simp; all_goals with_reducible rfl
              simp only [Act.put, sa, s0, s1]
              refine tk_ 6 (v := ?_) rfl ?_ ?_
              rotate_left
              · intro wS hSw; go_simp; all_goals with_reducible rfl
              simp only [Act.put, sa, s0, s1]
              refine tk_ 7 (v := ?_) rfl ?_ ?_
              rotate_left
              · intro wS hSw; go_simp; all_goals with_reducible rfl
              simp only [Act.put, sa, s0, s1]
              refine rd 4 (by kernel_rfl) rfl fun K hK => ?_
              go_simp
              refine hK.out _ _ (HBd.out.alloc HNd.out _) (fun hHeld => ?_)
              clear hK K
              try simp only [Act.put, sa, s0, s1]
              have HN8 : Hid (OwnI (Y.alloc (.cells #[.int .i64 y] 3)) M (.slice (some ⟨Y.heap.size, 0, none⟩) 1 1) [y] ∧ OwnI (Y.alloc (.cells #[.int .i64 y] 3)) M (.slice (some ⟨g, 0, none⟩) k c) O ∧ M ≤ (Y.alloc (.cells #[.int .i64 y] 3)).heap.size ∧ Below M X (Y.alloc (.cells #[.int .i64 y] 3)) ∧ Y.heap.size < (Y.alloc (.cells #[.int .i64 y] 3)).heap.size ∧ ∀ gq, ((.slice (some ⟨g, 0, none⟩) k c) : Value).ownBlock = some gq → gq ≠ Y.heap.size) := Lib.hid ⟨new_int Y y HNd.out, HOd.out.below ((Below.refl _ _).alloc (Nat.le_refl _) _), by have := HNd.out; simp; omega, HBd.out.alloc HNd.out _, by simp, fun gq hgq => by have := (World.ownsRow.lt HOd.out gq hgq).2; omega⟩
              obtain ⟨Y8, hY8⟩ : ∃ z, Y.alloc (.cells #[.int .i64 y] 3) = z := ⟨_, rfl⟩
              obtain ⟨B8, hB8⟩ : ∃ z, Y.heap.size = z := ⟨_, rfl⟩
              rw [hY8, hB8] at HN8
              rw [hY8] at hHeld
              rw [hY8, hB8]
              clear hY8 hB8
              refine rd 8 (by kernel_rfl) rfl fun K hK => ?_
              rw [if_pos (by rfl)]
              refine wp_append_ints (.tmp 56) (.tmp 59) M [y] (O.drop k) _ _ HN8.out.1 (.inl ⟨HDR.out, _, _, rfl⟩) (by rw [List.length_drop]; have := HLO.out; have := HOL.out; simp; omega) HN8.out.2.2.1 rfl rfl rfl ?_
              intro v9 Y9 ho9 hg9
              obtain ⟨A9, n9, c9, rfl⟩ := own_slice ho9
              have HB9 : Hid (Below M X Y9) := Lib.hid (HN8.out.2.2.2.1.grown hg9 HN8.out.2.2.1 (fun j e => (World.ownsRow.lt HN8.out.1 j e).1))
              have HO9 : Hid (OwnI Y9 M (.slice (some ⟨g, 0, none⟩) k c) O) := Lib.hid (World.ownsRow.kept HN8.out.2.1 hg9 (by
                by_cases e : ((.slice (some ⟨g, 0, none⟩) k c) : Value).ownBlock = none
                · exact .inl e
                · refine .inr (fun e2 => ?_)
                  obtain ⟨gq, hgq⟩ : ∃ gq, ((.slice (some ⟨g, 0, none⟩) k c) : Value).ownBlock = some gq := by
                    cases h : ((.slice (some ⟨g, 0, none⟩) k c) : Value).ownBlock with
                    | none => exact absurd h e
                    | some gq => exact ⟨gq, rfl⟩
                  rw [hgq] at e2
                  exact HN8.out.2.2.2.2.2 gq hgq (by simpa [Value.ownBlock] using e2)))
              have HT9 := Lib.hid ho9.all
              have HN9 : Hid (M ≤ Y9.heap.size) := Lib.hid (Nat.le_trans HN8.out.2.2.1 hg9.size)
              clear ho9 hg9
              refine hK.out _ _ (HB9.out) (fun hHeld => ?_)
              clear hK K
              try simp only [Act.put, sa, s0, s1]
              refine rd 9 (by kernel_rfl) rfl fun K hK => ?_
              rw [if_pos (by rfl)]
              refine wp_append_ints (.tmp 54) (.tmp 60) M (O.take k) ([y] ++ O.drop k) _ _ (HO9.out.cut k (by omega)) HT9.out (by rw [List.length_take, List.length_append, List.length_drop]; have := HLO.out; have := HOL.out; simp; omega) HN9.out rfl rfl rfl ?_
              intro v10 Y10 ho10 hg10
              have HB10 : Hid (Below M X Y10) := Lib.hid (HB9.out.grown hg10 HN9.out (fun j e => (World.ownsRow.lt (HO9.out.cut k (by omega)) j e).1))
              have HO10 : Hid (OwnI Y10 M v10 (insH y O)) := Lib.hid (by rw [HINS.out]; exact ho10)
              have HN10 : Hid (M ≤ Y10.heap.size) := Lib.hid (Nat.le_trans HN9.out hg10.size)
              clear ho10 hg10
              refine hK.out _ _ (HB10.out) (fun hHeld => ?_)
              clear hK K
              try simp only [Act.put, sa, s0, s1]
              refine tk_ 10 (v := ?_) rfl ?_ ?_
              rotate_left
              · intro wS hSw; go_simp; all_goals with_reducible rfl
              simp only [Act.put, sa, s0, s1]
              refine wpAnyH_done (by kernel_rfl) ?_ _
              go_wp2_with fail
              go_roundw
              case rel => exact ⟨i + 1, by go_num, by omega, Lib.hid ⟨by rw [HNX.out]; exact HO10.out, HB10.out, HN10.out⟩⟩
              case measure => simp [RowKit.intOf]; omega
    · obtain rfl : i = m := by omega
      have HFIN : Hid (R = foldH ((hol ALL).take i)) := Lib.hid (by rw [HR.out, List.take_of_length_le (by rw [hol_len, HMM.out]; exact Nat.le_refl _)])
      have hid : decide (i < i) = false := by simp
      go_wp2_with fail
      go_ret
      exact ⟨_, rfl, by rw [HFIN.out]; exact HS.out.1.intsR, HBX.out.trans (HS.out.2.1.mono (by rw [← HXM.out]; exact HBX.out.size))⟩
end Go.Proofs.YtgjajhopjcdflaaGreat
