/- The arguments of ContractFacts, opened: slices of slices of terms, slices of integers. -/
import Derived.Test.YtfiabonacpepnaaGreatDoorRows
import Derived.Test.YtfiabonacpepnaaGreatDoorLaw
import Derived.Test.YtfiabonacpepnaaGreatDoorLawB
import Derived.Test.YtfiabonacpepnaaGreatDoorCtF
import Derived.Deep.Slices
namespace Go.Proofs.YtfiabonacpepnaaGreatDoor
open Go Go.ChangeShapes Go.WideShapes Go.ChangeAt Go.RowKit Go.Deep

theorem add_add (b o x y : Nat) : ((⟨b, o, none⟩ : Addr).add x).add y = ⟨b, o + x + y, none⟩ := by
  rw [add_plain', add_plain']
theorem term_places : (List.range 5).all (fun k => match (Tryz.prog.fieldsOf 28)[k]? with
  | some f => f.offset == k && Tryz.prog.cellsOf f.type == 1 && (if k < 4 then f.type == 3 else f.type == 26)
  | none => false) = true := by kernel_rfl
theorem term_place (k : Nat) (hk : k < 5) : ∃ f, (Tryz.prog.fieldsOf 28)[k]? = some f ∧ f.offset = k ∧ Tryz.prog.cellsOf f.type = 1 ∧ ((k < 4 ∧ f.type = 3) ∨ (k = 4 ∧ f.type = 26)) := by
  have h := List.all_eq_true.1 term_places k (List.mem_range.2 hk)
  split at h
  · rename_i f hf
    rw [Bool.and_eq_true, Bool.and_eq_true] at h
    obtain ⟨⟨h1, h2⟩, h3⟩ := h
    refine ⟨f, hf, by simpa using h1, by simpa using h2, ?_⟩
    split at h3
    · rename_i hlt; exact .inl ⟨hlt, by simpa using h3⟩
    · exact .inr ⟨by omega, by simpa using h3⟩
  · cases h
theorem term_cellsOf : Tryz.prog.cellsOf 28 = 5 := by kernel_rfl
theorem term_bytesOf : Tryz.prog.bytesOf 28 = 56 := by kernel_rfl
theorem int_cellsOf : Tryz.prog.cellsOf 3 = 1 := by kernel_rfl
theorem term_under : Tryz.prog.underlying 28 = some (.struct (Tryz.prog.fieldsOf 28)) := by kernel_rfl
section
variable {H : Type} {enc : TypeId × Value → H} {W : World} {A : Option Addr} {n c fuel : Nat} {d : DataW H} {p : List MemPlace} {ts : List TypeId} {ds : List (DataW H)} {j : Nat}
/-- a slice of integers within a struct -/
theorem ints_in {x : DataW H × List MemPlace} {v : Value} (hf : DataW.trod enc Tryz.prog W 0 (fun _ => true) true fuel 26 [v] = some x) :
    ∃ (A : Option Addr) (l : List Int) (c : Nat), v = .slice A l.length c ∧ IntsL W (.slice A l.length c) l ∧ l.length ≤ c ∧ c ≤ maxLen ∧ ∀ y ∈ l, -9223372036854775808 ≤ y ∧ y ≤ 9223372036854775807 := by
  rcases open_slice Tryz.underlying26 hf with ⟨hc, _⟩ | ⟨a, len, cap, m, q, D, Pl, hc, _, hlc, hmax, hm, hx, hel⟩
  · simp only [List.cons.injEq, and_true] at hc
    exact ⟨none, [], 0, hc, .inl ⟨rfl, _, _, rfl⟩, by simp, by simp, by simp⟩
  · simp only [List.cons.injEq, and_true] at hc
    simp only [if_true] at hm
    subst hm
    have each : ∀ i, i < len → ∃ z : Int, W.cell? (a.add i) = some (.int .i64 z) ∧ -9223372036854775808 ≤ z ∧ z ≤ 9223372036854775807 := by
      intro i hi
      obtain ⟨cs', h1, h2⟩ := hel i (by omega)
      rw [int_cellsOf, Nat.mul_one] at h1
      obtain ⟨_, hl, hcell⟩ := World.cells?_some h1
      obtain ⟨z, hz, _, hwf⟩ := DataW.trod_int Tryz.underlying3 h2
      refine ⟨z, ?_, bounds_i64 hwf⟩
      have := hcell 0 (by omega)
      rw [hz] at this
      simpa [Addr.add] using this
    obtain ⟨F, hF⟩ := choose_lt each
    have hlist : ∀ (i : Nat) y, ((List.range len).map F)[i]? = some y → i < len ∧ y = F i := by
      intro i y h
      rw [List.getElem?_map] at h
      by_cases hin : i < len
      · rw [List.getElem?_range hin] at h; simp at h; exact ⟨hin, h.symm⟩
      · rw [List.getElem?_eq_none (by simpa using hin)] at h; simp at h
    refine ⟨some a, (List.range len).map F, m, by simpa using hc, ?_, by simpa using hlc, hmax, fun y hy => ?_⟩
    · by_cases h0 : len = 0
      · subst h0
        exact .inl ⟨rfl, _, _, rfl⟩
      · have h00 := (hF 0 (by omega)).1
        have h01 : W.cell? a = some (.int .i64 (F 0)) := by simpa [Addr.add] using h00
        have hsp := spot_of_cell h01
        refine .inr ⟨a.block, a.off, m, by rw [← hsp], lt_of_cell h01, fun i y hi => ?_⟩
        obtain ⟨hin, rfl⟩ := hlist i y hi
        have := (hF i hin).1
        rw [hsp, add_plain'] at this
        exact this
    · obtain ⟨i, hi⟩ := List.mem_iff_getElem?.1 hy
      obtain ⟨hin, rfl⟩ := hlist i y hi
      exact (hF i hin).2
theorem terms_part (hsz : (DataW.weightsEach Tryz.prog ts ds).all (· ≤ reachBytes) = true) (ht : ts[j]? = some 22) (hd : ds[j]? = some d)
    (hf : DataW.trod enc Tryz.prog W 0 (fun _ => true) true fuel 22 (Value.slice A n c).cells.toList = some (d, p)) :
    n ≤ 140737488351232 ∧ ∃ l : List TermV, l.length = n ∧ TermsIn W (.slice A n c) l ∧ ∀ t ∈ l, (∀ x ∈ [t.k, t.n, t.m, t.ab], -9223372036854775808 ≤ x ∧ x ≤ 9223372036854775807) ∧ (∀ x ∈ t.acc, -9223372036854775808 ≤ x ∧ x ≤ 9223372036854775807) ∧ t.acc.length ≤ maxLen := by
  rcases open_slice Tryz.underlying22 hf with ⟨hc, _⟩ | ⟨a, len, cap, m, q, D, Pl, hc, _, hlc, hmax, hm, hx, hel⟩
  · simp [Value.cells] at hc
    obtain ⟨rfl, rfl, rfl⟩ := hc
    exact ⟨Nat.zero_le _, [], rfl, .inl ⟨rfl, _, _, rfl⟩, by simp⟩
  · simp only [Value.cells, List.cons.injEq, Value.slice.injEq, and_true] at hc
    obtain ⟨rfl, rfl, rfl⟩ := hc
    simp only [if_true] at hm
    subst hm
    have hx1 := congrArg Prod.fst hx
    dsimp only at hx1
    rw [hx1] at hd
    have hs := sized_slice hsz ht hd Tryz.underlying22
    rw [term_bytesOf] at hs
    simp only [List.length_map, List.length_range, reachBytes] at hs
    refine ⟨by omega, ?_⟩
    have each : ∀ i, i < n → ∃ t : TermV, (∃ A' c', IntsL W (.slice A' t.acc.length c') t.acc ∧ t.acc.length ≤ c' ∧ ∀ (k : Nat) x, (termC t (.slice A' t.acc.length c'))[k]? = some x → W.cell? ((a.add (i * 5)).add k) = some x) ∧
        (∀ x ∈ [t.k, t.n, t.m, t.ab], -9223372036854775808 ≤ x ∧ x ≤ 9223372036854775807) ∧ (∀ x ∈ t.acc, -9223372036854775808 ≤ x ∧ x ≤ 9223372036854775807) ∧ t.acc.length ≤ maxLen := by
      intro i hin
      obtain ⟨cs', h1, h2⟩ := hel i (by omega)
      rw [term_cellsOf] at h1
      obtain ⟨_, hl, hcell⟩ := World.cells?_some h1
      obtain ⟨xs, q2, _, _, _, hxl, hxs⟩ := DataW.trod_struct term_under h2
      have hlen5 : xs.length = 5 := by rw [hxl]; kernel_rfl
      have ints : ∀ k, k < 4 → ∃ z : Int, W.cell? ((a.add (i * 5)).add k) = some (.int .i64 z) ∧ -9223372036854775808 ≤ z ∧ z ≤ 9223372036854775807 := by
        intro k hk
        obtain ⟨f, hf1, hf2, hf3, hf4⟩ := term_place k (by omega)
        have h3 := hxs k f hf1
        rw [hf3, hf2, List.getElem?_eq_getElem (by omega)] at h3
        rcases hf4 with ⟨_, hu⟩ | ⟨h4, _⟩
        · rw [hu] at h3
          obtain ⟨z, hz, _, hwf⟩ := DataW.trod_int Tryz.underlying3 h3
          refine ⟨z, ?_, bounds_i64 hwf⟩
          rw [hcell k (by omega)]
          have := congrArg (·[0]?) hz
          simpa using this
        · omega
      obtain ⟨z0, h0, b0⟩ := ints 0 (by omega)
      obtain ⟨z1, h1', b1⟩ := ints 1 (by omega)
      obtain ⟨z2, h2', b2⟩ := ints 2 (by omega)
      obtain ⟨z3, h3', b3⟩ := ints 3 (by omega)
      obtain ⟨f, hf1, hf2, hf3, hf4⟩ := term_place 4 (by omega)
      have h3 := hxs 4 f hf1
      rw [hf3, hf2, List.getElem?_eq_getElem (by omega)] at h3
      have hu : f.type = 26 := hf4.elim (fun h => absurd h.1 (by omega)) (fun h => h.2)
      rw [hu] at h3
      have hc4 := hcell 4 (by omega)
      obtain ⟨v4, hv4⟩ : ∃ v, cs'[4]? = some v := ⟨_, List.getElem?_eq_getElem (by omega)⟩
      have hcs : List.take 1 (List.drop 4 cs') = [v4] := by
        obtain ⟨h4, e4⟩ := List.getElem?_eq_some_iff.1 hv4
        rw [List.drop_eq_getElem_cons h4, e4]
        rfl
      rw [hcs] at h3
      obtain ⟨A', l, c', rfl, hl2, hl3, hl4, hl5⟩ := ints_in h3
      refine ⟨⟨z0, z1, z2, z3, l⟩, ⟨A', c', hl2, hl3, fun k x hx => ?_⟩, fun x hx => ?_, hl5, by dsimp only; omega⟩
      · match k, hx with
        | 0, hx => cases hx; exact h0
        | 1, hx => cases hx; exact h1'
        | 2, hx => cases hx; exact h2'
        | 3, hx => cases hx; exact h3'
        | 4, hx =>
          have hxe : x = .slice A' l.length c' := (Option.some.inj hx).symm
          rw [hxe, hc4, hv4]
        | k + 5, hx => simp [termC] at hx
      · simp at hx
        rcases hx with rfl | rfl | rfl | rfl <;> assumption
    haveI : Inhabited TermV := ⟨⟨0, 0, 0, 0, []⟩⟩
    obtain ⟨F, hF⟩ := choose_lt each
    have hlist : ∀ (i : Nat) t, ((List.range n).map F)[i]? = some t → i < n ∧ t = F i := by
      intro i f h
      rw [List.getElem?_map] at h
      by_cases hin : i < n
      · rw [List.getElem?_range hin] at h; simp at h; exact ⟨hin, h.symm⟩
      · rw [List.getElem?_eq_none (by simpa using hin)] at h; simp at h
    refine ⟨(List.range n).map F, by simp, ?_, fun t ht => ?_⟩
    · by_cases h0 : n = 0
      · subst h0
        exact .inl ⟨rfl, _, _, rfl⟩
      · obtain ⟨A0, c0, _, _, h00⟩ := (hF 0 (by omega)).1
        have h01 : W.cell? a = some (.int .i64 (F 0).k) := by
          have := h00 0 (.int .i64 (F 0).k) rfl
          simpa [Addr.add] using this
        have hsp := spot_of_cell h01
        refine .inr ⟨a.block, a.off, m, by rw [← hsp]; simp, lt_of_cell h01, fun i t hi => ?_⟩
        obtain ⟨hin, rfl⟩ := hlist i t hi
        obtain ⟨A', c', e1, e2, e3⟩ := (hF i hin).1
        refine ⟨A', c', e1, e2, fun k x hx => ?_⟩
        have := e3 k x hx
        rw [hsp, add_add] at this
        exact this
    · obtain ⟨i, hi⟩ := List.mem_iff_getElem?.1 ht
      obtain ⟨hin, rfl⟩ := hlist i t hi
      exact (hF i hin).2
end
end Go.Proofs.YtfiabonacpepnaaGreatDoor
namespace Go.Proofs.YtfiabonacpepnaaGreatDoor
open Go Go.ChangeShapes Go.WideShapes Go.ChangeAt Go.RowKit Go.Deep

/-- slices of terms that lie in a slice -/
def ListsIn (W : World) (v : Value) (n : Nat) (LL : Nat → List TermV) : Prop :=
  ∃ A c, v = .slice A n c ∧ ∀ i, i < n → ∃ b o, A = some ⟨b, o, none⟩ ∧ b < W.heap.size ∧ ∃ A' c', W.cell? ⟨b, o + i, none⟩ = some (.slice A' (LL i).length c') ∧ TermsIn W (.slice A' (LL i).length c') (LL i) ∧ (LL i).length ≤ maxLen ∧ ∀ t ∈ LL i, t.acc.length ≤ maxLen ∧ ∀ x ∈ t.acc, -9223372036854775808 ≤ x ∧ x ≤ 9223372036854775807
section
variable {H : Type} {enc : TypeId × Value → H} {W : World} {A : Option Addr} {n c fuel : Nat} {d : DataW H} {p : List MemPlace} {ts : List TypeId} {ds : List (DataW H)} {j : Nat}
theorem terms_in {x : DataW H × List MemPlace} {v : Value} (hf : DataW.trod enc Tryz.prog W 0 (fun _ => true) true fuel 22 [v] = some x) :
    ∃ (A : Option Addr) (l : List TermV) (c : Nat), v = .slice A l.length c ∧ TermsIn W (.slice A l.length c) l ∧ l.length ≤ maxLen ∧ ∀ t ∈ l, t.acc.length ≤ maxLen ∧ ∀ x ∈ t.acc, -9223372036854775808 ≤ x ∧ x ≤ 9223372036854775807 := by
  rcases open_slice Tryz.underlying22 hf with ⟨hc, _⟩ | ⟨a, len, cap, m, q, D, Pl, hc, _, hlc, hmax, hm, hx, hel⟩
  · simp only [List.cons.injEq, and_true] at hc
    exact ⟨none, [], 0, hc, .inl ⟨rfl, _, _, rfl⟩, by simp, by simp⟩
  · simp only [List.cons.injEq, and_true] at hc
    simp only [if_true] at hm
    subst hm
    have each : ∀ i, i < len → ∃ t : TermV, (∃ A' c', IntsL W (.slice A' t.acc.length c') t.acc ∧ t.acc.length ≤ c' ∧ ∀ (k : Nat) x, (termC t (.slice A' t.acc.length c'))[k]? = some x → W.cell? ((a.add (i * 5)).add k) = some x) ∧
        t.acc.length ≤ maxLen ∧ ∀ x ∈ t.acc, -9223372036854775808 ≤ x ∧ x ≤ 9223372036854775807 := by
      intro i hin
      obtain ⟨cs', h1, h2⟩ := hel i (by omega)
      rw [term_cellsOf] at h1
      obtain ⟨_, hl, hcell⟩ := World.cells?_some h1
      obtain ⟨xs, q2, _, _, _, hxl, hxs⟩ := DataW.trod_struct term_under h2
      have hlen5 : xs.length = 5 := by rw [hxl]; kernel_rfl
      have ints : ∀ k, k < 4 → ∃ z : Int, W.cell? ((a.add (i * 5)).add k) = some (.int .i64 z) := by
        intro k hk
        obtain ⟨f, hf1, hf2, hf3, hf4⟩ := term_place k (by omega)
        have h3 := hxs k f hf1
        rw [hf3, hf2, List.getElem?_eq_getElem (by omega)] at h3
        rcases hf4 with ⟨_, hu⟩ | ⟨h4, _⟩
        · rw [hu] at h3
          obtain ⟨z, hz, _, hwf⟩ := DataW.trod_int Tryz.underlying3 h3
          refine ⟨z, ?_⟩
          rw [hcell k (by omega)]
          have := congrArg (·[0]?) hz
          simpa using this
        · omega
      obtain ⟨z0, h0⟩ := ints 0 (by omega)
      obtain ⟨z1, h1'⟩ := ints 1 (by omega)
      obtain ⟨z2, h2'⟩ := ints 2 (by omega)
      obtain ⟨z3, h3'⟩ := ints 3 (by omega)
      obtain ⟨f, hf1, hf2, hf3, hf4⟩ := term_place 4 (by omega)
      have h3 := hxs 4 f hf1
      rw [hf3, hf2, List.getElem?_eq_getElem (by omega)] at h3
      have hu : f.type = 26 := hf4.elim (fun h => absurd h.1 (by omega)) (fun h => h.2)
      rw [hu] at h3
      have hc4 := hcell 4 (by omega)
      obtain ⟨v4, hv4⟩ : ∃ v, cs'[4]? = some v := ⟨_, List.getElem?_eq_getElem (by omega)⟩
      have hcs : List.take 1 (List.drop 4 cs') = [v4] := by
        obtain ⟨h4, e4⟩ := List.getElem?_eq_some_iff.1 hv4
        rw [List.drop_eq_getElem_cons h4, e4]
        rfl
      rw [hcs] at h3
      obtain ⟨A', l, c', rfl, hl2, hl3, hl4, hl5⟩ := ints_in h3
      refine ⟨⟨z0, z1, z2, z3, l⟩, ⟨A', c', hl2, hl3, fun k x hx => ?_⟩, by dsimp only; omega, hl5⟩
      match k, hx with
      | 0, hx => cases hx; exact h0
      | 1, hx => cases hx; exact h1'
      | 2, hx => cases hx; exact h2'
      | 3, hx => cases hx; exact h3'
      | 4, hx =>
        have hxe : x = .slice A' l.length c' := (Option.some.inj hx).symm
        rw [hxe, hc4, hv4]
      | k + 5, hx => simp [termC] at hx
    haveI : Inhabited TermV := ⟨⟨0, 0, 0, 0, []⟩⟩
    obtain ⟨F, hF⟩ := choose_lt each
    have hlist : ∀ (i : Nat) t, ((List.range len).map F)[i]? = some t → i < len ∧ t = F i := by
      intro i f h
      rw [List.getElem?_map] at h
      by_cases hin : i < len
      · rw [List.getElem?_range hin] at h; simp at h; exact ⟨hin, h.symm⟩
      · rw [List.getElem?_eq_none (by simpa using hin)] at h; simp at h
    refine ⟨some a, (List.range len).map F, m, by simpa using hc, ?_, by simp; omega, fun t ht => ?_⟩
    · by_cases h0 : len = 0
      · subst h0
        exact .inl ⟨rfl, _, _, rfl⟩
      · obtain ⟨A0, c0, _, _, h00⟩ := (hF 0 (by omega)).1
        have h01 : W.cell? a = some (.int .i64 (F 0).k) := by
          have := h00 0 (.int .i64 (F 0).k) rfl
          simpa [Addr.add] using this
        have hsp := spot_of_cell h01
        refine .inr ⟨a.block, a.off, m, by rw [← hsp], lt_of_cell h01, fun i t hi => ?_⟩
        obtain ⟨hin, rfl⟩ := hlist i t hi
        obtain ⟨A', c', e1, e2, e3⟩ := (hF i hin).1
        refine ⟨A', c', e1, e2, fun k x hx => ?_⟩
        have := e3 k x hx
        rw [hsp, add_add] at this
        exact this
    · obtain ⟨i, hi⟩ := List.mem_iff_getElem?.1 ht
      obtain ⟨hin, rfl⟩ := hlist i t hi
      exact (hF i hin).2
theorem slice_cellsOf : Tryz.prog.cellsOf 22 = 1 := by kernel_rfl
theorem lists_part (hsz : (DataW.weightsEach Tryz.prog ts ds).all (· ≤ reachBytes) = true) (ht : ts[j]? = some 43) (hd : ds[j]? = some d)
    (hf : DataW.trod enc Tryz.prog W 0 (fun _ => true) true fuel 43 (Value.slice A n c).cells.toList = some (d, p)) :
    n ≤ 140737488351232 ∧ ∃ LL : Nat → List TermV, ListsIn W (.slice A n c) n LL := by
  rcases open_slice Tryz.underlying43 hf with ⟨hc, _⟩ | ⟨a, len, cap, m, q, D, Pl, hc, _, hlc, hmax, hm, hx, hel⟩
  · simp [Value.cells] at hc
    obtain ⟨rfl, rfl, rfl⟩ := hc
    exact ⟨Nat.zero_le _, fun _ => [], _, _, rfl, fun i hi => by omega⟩
  · simp only [Value.cells, List.cons.injEq, Value.slice.injEq, and_true] at hc
    obtain ⟨rfl, rfl, rfl⟩ := hc
    simp only [if_true] at hm
    subst hm
    have hx1 := congrArg Prod.fst hx
    dsimp only at hx1
    rw [hx1] at hd
    have hs := sized_slice hsz ht hd Tryz.underlying43
    rw [show Tryz.prog.bytesOf 22 = 24 by kernel_rfl] at hs
    simp only [List.length_map, List.length_range, reachBytes] at hs
    refine ⟨by omega, ?_⟩
    have each : ∀ i, i < n → ∃ l : List TermV, ∃ A' c', W.cell? (a.add i) = some (.slice A' l.length c') ∧ TermsIn W (.slice A' l.length c') l ∧ l.length ≤ maxLen ∧ ∀ t ∈ l, t.acc.length ≤ maxLen ∧ ∀ x ∈ t.acc, -9223372036854775808 ≤ x ∧ x ≤ 9223372036854775807 := by
      intro i hin
      obtain ⟨cs', h1, h2⟩ := hel i (by omega)
      rw [slice_cellsOf, Nat.mul_one] at h1
      obtain ⟨_, hl, hcell⟩ := World.cells?_some h1
      obtain ⟨v, rfl⟩ : ∃ v, cs' = [v] := by
        match cs', hl with
        | [v], _ => exact ⟨v, rfl⟩
      obtain ⟨A', l, c', rfl, e1, e2, e3⟩ := terms_in h2
      refine ⟨l, A', c', ?_, e1, e2, e3⟩
      have := hcell 0 (by simp)
      simpa [Addr.add] using this
    obtain ⟨F, hF⟩ := choose_lt each
    refine ⟨F, _, _, rfl, fun i hi => ?_⟩
    obtain ⟨A', c', e1, e2, e3, e4⟩ := hF i hi
    obtain ⟨A0, c0, e0, _⟩ := hF 0 (by omega)
    have h01 : W.cell? a = some (.slice A0 (F 0).length c0) := by simpa [Addr.add] using e0
    have hsp := spot_of_cell h01
    have hlt := lt_of_cell h01
    refine ⟨a.block, a.off, by rw [← hsp], hlt, A', c', ?_, e2, e3, e4⟩
    rw [hsp, add_plain'] at e1
    exact e1
end
end Go.Proofs.YtfiabonacpepnaaGreatDoor
