import Derived.Test.YtgjajhopjcdflaaGreatFkM
import Derived.DeepKeys4
import Derived.Maps.Keyed
import Derived.Maps.RangeRun
import Derived.Great.BuildSlice
import Derived.Maps.AppendAt
namespace Go.Proofs.YtgjajhopjcdflaaGreat
open Go Go.RowKit Go.Lib Go.Shelf Go.Maps
open Go.ChangeMaps (setBlock)
open Go.MapKept (Stamped stamped_push stamped_modify)

theorem laidOut07 : laidOutB Tryz.prog = true := by kernel_rfl
theorem rowKey : (48 : TypeId) < Tryz.prog.types.size := of_decide_eq_true (by kernel_rfl)
theorem wideKey : (match Tryz.prog.underlying 48 with | some (.array _ _) | some (.struct _) => true | _ => false) = true := by rw [Tryz.underlying48]
set_option maxRecDepth 100000 in
theorem keyed3 : Keyed Tryz.prog 48 := Keyed.of_law (deep_law_laid laidOut07 (m := 2) (by omega) rowKey (by kernel_rfl) wideKey)
theorem keyType3 : Tryz.prog.keyType 48 = true := by kernel_rfl
theorem cells3 : Tryz.prog.cellsOf 48 = 3 := by kernel_rfl
theorem types_pos : ∃ n, Tryz.prog.types.size = n + 1 := by
  have h : decide (0 < Tryz.prog.types.size) = true := by kernel_rfl
  have h2 := of_decide_eq_true h
  exact ⟨Tryz.prog.types.size - 1, by omega⟩
theorem key_ok (a b c : Int) (ha : -9223372036854775808 ≤ a ∧ a ≤ 9223372036854775807) (hb : -9223372036854775808 ≤ b ∧ b ≤ 9223372036854775807) (hc : -9223372036854775808 ≤ c ∧ c ≤ 9223372036854775807) :
    ∃ kl, keyOf Tryz.prog 48 (.agg #[.int .i64 a, .int .i64 b, .int .i64 c]) = some kl := by
  have w : ∀ x : Int, -9223372036854775808 ≤ x ∧ x ≤ 9223372036854775807 → (Lit.int .i64 x).wf = true := fun x hx => by
    have e : IntKind.i64.min = -9223372036854775808 := by decide
    simp [Lit.wf, e, hx]
  obtain ⟨n, hn⟩ := types_pos
  refine ⟨.string (keyBytes [.int .i64 a, .int .i64 b, .int .i64 c]), ?_⟩
  simp [keyOf, Tryz.underlying48, keyType3, Value.formed, cells3, hn, Program.keyLits, Value.cells, List.range_succ, Tryz.underlying3, cells_int, w a ha, w b hb, w c hc]

abbrev TM : TypeId := 46
theorem key2_ok {f : FactV} (h : FactOk f) : (-9223372036854775808 ≤ (key2 f).1 ∧ (key2 f).1 ≤ 9223372036854775807) ∧ (-9223372036854775808 ≤ (key2 f).2 ∧ (key2 f).2 ≤ 9223372036854775807) := by
  have z : (-9223372036854775808 : Int) ≤ 0 ∧ (0 : Int) ≤ 9223372036854775807 := by omega
  unfold key2
  repeat' split
  all_goals first | exact ⟨h _, h _⟩ | exact ⟨h _, z⟩ | exact ⟨z, z⟩
theorem keyV_ok {f : FactV} (h : FactOk f) : ∃ kl, keyOf Tryz.prog 48 (keyV f) = some kl := key_ok _ _ _ (h 0) (key2_ok h).1 (key2_ok h).2
theorem keyEq_iff {f g : FactV} : keyEq f g = true ↔ keyV f = keyV g := by
  unfold keyEq keyV
  simp
theorem keyEq_false {f g : FactV} : keyEq f g = false ↔ keyV f ≠ keyV g := by
  rw [← Bool.not_eq_true, keyEq_iff]
def entF (f : FactV) : Value × Value := (keyV f, .agg f.cells)
/-- block b is a map from keys to the facts L -/
def MapF (w : World) (b n : Nat) (L : List FactV) : Prop := ∃ es clock, w.heap[b]? = some (.map es clock) ∧ Stamped es clock ∧ es.toList.map (fun e => (e.key, e.val)) = L.map entF ∧ L.length ≤ n ∧ ∀ f ∈ L, FactOk f
theorem MapF.lt {w : World} {b n : Nat} {L : List FactV} (h : MapF w b n L) : b < w.heap.size := by
  obtain ⟨es, clock, hh, _⟩ := h
  exact (Array.getElem?_eq_some_iff.1 hh).1
theorem MapF.kept {w w' : World} {b n : Nat} {L : List FactV} (h : MapF w b n L) (hb : w'.heap[b]? = w.heap[b]?) : MapF w' b n L := by
  obtain ⟨es, clock, hh, r⟩ := h
  exact ⟨es, clock, hb.trans hh, r⟩
theorem MapF.mono {w : World} {b n m : Nat} {L : List FactV} (h : MapF w b n L) (hn : n ≤ m) : MapF w b m L := by
  obtain ⟨es, clock, hh, h1, h2, h3, h4⟩ := h
  exact ⟨es, clock, hh, h1, h2, by omega, h4⟩
theorem MapF.new (w : World) : MapF (w.alloc (.map #[] 0)) w.heap.size 0 [] := ⟨#[], 0, (MapKept.heap_alloc w _).1, MapKept.stamped_empty 0, rfl, Nat.le_refl _, by simp⟩
/-- the entries' keys are the facts' keys, in order -/
theorem ent_keys {es : List MapEntry} {L : List FactV} (h : es.map (fun e => (e.key, e.val)) = L.map entF) : es.map (·.key) = L.map keyV := by
  have := congrArg (List.map Prod.fst) h
  simpa [List.map_map, Function.comp_def, entF] using this
theorem ent_get {es : List MapEntry} {L : List FactV} (h : es.map (fun e => (e.key, e.val)) = L.map entF) {j : Nat} {e : MapEntry} (he : es[j]? = some e) : ∃ f, L[j]? = some f ∧ e.key = keyV f ∧ e.val = .agg f.cells := by
  have h1 := congrArg (fun l => l[j]?) h
  simp only [List.getElem?_map, he, Option.map_some] at h1
  cases hf : L[j]? with
  | none => rw [hf] at h1; simp at h1
  | some f =>
    rw [hf] at h1
    simp only [Option.map_some, Option.some.injEq, entF, Prod.mk.injEq] at h1
    exact ⟨f, rfl, h1.1, h1.2⟩
theorem ent_ok {es : List MapEntry} {L : List FactV} (h : es.map (fun e => (e.key, e.val)) = L.map entF) (hok : ∀ f ∈ L, FactOk f) : ∀ e ∈ es, ∃ l, keyOf Tryz.prog 48 e.key = some l := by
  intro e he
  obtain ⟨j, hj⟩ := List.getElem?_of_mem he
  obtain ⟨f, hf, hk, _⟩ := ent_get h hj
  rw [hk]
  exact keyV_ok (hok f (List.mem_of_getElem? hf))
/-- a fact put into a list of facts of different keys -/
def putL (L : List FactV) (f : FactV) : List FactV := if L.any (keyEq f) then L.map (fun g => if keyEq f g then f else g) else L ++ [f]
def zf : FactV := ⟨fun _ => 0, ⟨#[]⟩⟩
theorem zf_zero (W : World) : (zeroValue 34).run Tryz.prog W = .ok (.agg zf.cells) W := Tryz.zeroValue34 W
theorem MapF.look {w : World} {b n : Nat} {L : List FactV} (h : MapF w b n L) (key : Value) (hk : ∃ kl, keyOf Tryz.prog 48 key = some kl) (c : Bool) :
    ((∀ g ∈ L, keyV g ≠ key) ∧ (Instr.lookup TM (.map (some b)) key c).run Tryz.prog w = .ok (if c then .tuple #[.agg zf.cells, .bool false] else .agg zf.cells) w) ∨
    ∃ g ∈ L, keyV g = key ∧ (Instr.lookup TM (.map (some b)) key c).run Tryz.prog w = .ok (if c then .tuple #[.agg g.cells, .bool true] else .agg g.cells) w := by
  obtain ⟨es, clock, hh, hs, hm, _, hok⟩ := h
  obtain ⟨kl, hkl⟩ := hk
  rcases keyed3.find w hkl es.toList (ent_ok hm hok) with ⟨h1, h2⟩ | ⟨j, e0, h1, h2, h3⟩
  · refine .inl ⟨?_, by simp [Instr.lookup, run_underlying Tryz.underlying46, MapKept.run_getObj_map hh, keyed3.check w _ hkl, h1, Result.andThen]; cases c <;> rfl⟩
    intro g hg
    obtain ⟨e, he, hek⟩ : ∃ e ∈ es.toList, e.key = keyV g := by
      have : keyV g ∈ es.toList.map (·.key) := by rw [ent_keys hm]; exact List.mem_map_of_mem hg
      obtain ⟨e, he, hek⟩ := List.mem_map.1 this
      exact ⟨e, he, hek⟩
    rw [← hek]
    exact h2 e he
  · obtain ⟨g, hg, hkg, hvg⟩ := ent_get hm h2
    refine .inr ⟨g, List.mem_of_getElem? hg, by rw [← hkg, h3], ?_⟩
    rw [← hvg]
    simp [Instr.lookup, run_underlying Tryz.underlying46, MapKept.run_getObj_map hh, keyed3.check w _ hkl, h1, Result.andThen]
theorem MapF.keys_nodup {w : World} {b n : Nat} {L : List FactV} (h : MapF w b n L) : (L.map keyV).Nodup := by
  obtain ⟨es, clock, hh, hs, hm, _, hok⟩ := h
  rw [← ent_keys hm]
  exact hs.2.2
theorem map_set_of {L : List FactV} (hn : (L.map keyV).Nodup) (f : FactV) : ∀ (j : Nat) (g : FactV), L[j]? = some g → keyV g = keyV f → L.map (fun x => if keyEq f x then f else x) = L.set j f := by
  intro j g hg hk
  apply List.ext_getElem?
  intro i
  have hj : j < L.length := (List.getElem?_eq_some_iff.1 hg).1
  by_cases hij : j = i
  · subst hij
    rw [List.getElem?_map, hg, List.getElem?_set_self hj]
    have : keyEq f g = true := keyEq_iff.2 hk.symm
    simp [this]
  · rw [List.getElem?_set_ne hij, List.getElem?_map]
    cases hx : L[i]? with
    | none => rfl
    | some x =>
      have hne : keyEq f x = false := keyEq_false.2 (fun e => by
        have h1 : (L.map keyV)[j]? = some (keyV g) := by rw [List.getElem?_map, hg]; rfl
        have h2 : (L.map keyV)[i]? = some (keyV x) := by rw [List.getElem?_map, hx]; rfl
        exact hij ((List.getElem?_inj (List.getElem?_eq_some_iff.1 h1).1 hn).1 (by rw [h1, h2, hk, e])))
      simp [hne]
theorem MapF.put {w : World} {b n : Nat} {L : List FactV} (h : MapF w b n L) (f : FactV) (hf : FactOk f) :
    ∃ w', (Instr.mapUpdate TM (.map (some b)) (keyV f) (.agg f.cells)).run Tryz.prog w = .ok () w' ∧ MapF w' b (n + 1) (putL L f) ∧ w.grownBy w' (some b) := by
  have hnd := h.keys_nodup
  obtain ⟨es, clock, hh, hs, hm, hn, hok⟩ := h
  obtain ⟨kl, hkl⟩ := keyV_ok hf
  have gb : ∀ o, w.grownBy (setBlock w b o) (some b) := fun o => ⟨rfl, rfl, rfl, by simp [setBlock], fun i _ hi => ChangeMaps.heap_setBlock_other hh _ (fun e => hi (by rw [e]))⟩
  rcases keyed3.find w hkl es.toList (ent_ok hm hok) with ⟨h1, h2⟩ | ⟨j, e0, h1, h2, h3⟩
  · have hany : L.any (keyEq f) = false := by
      rw [List.any_eq_false]
      intro g hg
      have : keyV g ∈ es.toList.map (·.key) := by rw [ent_keys hm]; exact List.mem_map_of_mem hg
      obtain ⟨e, he, hek⟩ := List.mem_map.1 this
      rw [keyEq_iff]
      intro e1
      exact h2 e he (by rw [hek, e1])
    refine ⟨setBlock w b (.map (es.push ⟨keyV f, .agg f.cells, clock⟩) (clock + 1)), ?_, ⟨_, _, ChangeMaps.heap_setBlock_same hh _, stamped_push hs h2, ?_, ?_, ?_⟩, gb _⟩
    · simp [Instr.mapUpdate, run_underlying Tryz.underlying46, MapKept.run_getObj_map hh, keyed3.check w false hkl, h1, MapKept.run_setObj_map _ hh, Result.andThen, setBlock]
    · unfold putL
      rw [hany]
      simp [hm, entF]
    · unfold putL
      rw [hany]
      simp
      omega
    · unfold putL
      rw [hany]
      intro g hg
      rcases List.mem_append.1 hg with h | h
      · exact hok g h
      · rw [List.mem_singleton.1 h]; exact hf
  · obtain ⟨g, hg, hkg, hvg⟩ := ent_get hm h2
    have hgk : keyV g = keyV f := by rw [← hkg, h3]
    have hany : L.any (keyEq f) = true := List.any_eq_true.2 ⟨g, List.mem_of_getElem? hg, keyEq_iff.2 hgk.symm⟩
    have hput : putL L f = L.set j f := by unfold putL; rw [hany]; exact map_set_of hnd f j g hg hgk
    have hj : es[j]? = some e0 := by simpa using h2
    have hlist : (es.modify j (fun e' => { e' with key := keyV f, val := .agg f.cells })).toList = es.toList.set j { e0 with key := keyV f, val := .agg f.cells } := by rw [Array.toList_modify, ChangeMaps.modify_eq_set _ _ _ _ h2]
    refine ⟨setBlock w b (.map (es.modify j (fun e' => { e' with key := keyV f, val := .agg f.cells })) clock), ?_, ⟨_, _, ChangeMaps.heap_setBlock_same hh _, stamped_modify hs _ _ (fun _ _ => rfl) (fun e' _ he' => by rw [hj] at he'; cases he'; exact h3.symm), ?_, ?_, ?_⟩, gb _⟩
    · simp [Instr.mapUpdate, run_underlying Tryz.underlying46, MapKept.run_getObj_map hh, keyed3.check w false hkl, h1, hj, h3, keyed3.stays w hkl, MapKept.run_setObj_map _ hh, Result.andThen, setBlock]
    · rw [hlist, hput, List.map_set, List.map_set, hm]
      rfl
    · rw [hput, List.length_set]; omega
    · rw [hput]
      intro x hx
      rcases List.mem_or_eq_of_mem_set hx with h | h
      · exact hok x h
      · rw [h]; exact hf
/-- the range over the map in block b, by the iterator in block r: the keys vis were visited -/
def RangeF (w : World) (b r n : Nat) (L : List FactV) (vis : List Value) : Prop := ∃ es clock seen since c0, w.heap[b]? = some (.map es clock) ∧ Stamped es clock ∧ es.toList.map (fun e => (e.key, e.val)) = L.map entF ∧ L.length ≤ n ∧ (∀ f ∈ L, FactOk f) ∧
  w.heap[r]? = some (.mapIter (some b) since seen c0) ∧ since ≤ c0 ∧ since ≤ clock ∧ (∀ x ∈ es.toList, x.born < since) ∧ ∃ ve : List MapEntry, vis = ve.map (·.key) ∧ (ve ++ (leftOf es seen).toList).Perm es.toList
theorem RangeF.map {w : World} {b r n : Nat} {L : List FactV} {vis : List Value} (h : RangeF w b r n L vis) : MapF w b n L := by
  obtain ⟨es, clock, seen, since, c0, h1, h2, h3, h4, h5, _⟩ := h
  exact ⟨es, clock, h1, h2, h3, h4, h5⟩
theorem RangeF.lt {w : World} {b r n : Nat} {L : List FactV} {vis : List Value} (h : RangeF w b r n L vis) : r < w.heap.size := by
  obtain ⟨es, clock, seen, since, c0, h1, h2, h3, h4, h5, h6, _⟩ := h
  exact (Array.getElem?_eq_some_iff.1 h6).1
theorem RangeF.kept {w w' : World} {b r n : Nat} {L : List FactV} {vis : List Value} (h : RangeF w b r n L vis) (hb : w'.heap[b]? = w.heap[b]?) (hr : w'.heap[r]? = w.heap[r]?) : RangeF w' b r n L vis := by
  obtain ⟨es, clock, seen, since, c0, h1, h2, h3, h4, h5, h6, h7⟩ := h
  exact ⟨es, clock, seen, since, c0, hb.trans h1, h2, h3, h4, h5, hr.trans h6, h7⟩
theorem MapF.range {w : World} {b n : Nat} {L : List FactV} (h : MapF w b n L) : ∃ w', (Instr.range TM (.map (some b))).run Tryz.prog w = .ok (.pointer (some ⟨w.heap.size, 0, none⟩)) w' ∧ RangeF w' b w.heap.size n L [] ∧ Below w.heap.size w w' ∧ w'.heap.size = w.heap.size + 1 := by
  have hlt := h.lt
  obtain ⟨es, clock, h1, h2, h3, h4, h5⟩ := h
  refine ⟨_, run_range_map w TM _ _ b es clock Tryz.underlying46 h1, ⟨es, clock, #[], clock, clock, (Below.heap_alloc w _ b hlt).trans h1, h2, h3, h4, h5, World.alloc_heap_new w _, Nat.le_refl _, Nat.le_refl _, h2.1, [], rfl, ?_⟩, (Below.refl _ _).alloc (Nat.le_refl _) _, by simp⟩
  unfold leftOf
  rw [Array.toList_filter, List.nil_append, List.filter_eq_self.2 (fun x _ => by simp)]
theorem left_push {es : Array MapEntry} {seen : Array Nat} {e : MapEntry} (hn : (es.toList.map (·.born)).Nodup) (he : e ∈ (leftOf es seen).toList) : (leftOf es seen).toList.Perm (e :: (leftOf es (seen.push e.born)).toList) := by
  have e1 : (leftOf es (seen.push e.born)).toList = (leftOf es seen).toList.filter (fun x => !(x.born == e.born)) := by
    unfold leftOf
    rw [Array.toList_filter, Array.toList_filter, List.filter_filter]
    congr 1
    funext x
    rw [contains_push]
    cases seen.contains x.born <;> simp [Bool.beq_comm]
  have hn2 : ((leftOf es seen).toList.map (·.born)).Nodup := by
    unfold leftOf
    rw [Array.toList_filter]
    exact hn.sublist (List.Sublist.map _ List.filter_sublist)
  rw [e1]
  obtain ⟨l1, l2, hl⟩ := List.append_of_mem he
  rw [hl] at hn2 ⊢
  have h1 : ∀ x ∈ l1 ++ l2, (!(x.born == e.born)) = true := by
    intro x hx
    rw [List.map_append, List.map_cons] at hn2
    have h2 := (List.perm_middle.nodup_iff.1 hn2)
    rw [List.nodup_cons, ← List.map_append] at h2
    simp only [Bool.not_eq_true', beq_eq_false_iff_ne, ne_eq]
    intro h3
    exact h2.1 (by rw [← h3]; exact List.mem_map_of_mem hx)
  have h2 : (l1 ++ e :: l2).filter (fun x => !(x.born == e.born)) = l1 ++ l2 := by
    rw [List.filter_append, List.filter_cons, if_neg (by simp), ← List.filter_append]
    exact List.filter_eq_self.2 h1
  rw [h2]
  exact List.perm_middle
theorem RangeF.next {w : World} {b r n : Nat} {L : List FactV} {vis : List Value} (h : RangeF w b r n L vis) (hbr : b ≠ r) (ty : TypeId) :
    ((vis.Perm (L.map keyV)) ∧ (Instr.next (.pointer (some ⟨r, 0, none⟩)) false ty).run Tryz.prog w = .ok (.tuple #[.bool false]) w) ∨
    ∃ f ∈ L, ∃ w', (Instr.next (.pointer (some ⟨r, 0, none⟩)) false ty).run Tryz.prog w = .ok (.tuple #[.bool true, keyV f, .agg f.cells]) w' ∧ RangeF w' b r n L (vis ++ [keyV f]) ∧ vis.length < L.length ∧ Below r w w' ∧ w'.heap.size = w.heap.size ∧ (∀ k, k ≠ r → w'.heap[k]? = w.heap[k]?) ∧
      (∀ W, W.heap[b]? = w'.heap[b]? → W.heap[r]? = w'.heap[r]? → (Instr.entry (.pointer (some ⟨r, 0, none⟩))).run Tryz.prog W = .ok (.tuple #[keyV f, .agg f.cells]) W) := by
  obtain ⟨es, clock, seen, since, c0, h1, h2, h3, h4, h5, h6, h7, h7b, h8, ve, rfl, h9⟩ := h
  have hlen : es.toList.length = L.length := by have := congrArg List.length h3; simpa using this
  rcases run_next_at (P := Tryz.prog) w ty r b since c0 seen es clock h6 h1 h8 h7 with ⟨hz, hrun⟩ | ⟨e, he, w1, hw1, hrun⟩
  · refine .inl ⟨?_, hrun⟩
    have : (leftOf es seen).toList = [] := by
      have := Array.eq_empty_of_size_eq_zero hz
      rw [this]
    rw [this, List.append_nil] at h9
    rw [← ent_keys h3]
    exact h9.map _
  · have hes : e ∈ es.toList := by
      have := (List.mem_filter.1 (by unfold leftOf at he; rw [Array.toList_filter] at he; exact he)).1
      exact this
    obtain ⟨j, hj⟩ := List.getElem?_of_mem hes
    obtain ⟨f, hf, hkf, hvf⟩ := ent_get h3 hj
    have hwh : w1.heap = w.heap := by rcases hw1 with rfl | rfl <;> rfl
    have hr1 : w1.heap[r]? = some (.mapIter (some b) since seen c0) := by rw [hwh]; exact h6
    have hrl : r < w1.heap.size := (Array.getElem?_eq_some_iff.1 hr1).1
    have hsame : (setBlock w1 r (.mapIter (some b) since (seen.push e.born) clock)).heap[r]? = some (.mapIter (some b) since (seen.push e.born) clock) := by
      simp [setBlock, hrl]
    have hoth : ∀ k, k ≠ r → (setBlock w1 r (.mapIter (some b) since (seen.push e.born) clock)).heap[k]? = w.heap[k]? := by
      intro k hk
      rw [← hwh]
      simp [setBlock, Array.getElem?_setIfInBounds_ne (Ne.symm hk)]
    rw [hkf, hvf] at hrun
    refine .inr ⟨f, List.mem_of_getElem? hf, _, hrun, ⟨es, clock, seen.push e.born, since, clock, (hoth b hbr).trans h1, h2, h3, h4, h5, hsame, h7b, h7b, h8, ve ++ [e], by simp [hkf], ?_⟩, ?_, ?_, ?_, hoth, ?_⟩
    · refine List.Perm.trans ?_ h9
      rw [List.append_assoc]
      exact (List.Perm.append_left ve (left_push h2.2.1 he)).symm
    · rw [← hlen, ← h9.length_eq, List.length_append, List.length_map]
      have := List.length_pos_of_mem he
      omega
    · rcases hw1 with rfl | rfl
      · exact ⟨rfl, rfl, rfl, by simp [setBlock], fun i hi => hoth i (by omega)⟩
      · exact ⟨rfl, rfl, rfl, by simp [setBlock], fun i hi => hoth i (by omega)⟩
    · rw [← hwh]; simp [setBlock]
    · intro W hWb hWr
      have := run_entry_at (P := Tryz.prog) W r b since seen es clock e (hWr.trans hsame) (hWb.trans ((hoth b hbr).trans h1)) hes h2.2.1
      rw [hkf, hvf] at this
      exact this
end Go.Proofs.YtgjajhopjcdflaaGreat
namespace Go.Proofs.YtgjajhopjcdflaaGreat
open Go Go.RowKit Go.Lib Go.Shelf Go.Maps

/-- a slice of facts that is empty, or lies in memory -/
def FactsAt (w : World) (v : Value) (fs : List FactV) : Prop :=
  (fs = [] ∧ ∃ A c, v = .slice A 0 c) ∨ ∃ b o c, v = .slice (some ⟨b, o, none⟩) fs.length c ∧ b < w.heap.size ∧ ∀ i f, fs[i]? = some f → ∀ j x, f.cells[j]? = some x → w.cell? ⟨b, o + i * 18 + j, none⟩ = some x
theorem FactsAt.below {w w' : World} {v : Value} {fs : List FactV} {B : Nat} (h : FactsAt w v fs) (hB : ∀ b o c n, v = .slice (some ⟨b, o, none⟩) n c → fs ≠ [] → b < B) (hb : Below B w w') : FactsAt w' v fs := by
  rcases h with h | ⟨b, o, c, rfl, hlt, h⟩
  · exact .inl h
  · by_cases hn : fs = []
    · subst hn; exact .inl ⟨rfl, _, c, rfl⟩
    · have hbB := hB b o c _ rfl hn
      exact .inr ⟨b, o, c, rfl, by have := hb.block b hbB; rcases Nat.lt_or_ge b w'.heap.size with h1 | h1; exact h1; rw [Array.getElem?_eq_none h1] at this; exact absurd this.symm (by simp [hlt]), fun i f hf j x hx => (hb.cell (p := ⟨b, o + i * 18 + j, none⟩) hbB).trans (h i f hf j x hx)⟩
theorem FactsAt.sl {w : World} {v : Value} {l : List FactV} (h : FactsAt w v l) : ∃ A c, v = .slice A l.length c := by
  rcases h with ⟨rfl, A, c, rfl⟩ | ⟨b, o, c, rfl, _⟩
  · exact ⟨A, c, rfl⟩
  · exact ⟨_, c, rfl⟩
/-- one more fact comes to the best ones -/
def stepB (L : List FactV) (f : FactV) : List FactV :=
  if validB f then (match L.find? (keyEq f) with
    | none => putL L f
    | some g => if prevB f g then putL L f else L) else L
def bestL (l : List FactV) : List FactV := l.foldl stepB []
theorem bestL_snoc (l : List FactV) (f : FactV) : bestL (l ++ [f]) = stepB (bestL l) f := by simp [bestL]
theorem putL_len (L : List FactV) (f : FactV) : (putL L f).length ≤ L.length + 1 := by
  unfold putL
  split <;> simp
theorem find_key {L : List FactV} (hn : (L.map keyV).Nodup) {f g : FactV} (hg : g ∈ L) (hk : keyV g = keyV f) : L.find? (keyEq f) = some g := by
  induction L with
  | nil => simp at hg
  | cons a L ih =>
    rw [List.map_cons, List.nodup_cons] at hn
    rcases List.mem_cons.1 hg with rfl | h
    · rw [List.find?_cons, keyEq_iff.2 hk.symm]
    · have : keyEq f a = false := keyEq_false.2 (fun e => hn.1 (by rw [← e, ← hk]; exact List.mem_map_of_mem h))
      rw [List.find?_cons, this]
      exact ih hn.2 h
theorem find_none {L : List FactV} {f : FactV} (h : ∀ g ∈ L, keyV g ≠ keyV f) : L.find? (keyEq f) = none := by
  rw [List.find?_eq_none]
  intro g hg
  rw [keyEq_iff]
  exact fun e => h g hg e.symm
theorem load_at {ops : Array Oper} {rest : List Oper} {o : Oper} {a : Act} {w : World} {Q : Exit → Act → World → Prop} (x : Operand) (b off : Nat) (cs : Array Value) (hc : ∀ j v, cs[j]? = some v → w.cell? ⟨b, off + j, none⟩ = some v) (hi : (Tryz.prog.info? 34).map (·.size) = some cs.size)
    (hgd : o.guard = none) (ho : o.op = .load 34 x) (hx : a.eval x = .pointer (some ⟨b, off, none⟩))
    (h : wpList Tryz.prog ops Q rest (a.put o.dst (.agg cs)) w) : wpList Tryz.prog ops Q (o :: rest) a w :=
  wpList_load_at hgd _ x ho b off hx cs _ hc Tryz.underlying34 rfl hi h
theorem store_cs {ops : Array Oper} {rest : List Oper} {o : Oper} {a : Act} {w : World} {Q : Exit → Act → World → Prop} (x y : Operand) (N : Nat) (hN : w.heap.size = N) (c cs : Array Value) (hi : (Tryz.prog.info? 34).map (·.size) = some cs.size) (hone : cs.all (·.oneCell') = true)
    (hs : c.size = cs.size) (hgd : o.guard = none) (ho : o.op = .store 34 x y) (hx : a.eval x = .pointer (some ⟨N, 0, none⟩)) (hy : a.eval y = .agg cs)
    (h : wpList Tryz.prog ops Q rest (a.put o.dst undef) (w.alloc (.cells cs 34))) : wpList Tryz.prog ops Q (o :: rest) a (w.alloc (.cells c 34)) := by
  subst hN
  exact wpList_store_new hgd _ x y ho hx c cs hy hi hs hone h
/-- a guarded load that is wanted -/
theorem load_csg {ops : Array Oper} {rest : List Oper} {o : Oper} {a : Act} {w : World} {Q : Exit → Act → World → Prop} (x : Operand) (b : Nat) (cs : Array Value) (hc : ∀ j v, cs[j]? = some v → w.cell? ⟨b, 0 + j, none⟩ = some v) (hi : (Tryz.prog.info? 34).map (·.size) = some cs.size)
    (hw : Region.wanted o (yielded ops a.tmps) = true) (ho : o.op = .load 34 x) (hx : a.eval x = .pointer (some ⟨b, 0, none⟩))
    (h : wpList Tryz.prog ops Q rest (a.put o.dst (.agg cs)) w) : wpList Tryz.prog ops Q (o :: rest) a w := by
  refine wpList_step fun K hK => ?_
  rw [if_pos hw]
  exact wp_load_at _ x ho b 0 hx cs _ hc Tryz.underlying34 rfl hi (hK _ _ h)
end Go.Proofs.YtgjajhopjcdflaaGreat
namespace Go.Proofs.YtgjajhopjcdflaaGreat
open Go Go.RowKit Go.Lib Go.Shelf Go.Maps

def kV (k : Int × Int × Int) : Value := .agg #[.int .i64 k.1, .int .i64 k.2.1, .int .i64 k.2.2]
def kT (f : FactV) : Int × Int × Int := (f.n 0, (key2 f).1, (key2 f).2)
theorem keyV_kV (f : FactV) : keyV f = kV (kT f) := rfl
theorem kV_inj {a b : Int × Int × Int} (h : kV a = kV b) : a = b := by
  obtain ⟨a0, a1, a2⟩ := a
  obtain ⟨b0, b1, b2⟩ := b
  simpa [kV] using h
def kCell (k : Int × Int × Int) : List Value := [.int .i64 k.1, .int .i64 k.2.1, .int .i64 k.2.2]
def kCells (ks : List (Int × Int × Int)) : List Value := ks.flatMap kCell
theorem kCells_len (ks : List (Int × Int × Int)) : (kCells ks).length = ks.length * 3 := by
  unfold kCells
  induction ks with
  | nil => rfl
  | cons k ks ih => simp only [List.flatMap_cons, List.length_append, List.length_cons, ih]; simp [kCell]; omega
theorem kCells_app (ks : List (Int × Int × Int)) (k : Int × Int × Int) : kCells (ks ++ [k]) = kCells ks ++ kCell k := by simp [kCells]
theorem kCells_get : ∀ (ks : List (Int × Int × Int)) (i : Nat) (k : Int × Int × Int), ks[i]? = some k → ∀ j x, (kCell k)[j]? = some x → (kCells ks)[i * 3 + j]? = some x
  | [], i, k, h, _, _, _ => by simp at h
  | y :: ks, 0, k, h, j, x, hx => by
    simp at h
    subst h
    have hj := (List.getElem?_eq_some_iff.1 hx).1
    show (kCell y ++ kCells ks)[0 * 3 + j]? = some x
    rw [Nat.zero_mul, Nat.zero_add, List.getElem?_append_left hj]
    exact hx
  | y :: ks, i + 1, k, h, j, x, hx => by
    have ih := kCells_get ks i k (by simpa using h) j x hx
    show (kCell y ++ kCells ks)[(i + 1) * 3 + j]? = some x
    rw [List.getElem?_append_right (by simp [kCell]; omega), show (i + 1) * 3 + j - (kCell y).length = i * 3 + j by simp [kCell]; omega]
    exact ih
/-- a slice of keys in a block of its own, from the block 'base' on -/
def OwnK (w : World) (base : Nat) (v : Value) (ks : List (Int × Int × Int)) : Prop := w.ownsRow base 48 3 v ks.length (kCells ks)
theorem OwnK.nil (w : World) (base : Nat) : OwnK w base (.slice none 0 0) [] := World.ownsRow_nil _ _ _ _
theorem owns_below {w w' : World} {base : Nat} {e : TypeId} {s n : Nat} {v : Value} {xs : List Value} (h : w.ownsRow base e s v n xs) (hb : Below w.heap.size w w') : w'.ownsRow base e s v n xs := by
  refine ⟨h.1, ?_⟩
  rcases h.2 with h0 | ⟨g, cap, cur, hv, hbg, hg, rest⟩
  · exact .inl h0
  · exact .inr ⟨g, cap, cur, hv, hbg, (hb.block g (Array.getElem?_eq_some_iff.1 hg).1).trans hg, rest⟩
/-- blocks below 'base' may change -/
theorem owns_other {w w' : World} {base : Nat} {e : TypeId} {s n : Nat} {v : Value} {xs : List Value} (h : w.ownsRow base e s v n xs) (ho : ∀ j, base ≤ j → j < w.heap.size → w'.heap[j]? = w.heap[j]?) : w'.ownsRow base e s v n xs := by
  refine ⟨h.1, ?_⟩
  rcases h.2 with h0 | ⟨g, cap, cur, hv, hbg, hg, rest⟩
  · exact .inl h0
  · exact .inr ⟨g, cap, cur, hv, hbg, (ho g hbg (Array.getElem?_eq_some_iff.1 hg).1).trans hg, rest⟩
theorem OwnK.below {w w' : World} {base : Nat} {v : Value} {ks : List (Int × Int × Int)} (h : OwnK w base v ks) (hb : Below w.heap.size w w') : OwnK w' base v ks := owns_below h hb
theorem key_info : (Tryz.prog.info? 48).map (fun i => (i.zero, i.size, i.bytes)) = some (some (.agg #[.int .i64 0, .int .i64 0, .int .i64 0]), 3, 24) := by kernel_rfl
theorem fill_key (k : Int × Int × Int) : Instr.fill (fun i => some (i * 3, 3)) ((Array.range (1 * 3)).map ((#[Value.int .i64 0, .int .i64 0, .int .i64 0] : Array Value)[· % 3]!)) [(0, kV k)] = some (kCell k).toArray := by
  generalize hc : (Array.range (1 * 3)).map ((#[Value.int .i64 0, .int .i64 0, .int .i64 0] : Array Value)[· % 3]!) = c
  have hs : c.size = 3 := by rw [← hc]; simp
  obtain ⟨l⟩ := c
  obtain ⟨a, b, d, rfl⟩ : ∃ a b d, l = [a, b, d] := by
    match l, hs with
    | [a, b, d], _ => exact ⟨a, b, d, rfl⟩
  simp [Instr.fill, Value.cells, kV, kCell, List.zipIdx]
theorem build_key {ops : Array Oper} {rest : List Oper} {o : Oper} {a : Act} {w : World} {Q : Exit → Act → World → Prop} (x : Operand) (k : Int × Int × Int) (hg : o.guard = none) (ho : o.op = .buildSlice 50 1 #[(0, x)]) (hx : a.eval x = kV k)
    (h : wpList Tryz.prog ops Q rest (a.put o.dst (.slice (some ⟨w.heap.size, 0, none⟩) 1 1)) (w.alloc (.cells (kCell k).toArray 48))) : wpList Tryz.prog ops Q (o :: rest) a w := by
  obtain ⟨i0, hi, hz0, hz1, hz2⟩ := info_parts key_info
  refine wpList_buildSlice hg 50 48 1 #[(0, x)] ho (kCell k).toArray i0 _ Tryz.underlying50 hi hz0 (by rw [hz1]; decide) (by rw [hz1]; decide) ?_ h
  rw [hz1]
  simp only [List.map_toArray, List.map_cons, List.map_nil, hx]
  exact fill_key k
theorem append_key {ops : Array Oper} {rest : List Oper} {o : Oper} {a : Act} {w : World} {Q : Exit → Act → World → Prop} (s x : Operand) (base : Nat) (ks : List (Int × Int × Int)) (k : Int × Int × Int) (b : Nat) (v : Value) (hown : OwnK w base v ks) (hlen : ks.length ≤ 1000000) (hbase : base ≤ w.heap.size)
    (hnews : ∀ (j : Nat) u, (kCell k)[j]? = some u → w.cell? ((⟨b, 0, none⟩ : Addr).add j) = some u)
    (hgd : o.guard = none) (ho : o.op = .call { callee := .builtin .append, args := #[s, x], argTypes := #[50, 50] })
    (hs : a.eval s = v) (hx : a.eval x = .slice (some ⟨b, 0, none⟩) 1 1)
    (h : ∀ v' w', OwnK w' base v' (ks ++ [k]) → Below base w w' → w.grownBy w' v.ownBlock → wpList Tryz.prog ops Q rest (a.put o.dst v') w') : wpList Tryz.prog ops Q (o :: rest) a w := by
  obtain ⟨i0, hi, hz0, hz1, hz2⟩ := info_parts key_info
  refine wpList_append_own _ hgd s x 50 ho base 48 i0 _ 3 24 Tryz.underlying50 hi hz0 hz1 hz2 rfl (by decide) v ks.length (kCells ks) hs hown ⟨b, 0, none⟩ 1 1 (kCell k) hx rfl hnews (by intro u hu; simp [kCell] at hu; rcases hu with rfl | rfl | rfl <;> rfl) (by unfold maxLen; omega) (by omega) hbase fun v' w' h1 h2 _ => h v' w' ?_ ?_ h2
  · unfold OwnK
    rw [kCells_app, List.length_append]
    exact h1
  · exact (Below.refl _ _).grown h2 hbase (fun j e => (hown.lt j e).1)
theorem key_new (w : World) (k : Int × Int × Int) (t : TypeId) : ∀ (j : Nat) u, (kCell k)[j]? = some u → (w.alloc (.cells (kCell k).toArray t)).cell? ((⟨w.heap.size, 0, none⟩ : Addr).add j) = some u := by
  intro j u h
  have h1 := (RowAt.new w t (kCell k).toArray).cell j
  have e : ((⟨w.heap.size, 0, none⟩ : Addr).add j) = ⟨w.heap.size, j, none⟩ := by cases j <;> simp [Addr.add]
  rw [e, h1]
  simpa using h
/-- the cells of a list of facts -/
def ffCells (l : List FactV) : List Value := l.flatMap fun f => f.cells.toList
theorem ffCells_len (l : List FactV) : (ffCells l).length = l.length * 18 := by
  unfold ffCells
  induction l with
  | nil => rfl
  | cons f l ih => simp only [List.flatMap_cons, List.length_append, List.length_cons, ih, Array.length_toList, FactV.cells_size]; omega
theorem ffCells_app (l : List FactV) (f : FactV) : ffCells (l ++ [f]) = ffCells l ++ f.cells.toList := by simp [ffCells]
theorem ffCells_get (l : List FactV) : ∀ (i : Nat) (f : FactV), l[i]? = some f → ∀ j x, f.cells[j]? = some x → (ffCells l)[i * 18 + j]? = some x := by
  induction l with
  | nil => intro i f h; simp at h
  | cons z l ih =>
    intro i f h j x hx
    have hj : j < 18 := by
      have := (Array.getElem?_eq_some_iff.1 hx).1
      rwa [FactV.cells_size] at this
    show (z.cells.toList ++ ffCells l)[i * 18 + j]? = some x
    cases i with
    | zero =>
      simp at h
      subst h
      rw [Nat.zero_mul, Nat.zero_add, List.getElem?_append_left (by rw [Array.length_toList, FactV.cells_size]; exact hj), Array.getElem?_toList]
      exact hx
    | succ i =>
      rw [List.getElem?_append_right (by rw [Array.length_toList, FactV.cells_size]; omega), Array.length_toList, FactV.cells_size, show (i + 1) * 18 + j - 18 = i * 18 + j by omega]
      exact ih i f (by simpa using h) j x hx
def OwnF (w : World) (base : Nat) (v : Value) (l : List FactV) : Prop := w.ownsRow base 34 18 v l.length (ffCells l)
theorem OwnF.nil (w : World) (base : Nat) : OwnF w base (.slice none 0 0) [] := World.ownsRow_nil _ _ _ _
theorem OwnF.facts {w : World} {base : Nat} {v : Value} {l : List FactV} (h : OwnF w base v l) : FactsAt w v l := by
  rcases h.2 with ⟨rfl, hn⟩ | ⟨g, cap, cur, rfl, _, hg, hnc, _, hcs, ht⟩
  · exact .inl ⟨List.length_eq_zero_iff.1 hn, none, 0, by rfl⟩
  · refine .inr ⟨g, 0, cap, rfl, (Array.getElem?_eq_some_iff.1 hg).1, fun i f hi j x hx => ?_⟩
    have h1 := ffCells_get l i f hi j x hx
    have h2 := (List.getElem?_eq_some_iff.1 h1).1
    rw [ffCells_len] at h2
    rw [Nat.zero_add, cell_of_row w g _ cur _ _ hg, ← Array.getElem?_toList, ← ht] at *
    rw [← ht] at h1
    rw [List.getElem?_take_of_lt (by omega)] at h1
    exact h1
theorem OwnF.below {w w' : World} {base : Nat} {v : Value} {l : List FactV} (h : OwnF w base v l) (hb : Below w.heap.size w w') : OwnF w' base v l := owns_below h hb
theorem fact_ones (f : FactV) : ∀ u ∈ f.cells.toList, u.oneCell' = true := by
  have h := f.cells_one
  rw [← Array.all_toList, List.all_eq_true] at h
  exact h
theorem list18 {α : Type} (l : List α) (h : l.length = 18) : ∃ a0 a1 a2 a3 a4 a5 a6 a7 a8 a9 a10 a11 a12 a13 a14 a15 a16 a17, l = [a0, a1, a2, a3, a4, a5, a6, a7, a8, a9, a10, a11, a12, a13, a14, a15, a16, a17] := by
  match l, h with
  | [a0, a1, a2, a3, a4, a5, a6, a7, a8, a9, a10, a11, a12, a13, a14, a15, a16, a17], _ => exact ⟨a0, a1, a2, a3, a4, a5, a6, a7, a8, a9, a10, a11, a12, a13, a14, a15, a16, a17, rfl⟩
theorem fold18 (f : FactV) (c : Array Value) (hc : c.size = 18) : f.cells.zipIdx.foldl (fun cs (x : Value × Nat) => cs.setIfInBounds (0 * 18 + x.2) x.1) c = f.cells := by
  obtain ⟨l⟩ := c
  obtain ⟨a0, a1, a2, a3, a4, a5, a6, a7, a8, a9, a10, a11, a12, a13, a14, a15, a16, a17, rfl⟩ := list18 l hc
  unfold FactV.cells
  simp [List.zipIdx]
theorem fill_fact (f : FactV) : Instr.fill (fun i => some (i * 18, 18)) ((Array.range (1 * 18)).map (zf.cells[· % zf.cells.size]!)) [(0, .agg f.cells)] = some f.cells := by
  generalize hc : (Array.range (1 * 18)).map (zf.cells[· % zf.cells.size]!) = c
  have hs : c.size = 18 := by rw [← hc]; simp
  simp only [Instr.fill, Value.cells, FactV.cells_size, hs]
  have := fold18 f c hs
  simp at this ⊢
  exact this
theorem fact_info : (Tryz.prog.info? 34).map (fun i => (i.zero, i.size, i.bytes)) = some (some (.agg zf.cells), 18, 152) := by kernel_rfl
theorem fact_new (w : World) (f : FactV) (t : TypeId) : ∀ (j : Nat) u, f.cells.toList[j]? = some u → (w.alloc (.cells f.cells t)).cell? ((⟨w.heap.size, 0, none⟩ : Addr).add j) = some u := by
  intro j u h
  have h1 := (RowAt.new w t f.cells).cell j
  have e : ((⟨w.heap.size, 0, none⟩ : Addr).add j) = ⟨w.heap.size, j, none⟩ := by cases j <;> simp [Addr.add]
  rw [e, h1]
  simpa using h
end Go.Proofs.YtgjajhopjcdflaaGreat
