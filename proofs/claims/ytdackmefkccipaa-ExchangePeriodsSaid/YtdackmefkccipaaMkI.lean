/- The reference's insert, said weakly: what is in the new list was in the old one, or is the new fact. -/
import Derived.Test.YtdackmefkccipaaMkF
import Derived.Test.YtdackmefkccipaaMkH
import Derived.Test.YtdackmefkccipaaMkL
import Derived.Great.BuildSlice
namespace Go.Proofs.Ytdackmefkccipaa
open Go Go.RowKit Go.Lib Go.Shelf

theorem yieldsIf_load_at {P : Program} {ops : Array Oper} {S : World → Prop} {o : Oper} {a : Act} (ty : TypeId) (x : Operand) (b off : Nat) (cs : Array Value) (d : TypeDesc) (hc : ∀ w, S w → ∀ j v, cs[j]? = some v → w.cell? ⟨b, off + j, none⟩ = some v)
    (hu : P.underlying ty = some d) (hw : Region.wanted o (yielded ops a.tmps) = true) (ho : o.op = .load ty x) (hx : a.eval x = .pointer (some ⟨b, off, none⟩)) (hd : (match d with | .struct _ | .array _ _ => true | _ => false) = true) (hi : (P.info? ty).map (·.size) = some cs.size) :
    YieldsIf P ops S o (.agg cs) a := by
  refine Or.inl ⟨hw, fun w h => ?_⟩
  simp only [execOp, ho, hx, Instr.loadAt, Instr.sureAddr, Sem.run_bind, Sem.run_pure, Result.andThen_ok, run_loadVar_at w b off ty cs d (hc w h) hu hd hi]
theorem fact_ones (f : FactV) : ∀ u ∈ f.cells.toList, u.oneCell' = true := by
  have h := f.cells_one
  rw [← Array.all_toList, List.all_eq_true] at h
  exact h
theorem Made.kinds {f : FactV} (h : Made f) : f.n 0 = 5 ∨ f.n 0 = 6 ∨ f.n 0 = 7 := by cases h <;> simp [mk5, mk6, mk7]
theorem list18 {α : Type} (l : List α) (h : l.length = 18) : ∃ a0 a1 a2 a3 a4 a5 a6 a7 a8 a9 a10 a11 a12 a13 a14 a15 a16 a17, l = [a0, a1, a2, a3, a4, a5, a6, a7, a8, a9, a10, a11, a12, a13, a14, a15, a16, a17] := by
  match l, h with
  | [a0, a1, a2, a3, a4, a5, a6, a7, a8, a9, a10, a11, a12, a13, a14, a15, a16, a17], _ => exact ⟨a0, a1, a2, a3, a4, a5, a6, a7, a8, a9, a10, a11, a12, a13, a14, a15, a16, a17, rfl⟩
theorem fold18 (f : FactV) (c : Array Value) (hc : c.size = 18) : f.cells.zipIdx.foldl (fun cs (x : Value × Nat) => cs.setIfInBounds (0 * 18 + x.2) x.1) c = f.cells := by
  obtain ⟨l⟩ := c
  obtain ⟨a0, a1, a2, a3, a4, a5, a6, a7, a8, a9, a10, a11, a12, a13, a14, a15, a16, a17, rfl⟩ := list18 l hc
  unfold FactV.cells
  simp [List.zipIdx]
theorem fill_fact (f : FactV) : Instr.fill (fun i => some (i * 18, 18)) ((Array.range (1 * 18)).map (zeroF.cells[· % zeroF.cells.size]!)) [(0, .agg f.cells)] = some f.cells := by
  generalize hc : (Array.range (1 * 18)).map (zeroF.cells[· % zeroF.cells.size]!) = c
  have hs : c.size = 18 := by rw [← hc]; simp
  simp only [Instr.fill, Value.cells, FactV.cells_size, hs]
  have := fold18 f c hs
  simp at this ⊢
  exact this
theorem build_fact {ops : Array Oper} {rest : List Oper} {o : Oper} {a : Act} {w : World} {Q : Exit → Act → World → Prop} (x : Operand) (f : FactV) (hg : o.guard = none) (ho : o.op = .buildSlice 23 1 #[(0, x)]) (hx : a.eval x = .agg f.cells)
    (h : wpList Try.prog ops Q rest (a.put o.dst (.slice (some ⟨w.heap.size, 0, none⟩) 1 1)) (w.alloc (.cells f.cells 41))) : wpList Try.prog ops Q (o :: rest) a w := by
  obtain ⟨i0, hi, hz0, hz1, hz2⟩ := info_parts fact_info
  refine wpList_buildSlice hg 23 41 1 #[(0, x)] ho f.cells i0 _ Try.underlying23 hi hz0 (by rw [hz1]; decide) (by rw [hz1]; decide) ?_ h
  rw [hz1]
  simp only [List.map_toArray, List.map_cons, List.map_nil, hx]
  exact fill_fact f
theorem Made.validF {f : FactV} (h : Made f) : ValidF f := by
  refine ⟨⟨?_, ?_⟩, h.valid⟩
  · cases h <;> exact Nat.zero_le 65536
  · intro j hj
    have h0 : ∀ (x : Int), 0 ≤ x → x ≤ 10000000000 → -4611686018427387903 ≤ x ∧ x ≤ 4611686018427387903 := by omega
    cases h <;> (simp only [mk5, mk6, mk7]; split <;> (apply h0 <;> omega))
theorem append_fact {ops : Array Oper} {rest : List Oper} {o : Oper} {a : Act} {w : World} {Q : Exit → Act → World → Prop} (s x : Operand) (base : Nat) (L : List FactV) (f : FactV) (b : Nat) (v : Value) (hown : OwnF w base v L) (hlen : L.length ≤ 1000000) (hbase : base ≤ w.heap.size)
    (hnews : ∀ (j : Nat) u, f.cells.toList[j]? = some u → w.cell? ((⟨b, 0, none⟩ : Addr).add j) = some u)
    (hgd : o.guard = none) (ho : o.op = .call { callee := .builtin .append, args := #[s, x], argTypes := #[23, 23] })
    (hs : a.eval s = v) (hx : a.eval x = .slice (some ⟨b, 0, none⟩) 1 1)
    (h : ∀ v' w', OwnF w' base v' (L ++ [f]) → Below base w w' → w.grownBy w' v.ownBlock → wpList Try.prog ops Q rest (a.put o.dst v') w') : wpList Try.prog ops Q (o :: rest) a w := by
  obtain ⟨i0, hi, hz0, hz1, hz2⟩ := info_parts fact_info
  refine wpList_append_own _ hgd s x 23 ho base 41 i0 _ 18 152 Try.underlying23 hi hz0 hz1 hz2 rfl (by decide) v L.length (fCells L) hs hown ⟨b, 0, none⟩ 1 1 f.cells.toList hx rfl hnews (fact_ones f) (by unfold maxLen; omega) (by omega) hbase fun v' w' h1 h2 _ => h v' w' ?_ ?_ h2
  · unfold OwnF
    rw [fCells_app, List.length_append]
    exact h1
  · exact (Below.refl _ _).grown h2 hbase (fun j e => (hown.lt j e).1)

set_option maxRecDepth 100000 in
set_option maxHeartbeats 4000000 in
theorem insert_some (f : FactV) (fs : List FactV) (v : Value) (w : World) (hn : fs.length ≤ 1000) (hv : FactsAt w v fs) (hf : Made f) (hfs : ∀ g ∈ fs, Made g) :
    Calls Try.prog 25 #[v, .agg f.cells] w fun e w' => ∃ v' L, e = .returned v' ∧ OwnF w' w.heap.size v' L ∧ Below w.heap.size w w' ∧ L.length ≤ fs.length + 1 ∧ ∀ g ∈ L, g ∈ fs ∨ g = f := by
  have HV := Lib.hid hv
  have HF := Lib.hid hf
  have HFS := Lib.hid hfs
  obtain ⟨m, hm⟩ : ∃ m, fs.length = m := ⟨_, rfl⟩
  rw [hm] at hn ⊢
  have HM := Lib.hid hm
  obtain ⟨A, cc, rfl⟩ : ∃ A c, v = .slice A m c := by
    rcases hv with ⟨rfl, A, c, rfl⟩ | ⟨b, o, c, rfl, _⟩
    · exact ⟨A, c, by rw [← hm]; rfl⟩
    · exact ⟨_, c, by rw [← hm]⟩
  have HKF := Lib.hid (key_some f hf.kinds)
  obtain ⟨x0, hx0⟩ : ∃ x, f.n 0 = x := ⟨_, rfl⟩
  obtain ⟨x1, hx1⟩ : ∃ x, kA f = x := ⟨_, rfl⟩
  obtain ⟨x2, hx2⟩ : ∃ x, kB f = x := ⟨_, rfl⟩
  rw [hx0, hx1, hx2] at HKF
  clear hm hv hf hfs hx0 hx1 hx2
  go_enter Try.func25, Try.ntmps25
  go_wp2_with (first | ((with_reducible refine load_fact (o := ⟨some 11, _, _, _, _, _⟩) (.tmp 3) w.heap.size 0 f (row_cells (heap_alloc_last w _)) ?_ ?_ ?_ ?_); rfl; rfl; rfl))
  refine (HKF.out _).mono ?_
  rintro e w1 ⟨rfl, hb⟩
  have HR1 := Lib.hid ((hb.block w.heap.size (by simp)).trans (heap_alloc_last w (.cells f.cells 41)))
  have HB1 := Lib.hid (((Below.refl w.heap.size w).alloc (Nat.le_refl _) (.cells f.cells 41)).trans (hb.mono (by simp)))
  have hs1 : w.heap.size < w1.heap.size := (Array.getElem?_eq_some_iff.1 HR1.out).1
  clear hb
  go_wp2_with fail
  obtain ⟨W0, hW0⟩ : ∃ W0, w1.alloc (.cells #[.int .i64 x0, .int .i64 x1, .int .i64 x2] 39) = W0 := ⟨_, rfl⟩
  have hs0 : W0.heap.size = w1.heap.size + 1 := by rw [← hW0]; simp
  have hk0 : W0.heap[w1.heap.size]? = some (.cells #[.int .i64 x0, .int .i64 x1, .int .i64 x2] 39 (0, 0)) := by rw [← hW0]; exact heap_alloc_last w1 _
  have hr0 : W0.heap[w.heap.size]? = some (.cells f.cells 41 (0, 0)) := by rw [← hW0]; exact (Below.heap_alloc _ _ _ hs1).trans HR1.out
  have hb0 : Below w.heap.size w W0 := by rw [← hW0]; exact HB1.out.alloc HB1.out.size _
  rw [hW0]
  clear hW0 HR1 HB1
  have HS0 := Lib.hid hs0
  have HK0 := Lib.hid hk0
  have HR0 := Lib.hid hr0
  have HB0 := Lib.hid hb0
  clear hs0 hk0 hr0 hb0
  go_loopw [5, 7, 8] (fun sv dv iv wr => ∃ (k : Nat) (L : List FactV) (d : Bool), k ≤ m ∧ iv = .int .i64 k ∧ dv = .bool d ∧ Hid (L.length ≤ k + d.toNat ∧ (∀ g ∈ L, g ∈ fs ∨ g = f) ∧ OwnF wr W0.heap.size sv L ∧ Below W0.heap.size W0 wr)) (fun _ _ i _ => m - (intOf i).toNat)
  case atStart => exact ⟨0, [], false, by omega, rfl, rfl, Lib.hid ⟨by simp, by simp, OwnF.nil _ _, Below.refl _ _⟩⟩
  case round =>
    obtain ⟨k, L, d, hk, rfl, rfl, HR⟩ := hrel
    by_cases hk2 : k < m
    · obtain ⟨g, hg⟩ : ∃ g, fs[k]? = some g := ⟨_, List.getElem?_eq_getElem (by rw [HM.out]; exact hk2)⟩
      have hgm : g ∈ fs := List.mem_of_getElem? hg
      have hbw : Below w.heap.size w wr := HB0.out.trans (HR.out.2.2.2.mono (by rw [HS0.out]; omega))
      obtain ⟨b, o, hA, hld⟩ : ∃ b o, A = some ⟨b, o, none⟩ ∧ b < w.heap.size ∧ ∀ j x, g.cells[j]? = some x → w.cell? ⟨b, o + k * 18 + j, none⟩ = some x := by
        rcases HV.out with ⟨rfl, _⟩ | ⟨b, o, c, he, hb, hc⟩
        · simp at hg
        · simp only [Value.slice.injEq] at he
          exact ⟨b, o, he.1, hb, fun j x hx => hc k g hg j x hx⟩
      subst hA
      have HLD := Lib.hid hld
      have HKG := Lib.hid (key_some g (HFS.out g hgm).kinds)
      obtain ⟨y0, hy0⟩ : ∃ x, g.n 0 = x := ⟨_, rfl⟩
      obtain ⟨y1, hy1⟩ : ∃ x, kA g = x := ⟨_, rfl⟩
      obtain ⟨y2, hy2⟩ : ∃ x, kB g = x := ⟨_, rfl⟩
      rw [hy0, hy1, hy2] at HKG
      have HGM := Lib.hid hgm
      have HBW := Lib.hid hbw
      have HLW : Hid (∀ j x, g.cells[j]? = some x → wr.cell? ⟨b, o + k * 18 + j, none⟩ = some x) := Lib.hid fun j x hx => (hbw.cell (p := ⟨b, o + k * 18 + j, none⟩) hld.1).trans (hld.2 j x hx)
      clear hg hgm hld hy0 hy1 hy2 hbw
      go_wp2_with (first | ((with_reducible refine load_fact (o := ⟨some 22, _, _, _, _, _⟩) (.tmp 21) b (o + k * 18) g HLW.out ?_ ?_ ?_ ?_); rfl; rfl; rfl))
      refine (HKG.out _).mono ?_
      rintro e w2 ⟨rfl, hb⟩
      have hb2 : Below W0.heap.size W0 w2 := HR.out.2.2.2.trans (hb.mono HR.out.2.2.2.size)
      have ho2 : OwnF w2 W0.heap.size u5 L := HR.out.2.2.1.below hb
      have HQ := Lib.hid HR.out.1
      have HMM := Lib.hid HR.out.2.1
      have hs2 : W0.heap.size ≤ w2.heap.size := hb2.size
      have hkey : ∀ Wc, Below W0.heap.size W0 Wc → Wc.heap[w.heap.size]? = some (.cells f.cells 41 (0, 0)) ∧ (∀ j x, g.cells[j]? = some x → Wc.cell? ⟨b, o + k * 18 + j, none⟩ = some x) ∧ Wc.heap[w1.heap.size]? = some (.cells #[.int .i64 x0, .int .i64 x1, .int .i64 x2] 39 (0, 0)) := fun Wc hWc =>
        ⟨(hWc.block w.heap.size (by rw [HS0.out]; omega)).trans HR0.out, fun j x hx => ((HB0.out.trans (hWc.mono (by rw [HS0.out]; omega))).cell (p := ⟨b, o + k * 18 + j, none⟩) HLD.out.1).trans (HLD.out.2 j x hx), (hWc.block w1.heap.size (by rw [HS0.out]; omega)).trans HK0.out⟩
      have HKEY := Lib.hid hkey
      clear hb HR HLW HBW hkey
      cases d
      · obtain ⟨q, hq⟩ : ∃ q, (y0 == x0 && (y1 == x1 && y2 == x2)) = q := ⟨_, rfl⟩
        have hek := eq_key
        have hka := (HKEY.out w2 hb2).2.2
        have hx0 : w2.cell? ⟨w1.heap.size, 0, none⟩ = some (.int .i64 x0) := cell_of_row _ _ 0 _ _ _ hka
        have hx1 : w2.cell? ⟨w1.heap.size, 1, none⟩ = some (.int .i64 x1) := cell_of_row _ _ 1 _ _ _ hka
        have hx2 : w2.cell? ⟨w1.heap.size, 2, none⟩ = some (.int .i64 x2) := cell_of_row _ _ 2 _ _ _ hka
        have hlt1 := (Array.getElem?_eq_some_iff.1 hka).1
        clear hka
        have hlen : L.length ≤ 1000000 := by have := HQ.out; simp at this; omega
        have hlen2 : ∀ y : FactV, (L ++ [y]).length ≤ 1000000 := by intro y; have := HQ.out; simp at this ⊢; omega
        cases q
        · go_wp2_with fail
          refine (less_some x0 x1 x2 y0 y1 y2 _).mono ?_
          rintro e w3 ⟨⟨lb, rfl⟩, hb3⟩
          have hb3' : Below W0.heap.size W0 w3 := (hb2.alloc hs2 _).trans (hb3.mono (by simp; omega))
          have hs3 := hb3'.size
          have HA := Lib.hid (HKEY.out w3 hb3')
          have HO3 := Lib.hid ((ho2.below ((Below.refl w2.heap.size w2).alloc (Nat.le_refl _) (.cells #[.int .i64 y0, .int .i64 y1, .int .i64 y2] 39))).below hb3)
          have HB3 := Lib.hid hb3'
          clear hb3 hb3' hx0 hx1 hx2
          cases lb
          · go_wp2_with (first | ((with_reducible refine load_fact (o := ⟨some 64, _, _, _, _, _⟩) (.tmp 63) b (o + k * 18) g HA.out.2.1 ?_ ?_ ?_ ?_); rfl; rfl; rfl) | ((with_reducible refine build_fact (o := ⟨some 65, _, _, _, _, _⟩) (.tmp 64) g ?_ ?_ ?_ ?_); rfl; rfl; rfl) | ((with_reducible refine append_fact (o := ⟨some 66, _, _, _, _, _⟩) (.tmp 60) (.tmp 65) W0.heap.size L g _ _ (OwnF.below HO3.out ((Below.refl _ _).alloc (Nat.le_refl _) _)) hlen ?_ (fact_new _ g _) ?_ ?_ ?_ ?_ ?_); (simp; omega); rfl; rfl; rfl; rfl; intro v' w5 hown' hbl _))
            go_roundw
            case rel =>
              refine ⟨k + 1, L ++ [g], false, by omega, by go_num, rfl, Lib.hid ⟨?_, ?_, hown', (HB3.out.alloc hs3 _).trans hbl⟩⟩
              · have := HQ.out
                simp at this ⊢
                omega
              · intro y hy
                rcases List.mem_append.1 hy with h | h
                · exact HMM.out y h
                · rw [List.mem_singleton.1 h]
                  exact .inl HGM.out
            case measure => simp [intOf]; omega
          · go_wp2_with (first | ((with_reducible refine load_fact (o := ⟨some 57, _, _, _, _, _⟩) (.tmp 3) w.heap.size 0 f (row_cells HA.out.1) ?_ ?_ ?_ ?_); rfl; rfl; rfl) | ((with_reducible refine build_fact (o := ⟨some 58, _, _, _, _, _⟩) (.tmp 57) f ?_ ?_ ?_ ?_); rfl; rfl; rfl) | ((with_reducible refine append_fact (o := ⟨some 59, _, _, _, _, _⟩) (.tmp 56) (.tmp 58) W0.heap.size L f _ _ (OwnF.below HO3.out ((Below.refl _ _).alloc (Nat.le_refl _) _)) hlen ?_ (fact_new _ f _) ?_ ?_ ?_ ?_ ?_); (simp; omega); rfl; rfl; rfl; rfl; intro v4 w4 hown4 hbl4 _; have HO4 := Lib.hid hown4; have HB4 := Lib.hid ((HB3.out.alloc hs3 (.cells f.cells 41)).trans hbl4); have hs4 := HB4.out.size; have HA4 := Lib.hid (HKEY.out w4 HB4.out); clear hown4 hbl4) | ((with_reducible refine load_fact (o := ⟨some 64, _, _, _, _, _⟩) (.tmp 63) b (o + k * 18) g HA4.out.2.1 ?_ ?_ ?_ ?_); rfl; rfl; rfl) | ((with_reducible refine build_fact (o := ⟨some 65, _, _, _, _, _⟩) (.tmp 64) g ?_ ?_ ?_ ?_); rfl; rfl; rfl) | ((with_reducible refine append_fact (o := ⟨some 66, _, _, _, _, _⟩) (.tmp 60) (.tmp 65) W0.heap.size (L ++ [f]) g _ _ (OwnF.below HO4.out ((Below.refl _ _).alloc (Nat.le_refl _) _)) (hlen2 f) ?_ (fact_new _ g _) ?_ ?_ ?_ ?_ ?_); (simp; omega); rfl; rfl; rfl; rfl; intro v' w5 hown' hbl _))
            go_roundw
            case rel =>
              refine ⟨k + 1, L ++ [f] ++ [g], true, by omega, by go_num, rfl, Lib.hid ⟨?_, ?_, hown', (HB4.out.alloc hs4 _).trans hbl⟩⟩
              · have := HQ.out
                simp at this ⊢
                omega
              · intro y hy
                rcases List.mem_append.1 hy with h | h
                · rcases List.mem_append.1 h with h | h
                  · exact HMM.out y h
                  · rw [List.mem_singleton.1 h]
                    exact .inr rfl
                · rw [List.mem_singleton.1 h]
                  exact .inl HGM.out
            case measure => simp [intOf]; omega
        · go_wp2_with fail
          obtain ⟨X, hX⟩ : ∃ X, w2.alloc (.cells #[.int .i64 y0, .int .i64 y1, .int .i64 y2] 39) = X := ⟨_, rfl⟩
          have hbX : Below W0.heap.size W0 X := by rw [← hX]; exact hb2.alloc hs2 _
          have hoX : OwnF X W0.heap.size u5 L := by rw [← hX]; exact ho2.below ((Below.refl w2.heap.size w2).alloc (Nat.le_refl _) _)
          rw [hX]
          have hAX := HKEY.out X hbX
          have hlX := (Array.getElem?_eq_some_iff.1 hAX.1).1
          have hbl : b < X.heap.size := Nat.lt_trans HLD.out.1 hlX
          have hrf : ∀ W, Below X.heap.size X W → ∀ j v, f.cells[j]? = some v → W.cell? ⟨w.heap.size, 0 + j, none⟩ = some v := fun W hW => row_cells ((hW.block _ hlX).trans hAX.1)
          have hrg : ∀ W, Below X.heap.size X W → ∀ j v, g.cells[j]? = some v → W.cell? ⟨b, o + k * 18 + j, none⟩ = some v := fun W hW j v hv => (hW.cell (p := ⟨b, o + k * 18 + j, none⟩) hbl).trans (hAX.2.1 j v hv)
          have HRF := Lib.hid hrf
          have HRG := Lib.hid hrg
          have HBX := Lib.hid hbX
          have HOX := Lib.hid hoX
          have HPV := Lib.hid (prevails_some f g HF.out.validF (HFS.out g HGM.out).validF HF.out.kinds (HFS.out g HGM.out).kinds)
          clear hX hbX hoX hAX hrf hrg hx0 hx1 hx2 hb2 ho2 hs2 hlt1 hq hek
          refine wp_region_held_drew (S := fun W => Below X.heap.size X W) (by kernel_rfl) (Below.refl _ _).drew (fun hHeld => ?_)
          refine wpAnyH_take (i := 0) (oi := ⟨_, _, _, _, _, _⟩) rfl (by kernel_rfl) (by kernel_rfl) (by kernel_rfl) (fun _ _ _ h => h) (yieldsIf_load_at 41 (.tmp 3) w.heap.size 0 f.cells _ HRF.out rfl (by rfl) rfl rfl rfl rfl) (by assumption) ?_
          simp only [Act.put, List.setIfInBounds_toArray, List.set_cons_zero, List.set_cons_succ]
          refine wpAnyH_take (i := 1) (oi := ⟨_, _, _, _, _, _⟩) (v := ?_) rfl (by kernel_rfl) (by kernel_rfl) (by kernel_rfl) (fun _ _ _ h => h) (Or.inl ⟨by rfl, ?_⟩) (by assumption) ?_
          rotate_left
          · intro w hSw
            go_simp
            all_goals with_reducible rfl
          simp only [Act.put, List.setIfInBounds_toArray, List.set_cons_zero, List.set_cons_succ]
          refine wpAnyH_take (i := 2) (oi := ⟨_, _, _, _, _, _⟩) (v := ?_) rfl (by kernel_rfl) (by kernel_rfl) (by kernel_rfl) (fun _ _ _ h => h) (Or.inl ⟨by rfl, ?_⟩) (by assumption) ?_
          rotate_left
          · intro w hSw
            go_simp
            all_goals with_reducible rfl
          simp only [Act.put, List.setIfInBounds_toArray, List.set_cons_zero, List.set_cons_succ]
          refine wpAnyH_take (i := 3) (oi := ⟨_, _, _, _, _, _⟩) (v := ?_) rfl (by kernel_rfl) (by kernel_rfl) (by kernel_rfl) (fun _ _ _ h => h) (Or.inl ⟨by rfl, ?_⟩) (by assumption) ?_
          rotate_left
          · intro w hSw
            go_simp
            all_goals with_reducible rfl
          simp only [Act.put, List.setIfInBounds_toArray, List.set_cons_zero, List.set_cons_succ]
          refine wpAnyH_take (i := 4) (oi := ⟨_, _, _, _, _, _⟩) rfl (by kernel_rfl) (by kernel_rfl) (by kernel_rfl) (fun _ _ _ h => h) (yieldsIf_load_at 41 (.tmp 34) b (o + k * 18) g.cells _ HRG.out rfl (by rfl) rfl rfl rfl rfl) (by assumption) ?_
          simp only [Act.put, List.setIfInBounds_toArray, List.set_cons_zero, List.set_cons_succ]
          refine wpAnyH_ready (rs := [5]) (by kernel_rfl) (by simp) ?_
          refine AllReadyH.cons (o := ⟨_, _, _, _, _, _⟩) rfl (fun K hK => ?_) AllReadyH.nil
          go_simp
          go_at_call 37
          refine (HPV.out _).mono ?_
          rintro e w4 ⟨⟨pv, rfl⟩, hb4⟩
          have hb4' : Below X.heap.size X w4 := ((Below.refl X.heap.size X).drew).trans hb4
          clear hb4
          go_wp2_with fail
          refine hK.out _ _ hb4' (fun hHeld4 => ?_)
          clear hK K
          try simp only [Act.put, List.setIfInBounds_toArray, List.set_cons_zero, List.set_cons_succ]
          refine wpAnyH_take (i := 6) (oi := ⟨_, _, _, _, _, _⟩) (v := ?_) rfl (by kernel_rfl) (by kernel_rfl) (by kernel_rfl) (fun _ _ _ h => h) (Or.inl ⟨by rfl, ?_⟩) (by assumption) ?_
          rotate_left
          · intro w hSw
            go_simp
            all_goals with_reducible rfl
          simp only [Act.put, List.setIfInBounds_toArray, List.set_cons_zero, List.set_cons_succ]
          refine wpAnyH_done (by kernel_rfl) ?_ _
          have hB4 := HBX.out.trans (hb4'.mono HBX.out.size)
          have hs4 := hB4.size
          have HA := Lib.hid (HKEY.out w4 hB4)
          have HO4 := Lib.hid (HOX.out.below hb4')
          have HB4 := Lib.hid hB4
          clear hHeld hHeld4 hb4' hB4
          cases pv
          · go_wp2_with (first | ((with_reducible refine load_fact (o := ⟨some 46, _, _, _, _, _⟩) (.tmp 45) b (o + k * 18) g HA.out.2.1 ?_ ?_ ?_ ?_); rfl; rfl; rfl) | ((with_reducible refine build_fact (o := ⟨some 47, _, _, _, _, _⟩) (.tmp 46) g ?_ ?_ ?_ ?_); rfl; rfl; rfl) | ((with_reducible refine append_fact (o := ⟨some 48, _, _, _, _, _⟩) (.tmp 42) (.tmp 47) W0.heap.size L g _ _ (OwnF.below HO4.out ((Below.refl _ _).alloc (Nat.le_refl _) _)) hlen ?_ (fact_new _ g _) ?_ ?_ ?_ ?_ ?_); (simp; omega); rfl; rfl; rfl; rfl; intro v' w5 hown' hbl _))
            go_roundw
            case rel =>
              refine ⟨k + 1, L ++ [g], true, by omega, by go_num, rfl, Lib.hid ⟨?_, ?_, hown', (HB4.out.alloc hs4 _).trans hbl⟩⟩
              · have := HQ.out
                simp at this ⊢
                omega
              · intro y hy
                rcases List.mem_append.1 hy with h | h
                · exact HMM.out y h
                · rw [List.mem_singleton.1 h]
                  exact .inl HGM.out
            case measure => simp [intOf]; omega
          · go_wp2_with (first | ((with_reducible refine load_fact (o := ⟨some 39, _, _, _, _, _⟩) (.tmp 3) w.heap.size 0 f (row_cells HA.out.1) ?_ ?_ ?_ ?_); rfl; rfl; rfl) | ((with_reducible refine build_fact (o := ⟨some 40, _, _, _, _, _⟩) (.tmp 39) f ?_ ?_ ?_ ?_); rfl; rfl; rfl) | ((with_reducible refine append_fact (o := ⟨some 41, _, _, _, _, _⟩) (.tmp 38) (.tmp 40) W0.heap.size L f _ _ (OwnF.below HO4.out ((Below.refl _ _).alloc (Nat.le_refl _) _)) hlen ?_ (fact_new _ f _) ?_ ?_ ?_ ?_ ?_); (simp; omega); rfl; rfl; rfl; rfl; intro v' w5 hown' hbl _))
            go_roundw
            case rel =>
              refine ⟨k + 1, L ++ [f], true, by omega, by go_num, rfl, Lib.hid ⟨?_, ?_, hown', (HB4.out.alloc hs4 _).trans hbl⟩⟩
              · have := HQ.out
                simp at this ⊢
                omega
              · intro y hy
                rcases List.mem_append.1 hy with h | h
                · exact HMM.out y h
                · rw [List.mem_singleton.1 h]
                  exact .inr rfl
            case measure => simp [intOf]; omega
      · have HA := Lib.hid (HKEY.out (w2.alloc (.cells #[.int .i64 y0, .int .i64 y1, .int .i64 y2] 39)) (hb2.alloc hs2 _))
        have HOA := Lib.hid (ho2.below ((Below.refl w2.heap.size w2).alloc (Nat.le_refl _) (.cells #[.int .i64 y0, .int .i64 y1, .int .i64 y2] 39)))
        have hlen : L.length ≤ 1000000 := by have := HQ.out; simp at this; omega
        go_wp2_with (first | ((with_reducible refine load_fact (o := ⟨some 64, _, _, _, _, _⟩) (.tmp 63) b (o + k * 18) g HA.out.2.1 ?_ ?_ ?_ ?_); rfl; rfl; rfl) | ((with_reducible refine build_fact (o := ⟨some 65, _, _, _, _, _⟩) (.tmp 64) g ?_ ?_ ?_ ?_); rfl; rfl; rfl) | ((with_reducible refine append_fact (o := ⟨some 66, _, _, _, _, _⟩) (.tmp 60) (.tmp 65) W0.heap.size L g _ _ (OwnF.below HOA.out ((Below.refl _ _).alloc (Nat.le_refl _) _)) hlen ?_ (fact_new _ g _) ?_ ?_ ?_ ?_ ?_); (simp; omega); rfl; rfl; rfl; rfl; intro v' w5 hown' hbl _))
        go_roundw
        case rel =>
          refine ⟨k + 1, L ++ [g], true, by omega, by go_num, rfl, Lib.hid ⟨?_, ?_, hown', ((hb2.alloc hs2 _).alloc (by simp; omega) _).trans hbl⟩⟩
          · have := HQ.out
            simp at this ⊢
            omega
          · intro y hy
            rcases List.mem_append.1 hy with h | h
            · exact HMM.out y h
            · rw [List.mem_singleton.1 h]
              exact .inl HGM.out
        case measure => simp [intOf]; omega
    · obtain rfl : k = m := by omega
      have hfr := (HR.out.2.2.2.block w.heap.size (by rw [HS0.out]; omega)).trans HR0.out
      have HFR := Lib.hid hfr
      have hsr := HR.out.2.2.2.size
      have hlen : L.length ≤ 1000000 := by have := HR.out.1; cases d <;> simp at this <;> omega
      have HOR := Lib.hid HR.out.2.2.1
      clear hfr
      have HBW := Lib.hid (HB0.out.trans (HR.out.2.2.2.mono (by rw [HS0.out]; omega)))
      have hwb : w.heap.size ≤ W0.heap.size := HB0.out.size
      cases d
      · go_wp2_with (first | ((with_reducible refine load_fact (o := ⟨some 70, _, _, _, _, _⟩) (.tmp 3) w.heap.size 0 f (row_cells HFR.out) ?_ ?_ ?_ ?_); rfl; rfl; rfl) | ((with_reducible refine build_fact (o := ⟨some 71, _, _, _, _, _⟩) (.tmp 70) f ?_ ?_ ?_ ?_); rfl; rfl; rfl) | ((with_reducible refine append_fact (o := ⟨some 72, _, _, _, _, _⟩) (.tmp 69) (.tmp 71) W0.heap.size L f _ _ (OwnF.below HOR.out ((Below.refl _ _).alloc (Nat.le_refl _) _)) hlen ?_ (fact_new _ f _) ?_ ?_ ?_ ?_ ?_); (simp; omega); rfl; rfl; rfl; rfl; intro v' w5 hown' hbl _))
        go_ret
        refine ⟨_, L ++ [f], rfl, hown'.mono hwb, (HBW.out.alloc HBW.out.size _).trans (hbl.mono hwb), ?_, ?_⟩
        · have := HR.out.1
          simp at this ⊢
          omega
        · intro y hy
          rcases List.mem_append.1 hy with h | h
          · exact HR.out.2.1 y h
          · rw [List.mem_singleton.1 h]
            exact .inr rfl
      · go_wp2_with fail
        go_ret
        exact ⟨_, L, rfl, HOR.out.mono hwb, HBW.out, by have := HR.out.1; simpa using this, HR.out.2.1⟩
end Go.Proofs.Ytdackmefkccipaa
