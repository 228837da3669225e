/- Whole slices of structs of integers appended; Clone. -/
import Derived.Test.YtejkgnlflhngbaaTmD
import Derived.Deep.Upon
import Derived.Great.BuildSlice
namespace Go.Proofs.Ytejkgnlflhngbaa
open Go Go.RowKit Go.Lib Go.Shelf Go.Maps

theorem iCells_at {k : Nat} (hk : 0 < k) {R : List (List Int)} (hR : ∀ r ∈ R, r.length = k) (j : Nat) (u : Value) (h : (iCells R)[j]? = some u) : ∃ (i n : Nat) (r : List Int) (x : Int), R[i]? = some r ∧ r[n]? = some x ∧ u = .int .i64 x ∧ j = i * k + n := by
  have hl := (List.getElem?_eq_some_iff.1 h).1
  rw [iCells_len hR] at hl
  have hd : j / k < R.length := by rw [Nat.div_lt_iff_lt_mul hk]; exact hl
  obtain ⟨r, hr⟩ : ∃ r, R[j / k]? = some r := ⟨_, List.getElem?_eq_getElem hd⟩
  have hm : j % k < r.length := by rw [hR r (List.mem_of_getElem? hr)]; exact Nat.mod_lt _ hk
  have hj : j / k * k + j % k = j := by rw [Nat.mul_comm]; exact Nat.div_add_mod j k
  refine ⟨j / k, j % k, r, _, hr, List.getElem?_eq_getElem hm, ?_, hj.symm⟩
  have h2 := iCells_get hR (j / k) r hr (j % k) _ (List.getElem?_eq_getElem hm)
  rw [hj, h] at h2
  exact Option.some.inj h2
theorem wp_append_irows {P : Program} {o : Oper} {a : Act} {w : World} {K : Act → World → Prop} {Q : Exit → Act → World → Prop} {TS T : TypeId} {k bytes : Nat} {z : Value}
    (hu : P.underlying TS = some (.slice T)) (hinfo : (P.info? T).map (fun i => (i.zero, i.size, i.bytes)) = some (some z, k, bytes)) (hzs : z.cells.size = k) (hk : 0 < k) (hby : bytes ≤ 64)
    (s x : Operand) (base : Nat) (L R : List (List Int)) (v xv : Value) (hown : OwnI T k w base v L) (hR : IRows k w xv R) (hlen : L.length + R.length ≤ 1000000) (hbase : base ≤ w.heap.size)
    (ho : o.op = .call { callee := .builtin .append, args := #[s, x], argTypes := #[TS, TS] })
    (hs : a.eval s = v) (hx : a.eval x = xv)
    (h : ∀ v' w', OwnI T k w' base v' (L ++ R) → w.grownBy w' v.ownBlock → K (a.put o.dst v') w') : o.wp P a w K Q := by
  obtain ⟨i0, hi, hz0, hz1, hz2⟩ := info_parts hinfo
  have hmul : (L.length + R.length) * bytes ≤ (L.length + R.length) * 64 := Nat.mul_le_mul_left _ hby
  have fin : ∀ (ad : Addr) c, xv = .slice (some ad) R.length c → (∀ (j : Nat) u, (iCells R)[j]? = some u → w.cell? (ad.add j) = some u) → o.wp P a w K Q := by
    intro ad c he hn
    refine wp_append_own _ s x TS ho base T i0 _ k bytes hu hi hz0 hz1 hz2 hzs hk v L.length (iCells L) hs hown.2 ad R.length c (iCells R) (hx.trans he) (iCells_len hR.1) hn (iCells_ones R) (by unfold maxLen; omega) (by omega) hbase fun v' w' h1 h2 _ => h v' w' ⟨?_, ?_⟩ h2
    · intro r hr
      rcases List.mem_append.1 hr with h0 | h0
      · exact hown.1 r h0
      · exact hR.1 r h0
    · rw [iCells_app, List.length_append]
      exact h1
  rcases hR.2 with ⟨rfl, A, c, he⟩ | ⟨b, off, c, he, hlt, hc⟩
  · cases A with
    | some ad => exact fin ad c he (by intro j u hj; simp [iCells] at hj)
    | none =>
      obtain ⟨A0, n0, c0, hv0⟩ := hown.slice3
      have hle : n0 ≤ c0 := by
        rcases hown.2.2 with ⟨h1, _⟩ | ⟨g, cap, cur, h1, _, _, h2, _⟩
        · rw [h1] at hv0; cases hv0; exact Nat.le_refl _
        · rw [h1] at hv0; cases hv0; exact h2
      subst hv0
      have hrun := run_append_nothing (P := P) w TS TS o.type T i0 hu hi A0 n0 c0 hle xv (by rw [he, hz1]; exact Src.ofNil _ hu c)
      unfold Oper.wp execOp
      simp only [ho, resolve, invoke, builtin, Sem.run_bind, Sem.run_pure, Result.andThen_ok, List.map_toArray, List.map_cons, List.map_nil, hs, hx, hrun]
      exact h _ _ (by rw [List.append_nil]; exact hown) ⟨rfl, rfl, rfl, Nat.le_refl _, fun _ _ _ => rfl⟩
  · refine fin ⟨b, off, none⟩ c he fun j u hj => ?_
    obtain ⟨i, n, r, y, hr, hy, rfl, rfl⟩ := iCells_at hk hR.1 j u hj
    rw [Go.WideShapes.add_plain, ← Nat.add_assoc]
    exact hc i r hr n y hy
theorem wpList_append_irows {P : Program} {ops : Array Oper} {rest : List Oper} {o : Oper} {a : Act} {w : World} {Q : Exit → Act → World → Prop} {TS T : TypeId} {k bytes : Nat} {z : Value}
    (hu : P.underlying TS = some (.slice T)) (hinfo : (P.info? T).map (fun i => (i.zero, i.size, i.bytes)) = some (some z, k, bytes)) (hzs : z.cells.size = k) (hk : 0 < k) (hby : bytes ≤ 64)
    (s x : Operand) (base : Nat) (L R : List (List Int)) (v xv : Value) (hown : OwnI T k w base v L) (hR : IRows k w xv R) (hlen : L.length + R.length ≤ 1000000) (hbase : base ≤ w.heap.size)
    (hgd : o.guard = none) (ho : o.op = .call { callee := .builtin .append, args := #[s, x], argTypes := #[TS, TS] })
    (hs : a.eval s = v) (hx : a.eval x = xv)
    (h : ∀ v' w', OwnI T k w' base v' (L ++ R) → w.grownBy w' v.ownBlock → wpList P ops Q rest (a.put o.dst v') w') : wpList P ops Q (o :: rest) a w :=
  wpList_plain hgd fun _ hK => wp_append_irows hu hinfo hzs hk hby s x base L R v xv hown hR hlen hbase ho hs hx fun v' w' h1 h2 => hK _ _ (h v' w' h1 h2)
def Stop (p : Prop) : Prop := p
theorem wpList_stop {P : Program} {ops : Array Oper} {o : Oper} {rest : List Oper} {Q : Exit → Act → World → Prop} {a : Act} {w : World} (h : Stop (wpList P ops Q (o :: rest) a w)) : wpList P ops Q (o :: rest) a w := h
/-- a slice literal without elements -/
theorem own_zero (T : TypeId) (k : Nat) (w : World) : OwnI T k (w.alloc (.cells #[] T)) w.heap.size (.slice (some ⟨w.heap.size, 0, none⟩) 0 0) [] :=
  ⟨by simp, by simp [iCells], .inr ⟨w.heap.size, 0, #[], rfl, Nat.le_refl _, heap_alloc_last w _, Nat.le_refl _, by unfold maxLen; omega, by simp, by simp [iCells]⟩⟩
theorem wpList_build_zero {P : Program} {ops : Array Oper} {rest : List Oper} {o : Oper} {a : Act} {w : World} {Q : Exit → Act → World → Prop} {TS T : TypeId} {k bytes : Nat} {z : Value}
    (hu : P.underlying TS = some (.slice T)) (hinfo : (P.info? T).map (fun i => (i.zero, i.size, i.bytes)) = some (some z, k, bytes))
    (hgd : o.guard = none) (ho : o.op = .buildSlice TS 0 #[])
    (h : wpList P ops Q rest (a.put o.dst (.slice (some ⟨w.heap.size, 0, none⟩) 0 0)) (w.alloc (.cells #[] T))) : wpList P ops Q (o :: rest) a w := by
  obtain ⟨i0, hi, hz0, hz1, hz2⟩ := info_parts hinfo
  have hr : (Instr.buildSlice TS 0 #[]).run P w = .ok (.slice (some ⟨w.heap.size, 0, none⟩) 0 0) (w.alloc (.cells #[] T)) := by
    simp [Instr.buildSlice, run_underlying hu, sizeOf, typeInfo, hi, newRow, Instr.fill]
    rw [show Array.map (fun _ => (default : Value)) (Array.range 0) = #[] from Array.size_eq_zero_iff.1 (by simp)]
  refine wpList_plain hgd fun K hK => ?_
  unfold Oper.wp execOp
  simp only [ho, List.map_toArray, List.map_nil, Sem.run_bind, hr, Result.andThen_ok]
  exact hK _ _ h
set_option maxHeartbeats 1000000 in
theorem nil_eq (w : World) (a : Addr) (n c : Nat) : (Go.binOp .eql 26 (.slice (some a) n c) (.slice none 0 0)).run Try.prog w = .ok (.bool false) w := by kernel_rfl
theorem nil_eq0 (w : World) (c : Nat) : (Go.binOp .eql 26 (.slice none 0 c) (.slice none 0 0)).run Try.prog w = .ok (.bool true) w := by kernel_rfl
set_option maxRecDepth 100000 in
theorem clone_any (v : Value) (L : List (List Int)) (w : World) (hv : IRows 2 w v L) (hl : L.length ≤ 1000) :
    Calls Try.prog 24 #[v] w fun e w' => ∃ v', e = .returned v' ∧ OwnI 46 2 w' w.heap.size v' L ∧ Below w.heap.size w w' := by
  obtain ⟨A, c, rfl⟩ := hv.slice
  obtain ⟨n, hn⟩ : ∃ n, L.length = n := ⟨_, rfl⟩
  have HV := Lib.hid hv
  rw [hn] at hl ⊢
  have HN := Lib.hid hn
  have HL := Lib.hid hl
  clear hv hn hl
  cases A with
  | none =>
    have hL : L = [] := by
      rcases HV.out.2 with ⟨h, _⟩ | ⟨b, o, c', h, _⟩
      · exact h
      · cases h
    have HE := Lib.hid hL
    have hn0 : n = 0 := by rw [← HN.out, hL]; rfl
    clear hL
    subst hn0
    have hq := nil_eq0 w c
    go_enter Try.func24, Try.ntmps24
    go_wp2_with fail
    go_ret
    exact ⟨_, rfl, by rw [HE.out]; exact OwnI.nil _ _ _ _, Below.refl _ _⟩
  | some ad =>
    have hq := nil_eq w ad n c
    go_enter Try.func24, Try.ntmps24
    go_wp2_with (first | ((with_reducible refine wpList_build_zero (o := ⟨some 5, _, _, _, _, _⟩) Try.underlying26 balance_info ?_ ?_ ?_); rfl; rfl) | ((with_reducible refine wpList_stop (o := ⟨some 7, _, _, _, _, _⟩) ?_)))
    unfold Stop
    refine wpList_append_irows Try.underlying26 balance_info rfl (by decide) (by decide) (.tmp 5) (.tmp 6) w.heap.size [] L _ _ (own_zero _ _ _) (HV.out.below ((Below.refl _ _).alloc (Nat.le_refl _) _)) ?_ ?_ ?_ ?_ ?_ ?_ ?_
    · have h1 := HN.out
      have h2 := HL.out
      simp
      omega
    · simp
    · rfl
    · rfl
    · rfl
    · rw [HN.out]
      rfl
    intro v' w' hown hg
    obtain ⟨A', n', c', rfl⟩ := hown.slice3
    have HO := Lib.hid (show OwnI 46 2 w' w.heap.size (.slice A' n' c') L from hown)
    have HB := Lib.hid (((Below.refl w.heap.size w).alloc (Nat.le_refl _) (.cells #[] 46)).grown hg (by simp) (fun j e => by simp [Value.ownBlock] at e; omega))
    clear hown hg
    go_wp2_with fail
    go_ret
    exact ⟨_, rfl, HO.out, HB.out⟩
end Go.Proofs.Ytejkgnlflhngbaa
