/- Slices of strings that take up others. -/
import Derived.Test.YtgmdjbhclihflaaDoorDgLd
import Derived.Test.YtgmdjbhclihflaaDoorDgPb
import Derived.Deep.Upon
namespace Go.Proofs.YtgmdjbhclihflaaDoor
open Go Go.RowKit Go.Lib Go.Shelf
attribute [local go_sem] Oper.semAt_some

theorem wpList_build_zero {P : Program} {ops : Array Oper} {rest : List Oper} {o : Oper} {a : Act} {w : World} {Q : Exit → Act → World → Prop} {TS T : TypeId} {k bytes : Nat} {z : Value}
    (hu : P.underlying TS = some (.slice T)) (hinfo : (P.info? T).map (fun i => (i.zero, i.size, i.bytes)) = some (some z, k, bytes))
    (hgd : o.guard = none) (ho : o.op = .buildSlice TS 0 #[])
    (h : wpList P ops Q rest (a.put o.dst (.slice (some ⟨w.heap.size, 0, none⟩) 0 0)) (w.alloc (.cells #[] T))) : wpList P ops Q (o :: rest) a w := by
  obtain ⟨i0, hi, hz0, hz1, hz2⟩ := info_parts hinfo
  have hr : (Instr.buildSlice TS 0 #[]).run P w = .ok (.slice (some ⟨w.heap.size, 0, none⟩) 0 0) (w.alloc (.cells #[] T)) := by
    simp [Instr.buildSlice, run_underlying hu, sizeOf, typeInfo, hi, newRow, Instr.fill]
    rw [show Array.map (fun _ => (default : Value)) (Array.range 0) = #[] from Array.size_eq_zero_iff.1 (by simp)]
  refine wpList_plain hgd fun K hK => ?_
  unfold Oper.wp execOp
  simp only [ho, List.map_toArray, List.map_nil, Sem.run_bind, hr, Result.andThen_ok]
  exact hK _ _ h
set_option maxHeartbeats 1000000 in

theorem own_zeroL {α : Type} (T : TypeId) (enc : α → Value) (w : World) : OwnL T enc (w.alloc (.cells #[] T)) w.heap.size (.slice (some ⟨w.heap.size, 0, none⟩) 0 0) [] :=
  ⟨by simp, .inr ⟨w.heap.size, 0, #[], rfl, Nat.le_refl _, heap_alloc_last w _, Nat.le_refl _, by unfold maxLen; omega, by simp, by simp⟩⟩
/-- append(xs, ys...) over strings -/
theorem wp_append_strs {o : Oper} {a : Act} {w : World} {K : Act → World → Prop} {Q : Exit → Act → World → Prop} (s x : Operand) (base : Nat) (L R : List (List UInt8)) (v xv : Value)
    (hown : OwnL 9 encS w base v L) (hR : SlS w xv R) (hlen : L.length + R.length ≤ 1000000) (hbase : base ≤ w.heap.size)
    (ho : o.op = .call { callee := .builtin .append, args := #[s, x], argTypes := #[22, 22] })
    (hs : a.eval s = v) (hx : a.eval x = xv)
    (h : ∀ v' w', OwnL 9 encS w' base v' (L ++ R) → w.grownBy w' v.ownBlock → K (a.put o.dst v') w') : o.wp Tryd.prog a w K Q := by
  obtain ⟨i0, hi, hz0, hz1, hz2⟩ := info_parts string_info
  have hu := Tryd.underlying22
  have fin : ∀ (ad : Addr) c, xv = .slice (some ad) R.length c → (∀ (j : Nat) u, (R.map encS)[j]? = some u → w.cell? (ad.add j) = some u) → o.wp Tryd.prog a w K Q := by
    intro ad c he hn
    refine wp_append_own _ s x 22 ho base 9 i0 _ 1 16 hu hi hz0 hz1 hz2 rfl (by decide) v L.length (L.map encS) hs hown ad R.length c (R.map encS) (hx.trans he) (by rw [List.length_map, Nat.mul_one]) hn (fun u hu => by
      obtain ⟨y, _, rfl⟩ := List.mem_map.1 hu
      rfl) (by unfold maxLen; omega) (by omega) hbase fun v' w' h1 h2 _ => h v' w' ?_ h2
    unfold OwnL
    rw [List.length_append, List.map_append]
    exact h1
  rcases hR with ⟨rfl, A, c, he⟩ | ⟨b, off, c, he, hlt, hc⟩
  · cases A with
    | some ad => exact fin ad c he (by intro j u hj; simp at hj)
    | none =>
      obtain ⟨A0, c0, hv0, hle⟩ := hown.slice
      subst hv0
      have hrun := run_append_nothing (P := Tryd.prog) w 22 22 o.type 9 i0 hu hi A0 _ c0 hle xv (by rw [he, hz1]; exact Src.ofNil _ hu c)
      unfold Oper.wp execOp
      simp only [ho, resolve, invoke, builtin, Sem.run_bind, Sem.run_pure, Result.andThen_ok, List.map_toArray, List.map_cons, List.map_nil, hs, hx, hrun]
      exact h _ _ (by rw [List.append_nil]; exact hown) ⟨rfl, rfl, rfl, Nat.le_refl _, fun _ _ _ => rfl⟩
  · refine fin ⟨b, off, none⟩ c he fun j u hj => ?_
    rw [List.getElem?_map] at hj
    cases hr : R[j]? with
    | none => rw [hr] at hj; simp at hj
    | some y =>
      rw [hr] at hj
      simp at hj
      subst hj
      rw [Go.WideShapes.add_plain]
      exact hc j y hr
theorem wpList_append_strs {ops : Array Oper} {rest : List Oper} {o : Oper} {a : Act} {w : World} {Q : Exit → Act → World → Prop} (s x : Operand) (base : Nat) (L R : List (List UInt8)) (v xv : Value)
    (hown : OwnL 9 encS w base v L) (hR : SlS w xv R) (hlen : L.length + R.length ≤ 1000000) (hbase : base ≤ w.heap.size) (hgd : o.guard = none)
    (ho : o.op = .call { callee := .builtin .append, args := #[s, x], argTypes := #[22, 22] })
    (hs : a.eval s = v) (hx : a.eval x = xv)
    (h : ∀ v' w', OwnL 9 encS w' base v' (L ++ R) → w.grownBy w' v.ownBlock → wpList Tryd.prog ops Q rest (a.put o.dst v') w') : wpList Tryd.prog ops Q (o :: rest) a w :=
  wpList_plain hgd fun _ hK => wp_append_strs s x base L R v xv hown hR hlen hbase ho hs hx fun v' w' h1 h2 => hK _ _ (h v' w' h1 h2)
end Go.Proofs.YtgmdjbhclihflaaDoor
