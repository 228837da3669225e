/- Rows of sides; take, join, all. -/
import Derived.Test.YtgmdjbhclihflaaDoorDgR
namespace Go.Proofs.YtgmdjbhclihflaaDoor
open Go Go.RowKit Go.Lib Go.Shelf
attribute [local go_sem] Oper.semAt_some

def dCells (ws : List (List UInt8 × Bool)) : List Value := ws.flatMap fun p => [.string ⟨p.1.toArray⟩, .bool p.2]
theorem dCells_get : ∀ (ws : List (List UInt8 × Bool)) (i : Nat) (p : List UInt8 × Bool), ws[i]? = some p → (dCells ws)[i * 2]? = some (.string ⟨p.1.toArray⟩) ∧ (dCells ws)[i * 2 + 1]? = some (.bool p.2)
  | [], i, p, h => by simp at h
  | q :: ws, 0, p, h => by simp at h; subst h; exact ⟨rfl, rfl⟩
  | q :: ws, i + 1, p, h => by
    have := dCells_get ws i p (by simpa using h)
    rw [show (i + 1) * 2 = i * 2 + 1 + 1 by omega]
    exact this
def OwnD (w : World) (base : Nat) (v : Value) (ws : List (List UInt8 × Bool)) : Prop := w.ownsRow base 57 2 v ws.length (dCells ws)
theorem OwnD.nil (w : World) (base : Nat) : OwnD w base (.slice none 0 0) [] := World.ownsRow_nil _ _ _ _
theorem OwnD.below {w w' : World} {base : Nat} {v : Value} {ws : List (List UInt8 × Bool)} (h : OwnD w base v ws) (hb : Below w.heap.size w w') : OwnD w' base v ws := by
  refine ⟨h.1, ?_⟩
  rcases h.2 with h0 | ⟨g, cap, cur, hv, hbg, hg, rest⟩
  · exact .inl h0
  · exact .inr ⟨g, cap, cur, hv, hbg, (hb.block g (Array.getElem?_eq_some_iff.1 hg).1).trans hg, rest⟩
theorem OwnD.lt {w : World} {base : Nat} {v : Value} {ws : List (List UInt8 × Bool)} (h : OwnD w base v ws) : ∀ g, v.ownBlock = some g → base ≤ g ∧ g < w.heap.size := World.ownsRow.lt h
theorem OwnD.sld {w : World} {base : Nat} {v : Value} {ws : List (List UInt8 × Bool)} (h : OwnD w base v ws) : SlD w v ws := by
  rcases h.2 with ⟨rfl, hn⟩ | ⟨g, cap, cur, rfl, _, hg, hnc, _, hcs, ht⟩
  · exact .inl ⟨List.length_eq_zero_iff.1 hn, none, 0, by rfl⟩
  · refine .inr ⟨g, 0, cap, rfl, (Array.getElem?_eq_some_iff.1 hg).1, fun i p hi => ?_⟩
    obtain ⟨h1, h2⟩ := dCells_get ws i p hi
    have hget : ∀ j u, (dCells ws)[j]? = some u → w.cell? ⟨g, j, none⟩ = some u := by
      intro j u h1
      rw [← ht] at h1
      rw [cell_of_row _ _ _ _ _ _ hg, ← Array.getElem?_toList]
      rw [List.getElem?_take] at h1
      split at h1
      · exact h1
      · cases h1
    rw [Nat.zero_add]
    exact ⟨hget _ _ h1, hget _ _ h2⟩
theorem OwnD.slice {w : World} {base : Nat} {v : Value} {ws : List (List UInt8 × Bool)} (h : OwnD w base v ws) : ∃ A c, v = .slice A ws.length c := h.sld.slice
theorem wpList_append_side {ops : Array Oper} {rest : List Oper} {o : Oper} {a : Act} {w : World} {Q : Exit → Act → World → Prop} (hgd : o.guard = none) (s x : Operand)
    (ho : o.op = .call { callee := .builtin .append, args := #[s, x], argTypes := #[53, 53] }) {base : Nat} {v : Value} {ws : List (List UInt8 × Bool)}
    (hs : a.eval s = v) (hown : OwnD w base v ws) (b c : Nat) (p : List UInt8 × Bool) (hx : a.eval x = .slice (some ⟨b, 0, none⟩) 1 c) (hn0 : w.cell? ⟨b, 0, none⟩ = some (.string ⟨p.1.toArray⟩)) (hn1 : w.cell? ⟨b, 1, none⟩ = some (.bool p.2)) (hlen : ws.length ≤ 1000000) (hbase : base ≤ w.heap.size)
    (h : ∀ v' w', OwnD w' base v' (ws ++ [p]) → w.grownBy w' v.ownBlock → wpList Tryd.prog ops Q rest (a.put o.dst v') w') : wpList Tryd.prog ops Q (o :: rest) a w := by
  have hinfo : (Tryd.prog.info? 57).map (fun i => (i.zero, i.size, i.bytes)) = some (some (.agg #[.string ⟨#[]⟩, .bool false]), 2, 24) := by kernel_rfl
  obtain ⟨i0, hi, hz0, hz1, hz2⟩ := info_parts hinfo
  refine wpList_append_own_at _ hgd s x 53 ho base 57 i0 _ 2 24 Tryd.underlying53 hi hz0 hz1 hz2 rfl (by decide) v ws.length (dCells ws) hs hown ⟨b, 0, none⟩ 1 c [.string ⟨p.1.toArray⟩, .bool p.2] hx rfl (fun j u hj => ?_) (fun u hu => ?_) (by unfold maxLen; omega) (by omega) hbase fun v' w' h1 h2 _ _ => h v' w' ?_ h2
  · match j, hj with
    | 0, hj => simp at hj; subst hj; exact hn0
    | 1, hj => simp at hj; subst hj; exact hn1
    | j + 2, hj => simp at hj
  · simp at hu
    rcases hu with rfl | rfl <;> rfl
  · unfold OwnD
    rw [List.length_append, show dCells (ws ++ [p]) = dCells ws ++ [.string ⟨p.1.toArray⟩, .bool p.2] by simp [dCells]]
    exact h1
theorem take_nil (A : Option Addr) (c : Nat) (w : World) :
    Calls Tryd.prog 43 #[.slice A 0 c] w fun e w' => e = .returned (.tuple #[.string ⟨#[]⟩, .slice none 0 0, .bool false]) ∧ w = w' := by
  go_enter Tryd.func43, Tryd.ntmps43
  go_wp2_with fail
  go_ret3
  exact ⟨rfl, rfl⟩
theorem take_cons (A : Option Addr) (q n c : Nat) (xs : List (List UInt8)) (x : List UInt8) (w : World) (hv : SlS w (.slice A n c) xs) (hn : n = q + 1) (hc : n ≤ c) (hx : xs[q]? = some x) (hbig : n ≤ 10000) :
    Calls Tryd.prog 43 #[.slice A n c] w fun e w' => e = .returned (.tuple #[.string ⟨x.toArray⟩, .slice A q c, .bool true]) ∧ ∃ k, w.drewN k = w' := by
  obtain ⟨b, o, rfl, hlt, hcx⟩ := hv.get hx
  have hn0 : ((n : Int) == 0) = false := by rw [beq_eq_false_iff_ne]; omega
  have e1 : IntKind.i64.wrap ((n : Int) - 1) = (q : Int) := by rw [IntWalk.i64_in _ (by omega)]; omega
  have qc : q ≤ c := by omega
  have hqn : (q : Int) < (n : Int) := by omega
  have hqn2 : q < n := by omega
  clear hv hx hlt hn
  go_enter Tryd.func43, Tryd.ntmps43
  go_wp2_with fail
  go_quiet (fail)
  go_wp2_with fail
  go_ret3
  exact ⟨rfl, _, rfl⟩
def joinB (x : List UInt8 × Bool) (part : List UInt8) : List UInt8 := if x.2 then nodeB x.1 part else nodeB part x.1
theorem sidejoin_any (x : List UInt8 × Bool) (part : List UInt8) (w : World) (h1 : x.1.length ≤ 10000) (h2 : part.length ≤ 10000) (hK : KAt w) :
    Calls Tryd.prog 45 #[.agg #[.string ⟨x.1.toArray⟩, .bool x.2], .string ⟨part.toArray⟩] w fun e w' => e = .returned (.string ⟨(joinB x part).toArray⟩) ∧ Below w.heap.size w w' := by
  obtain ⟨s, f⟩ := x
  have b1 : Below w.heap.size w (w.alloc (.cells #[.string ⟨s.toArray⟩, .bool f] 57)) := (Below.refl _ _).alloc (Nat.le_refl _) _
  have r1 := RowAt.new w 57 #[.string ⟨s.toArray⟩, .bool f]
  have c0 := r1.cell 0
  have c1 := r1.cell 1
  replace c0 : (w.alloc (.cells #[.string ⟨s.toArray⟩, .bool f] 57)).cell? ⟨w.heap.size, 0, none⟩ = some (.string ⟨s.toArray⟩) := c0
  replace c1 : (w.alloc (.cells #[.string ⟨s.toArray⟩, .bool f] 57)).cell? ⟨w.heap.size, 1, none⟩ = some (.bool f) := c1
  have N1 := Lib.hid (node_any s part _ (by simp at h1; omega) (by omega) (hK.below b1))
  have N2 := Lib.hid (node_any part s _ (by omega) (by simp at h1; omega) (hK.below b1))
  have HB := Lib.hid b1
  clear b1 r1 h1 h2 hK
  go_enter Tryd.func45, Tryd.ntmps45
  cases f with
  | true =>
    go_wp2_with fail
    refine N1.out.mono ?_
    rintro e w' ⟨rfl, hx⟩
    have HX := Lib.hid hx
    clear hx
    go_wp2_with fail
    go_ret
    exact ⟨rfl, HB.out.trans (HX.out.mono HB.out.size)⟩
  | false =>
    go_wp2_with fail
    refine N2.out.mono ?_
    rintro e w' ⟨rfl, hx⟩
    have HX := Lib.hid hx
    clear hx
    go_wp2_with fail
    go_ret
    exact ⟨rfl, HB.out.trans (HX.out.mono HB.out.size)⟩
theorem isdigest_any (s : List UInt8) (w : World) :
    Calls Tryd.prog 46 #[.string ⟨s.toArray⟩] w fun e w' => e = .returned (.bool (s.length == 32)) ∧ w = w' := by
  go_enter Tryd.func46, Tryd.ntmps46
  go_wp2_with fail
  go_ret
  refine ⟨?_, rfl⟩
  show Ending.returned (.bool (((s.length : Nat) : Int) == 32)) = _
  congr 2
  rw [Bool.eq_iff_iff]
  simp
  omega
theorem odd_any (s : List UInt8) (w : World) :
    Calls Tryd.prog 55 #[.string ⟨s.toArray⟩] w fun e w' => e = .returned (.bool (!(s.length == 32))) ∧ w = w' := by
  have I := Lib.hid (isdigest_any s w)
  go_enter Tryd.func55, Tryd.ntmps55
  go_wp2_with fail
  refine I.out.mono ?_
  rintro e w' ⟨rfl, rfl⟩
  go_wp2_with fail
  go_ret
  exact ⟨rfl, rfl⟩
def allD (xs : List (List UInt8)) : Bool := xs.all (·.length == 32)
set_option maxRecDepth 100000 in
set_option maxHeartbeats 2000000 in
theorem index_any (v : Value) (xs : List (List UInt8)) (w : World) (hv : SlS w v xs) (hbig : xs.length ≤ 10000) :
    Calls Tryd.prog 67 #[v, .func (.func 55) #[] #[]] w fun e w' => ∃ k : Int, e = .returned (.int .i64 k) ∧ decide (0 ≤ k) = !(allD xs) ∧ w = w' := by
  obtain ⟨A, c, rfl⟩ := hv.slice
  obtain ⟨n, hn⟩ : ∃ n, xs.length = n := ⟨_, rfl⟩
  rw [hn] at hv hbig ⊢
  have HV := Lib.hid hv
  have HN := Lib.hid hn
  clear hv hn
  go_enter Tryd.func67, Tryd.ntmps67
  go_wp2_with fail
  go_loopw [8] (fun v8 wr => ∃ i : Nat, v8 = .int .i64 i ∧ i ≤ n ∧ Hid (allD (xs.take i) = true) ∧ wr = w) (fun v8 _ => n - (RowKit.intOf v8).toNat)
  case atStart => exact ⟨0, rfl, by omega, Lib.hid rfl, rfl⟩
  case round =>
    obtain ⟨i, rfl, hi, HS, rfl⟩ := hrel
    by_cases hi2 : i < n
    · obtain ⟨x, hx⟩ : ∃ x, xs[i]? = some x := ⟨_, List.getElem?_eq_getElem (by rw [HN.out]; exact hi2)⟩
      obtain ⟨b, o, hA, hlt, hcx⟩ := HV.out.get hx
      subst hA
      have O := Lib.hid (odd_any x wr)
      have HX := Lib.hid hx
      clear hx hlt
      by_cases h32 : x.length == 32
      · rw [h32] at O
        have HS2 : Hid (allD (xs.take (i + 1)) = true) := Lib.hid (by
          rw [List.take_add_one, HX.out]
          unfold allD
          rw [List.all_append, show (xs.take i).all (·.length == 32) = true from HS.out]
          simp [h32])
        clear h32
        go_wp2_with fail
        refine O.out.mono ?_
        rintro e w' ⟨rfl, rfl⟩
        go_wp2_with fail
        go_roundw
        case rel => exact ⟨i + 1, by go_num, by omega, HS2, trivial⟩
        case measure => simp [RowKit.intOf]; omega
      · have h32' : (x.length == 32) = false := by simpa using h32
        rw [h32'] at O
        have HS2 : Hid (allD xs = false) := Lib.hid (by
          unfold allD
          rw [List.all_eq_false]
          exact ⟨x, List.mem_of_getElem? HX.out, by simp [h32']⟩)
        clear h32 h32'
        go_wp2_with fail
        refine O.out.mono ?_
        rintro e w' ⟨rfl, rfl⟩
        go_wp2_with fail
        go_ret
        exact ⟨_, rfl, by rw [HS2.out]; simp, rfl⟩
    · have hin : i = n := by omega
      have hs := HS.out
      rw [hin, List.take_of_length_le (by rw [HN.out]; omega)] at hs
      have HS2 := Lib.hid hs
      clear hs HS hin
      go_wp2_with fail
      go_ret
      exact ⟨_, rfl, by rw [HS2.out]; simp, rfl⟩
theorem all_any (v : Value) (xs : List (List UInt8)) (w : World) (hv : SlS w v xs) (hbig : xs.length ≤ 10000) :
    Calls Tryd.prog 42 #[v] w fun e w' => e = .returned (.bool (allD xs)) ∧ w = w' := by
  have I := Lib.hid (index_any v xs w hv hbig)
  obtain ⟨A, c, rfl⟩ := hv.slice
  have C : Hid (Calls Tryd.prog 56 #[.slice A xs.length c, .func (.func 55) #[] #[]] w fun e w' => e = .returned (.bool (!(allD xs))) ∧ w = w') := Lib.hid (by
    clear hv hbig
    go_enter Tryd.func56, Tryd.ntmps56
    go_wp2_with fail
    refine I.out.mono ?_
    rintro e w' ⟨k, rfl, hk, rfl⟩
    go_wp2_with fail
    go_ret
    exact ⟨by rw [← hk]; rfl, rfl⟩)
  clear hv hbig
  go_enter Tryd.func42, Tryd.ntmps42
  go_wp2_with fail
  refine C.out.mono ?_
  rintro e w' ⟨rfl, rfl⟩
  go_wp2_with fail
  go_ret
  refine ⟨?_, rfl⟩
  cases allD xs <;> rfl
end Go.Proofs.YtgmdjbhclihflaaDoor
