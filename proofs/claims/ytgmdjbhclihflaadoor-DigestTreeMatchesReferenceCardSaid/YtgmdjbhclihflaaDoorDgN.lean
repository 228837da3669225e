/- Root. -/
import Derived.Test.YtgmdjbhclihflaaDoorDgM
namespace Go.Proofs.YtgmdjbhclihflaaDoor
open Go Go.RowKit Go.Lib Go.Shelf
attribute [local go_sem] Oper.semAt_some

def leafB (s : List UInt8) : List UInt8 := shaB (0 :: s)
def nodeB (a b : List UInt8) : List UInt8 := shaB (1 :: (a ++ b))
def chainB (a b : List UInt8) : List UInt8 := shaB (2 :: (a ++ b))
/-- complete parts of equal size become one; the last part comes first -/
def mergeS : List (Nat × List UInt8) → List (Nat × List UInt8)
  | p :: q :: r => if p.1 = q.1 then mergeS ((2 * p.1, nodeB q.2 p.2) :: r) else p :: q :: r
  | st => st
  termination_by st => st.length
def pushS (st : List (Nat × List UInt8)) (s : List UInt8) : List (Nat × List UInt8) := mergeS ((1, leafB s) :: st)
def stackS (l : List (List UInt8)) : List (Nat × List UInt8) := l.foldl pushS []
/-- the parts from the last one on are joined -/
def joinS : List (Nat × List UInt8) → List UInt8
  | [] => shaB []
  | p :: r => r.foldl (fun o q => nodeB q.2 o) p.2
theorem mergeS_eq (p q : Nat × List UInt8) (r : List (Nat × List UInt8)) : mergeS (p :: q :: r) = if p.1 = q.1 then mergeS ((2 * p.1, nodeB q.2 p.2) :: r) else p :: q :: r := by rw [mergeS]
theorem mergeS_one (p : Nat × List UInt8) : mergeS [p] = [p] := by rw [mergeS]; intro p q r h; simp at h
def AllD (st : List (Nat × List UInt8)) : Prop := ∀ p ∈ st, p.2.length = 32
theorem mergeS_d : ∀ (n : Nat) (st : List (Nat × List UInt8)), st.length ≤ n → AllD st → AllD (mergeS st) := by
  intro n
  induction n with
  | zero => intro st h hd; rw [List.length_eq_zero_iff.1 (show st.length = 0 by omega), mergeS]; · intro p hp; simp at hp
            · intro p q r h; simp at h
  | succ n ih =>
    intro st h hd
    match st, h, hd with
    | [], _, hd => rw [mergeS]; · exact hd
                   · intro p q r h; simp at h
    | [p], _, hd => rw [mergeS_one]; exact hd
    | p :: q :: r, h, hd =>
      rw [mergeS_eq]
      split
      · refine ih _ (by simp at h ⊢; omega) fun x hx => ?_
        rcases List.mem_cons.1 hx with rfl | hx
        · exact shaB_len _
        · exact hd x (by simp [hx])
      · exact hd
theorem mergeS_len : ∀ (n : Nat) (st : List (Nat × List UInt8)), st.length ≤ n → (mergeS st).length ≤ st.length := by
  intro n
  induction n with
  | zero => intro st h; rw [List.length_eq_zero_iff.1 (show st.length = 0 by omega), mergeS]; · exact Nat.le_refl _
            · intro p q r h; simp at h
  | succ n ih =>
    intro st h
    match st, h with
    | [], _ => rw [mergeS]; · exact Nat.le_refl _
               · intro p q r h; simp at h
    | [p], _ => rw [mergeS_one]; exact Nat.le_refl _
    | p :: q :: r, h =>
      rw [mergeS_eq]
      split
      · have := ih ((2 * p.1, nodeB q.2 p.2) :: r) (by simp at h ⊢; omega)
        simp at this ⊢
        omega
      · exact Nat.le_refl _
def sumS (st : List (Nat × List UInt8)) : Nat := (st.map (·.1)).sum
theorem mergeS_sum : ∀ (n : Nat) (st : List (Nat × List UInt8)), st.length ≤ n → sumS (mergeS st) = sumS st := by
  intro n
  induction n with
  | zero => intro st h; rw [List.length_eq_zero_iff.1 (show st.length = 0 by omega), mergeS]
            · intro p q r h; simp at h
  | succ n ih =>
    intro st h
    match st, h with
    | [], _ => rw [mergeS]
               · intro p q r h; simp at h
    | [p], _ => rw [mergeS_one]
    | p :: q :: r, h =>
      rw [mergeS_eq]
      split
      · rw [ih _ (by simp at h ⊢; omega)]
        simp [sumS]
        omega
      · rfl
/-- the stack in memory -/
structure StkAt (w : World) (wr : World) (vw vs : Value) (st : List (Nat × List UInt8)) : Prop where
  own1 : OwnL 9 encS wr w.heap.size vw (st.reverse.map (·.2))
  own2 : OwnL 3 encN wr w.heap.size vs (st.reverse.map (·.1))
  below : Below w.heap.size w wr
  digs : AllD st
/-- the same while equal parts are joined -/
structure MrgAt (w : World) (wr : World) (vw vs : Value) (st st1 : List (Nat × List UInt8)) (i : Nat) : Prop where
  stk : StkAt w wr vw vs st
  eq : mergeS st = mergeS st1
  len : st.length ≤ i + 1
  tot : sumS st ≤ i + 1
theorem last2 {α : Type} (r : List α) (x y : α) : (r.reverse ++ [y, x])[r.length]? = some y ∧ (r.reverse ++ [y, x])[r.length + 1]? = some x ∧ (r.reverse ++ [y, x]).take r.length = r.reverse := by
  have h : r.reverse.length = r.length := List.length_reverse
  refine ⟨?_, ?_, ?_⟩
  · rw [List.getElem?_append_right (by omega), h, Nat.sub_self]; rfl
  · rw [List.getElem?_append_right (by omega), h, Nat.add_sub_cancel_left]; rfl
  · rw [← h]; exact List.take_left
theorem row_set {w : World} {b : Nat} {T : TypeId} {u : Value} (h : RowAt w b T #[u]) (v : Value) : RowAt (w.setCell ⟨b, 0, none⟩ v) b T #[v] := by
  have h' : w.heap[b]? = some (.cells #[u] T (0, 0)) := h
  show (w.setCell ⟨b, 0, none⟩ v).heap[b]? = some (.cells #[v] T (0, 0))
  simp [World.setCell, Array.getElem?_modify, h']
theorem fold_len : ∀ (r : List (Nat × List UInt8)) (o : List UInt8), o.length = 32 → (r.foldl (fun o q => nodeB q.2 o) o).length = 32 := by
  intro r
  induction r with
  | nil => intro o h; exact h
  | cons p r ih => intro o h; exact ih _ (shaB_len _)
theorem rev_get (r : List (Nat × List UInt8)) {k j : Nat} {y : List UInt8} (h : (r.reverse.map (·.2))[j]? = some y) (e : k + j + 1 = r.length) : ∃ p, r[k]? = some p ∧ p.2 = y := by
  rw [List.getElem?_map, List.getElem?_reverse (by omega), show r.length - 1 - j = k by omega] at h
  cases hp : r[k]? with
  | none => rw [hp] at h; simp at h
  | some p => rw [hp] at h; exact ⟨p, rfl, by simpa using h⟩
theorem fold_succ (r : List (Nat × List UInt8)) (o : List UInt8) {k : Nat} {p : Nat × List UInt8} (h : r[k]? = some p) : (r.take (k + 1)).foldl (fun o q => nodeB q.2 o) o = nodeB p.2 ((r.take k).foldl (fun o q => nodeB q.2 o) o) := by
  rw [List.take_add_one, h, List.foldl_append]; rfl
set_option maxRecDepth 100000 in
set_option maxHeartbeats 4000000 in
theorem root_any (v : Value) (xs : List (List UInt8)) (w : World) (hv : SlS w v xs) (hn : xs.length ≤ 10000) (hx : ∀ x ∈ xs, x.length ≤ 10000) (hK : KAt w) :
    Calls Tryd.prog 18 #[v] w fun e w' => e = .returned (.string ⟨(joinS (stackS xs)).toArray⟩) ∧ Below w.heap.size w w' := by
  obtain ⟨R, hR⟩ : ∃ R, joinS (stackS xs) = R := ⟨_, rfl⟩
  rw [hR]
  have HR := Lib.hid hR
  have HV := Lib.hid hv
  have HX := Lib.hid hx
  have HK := Lib.hid hK
  obtain ⟨A, c, rfl⟩ := hv.slice
  obtain ⟨n, hnn⟩ : ∃ n, xs.length = n := ⟨_, rfl⟩
  rw [hnn] at HV hn ⊢
  have HN := Lib.hid hnn
  clear hR hv hx hK hnn
  refine (callsIn_wide (n := 9)).1 (callsIn_of_wp_marks Tryd.func18 rfl trivial ?_ rfl)
  simp only [Tryd.ntmps18, List.size_toArray, List.length_cons, List.length_nil, Nat.reduceAdd, Nat.reduceSub, Array.replicate_succ, Array.replicate_zero, List.push_toArray, List.append_toArray, List.nil_append, List.cons_append]
  refine wpIn_wide.2 ?_
  go_wp2_with fail
  go_loopw [3, 4, 13] (fun vw vs iv wr => ∃ i : Nat, i ≤ n ∧ iv = .int .i64 i ∧ Hid (StkAt w wr vw vs (stackS (xs.take i)) ∧ (stackS (xs.take i)).length ≤ i ∧ sumS (stackS (xs.take i)) ≤ i)) (fun _ _ i _ => n - (RowKit.intOf i).toNat)
  case atStart => exact ⟨0, by omega, rfl, Lib.hid ⟨⟨OwnL.nil, OwnL.nil, Below.refl _ _, fun p hp => by simp [stackS] at hp⟩, by simp [stackS], by simp [stackS, sumS]⟩⟩
  case round =>
    obtain ⟨i, hi, rfl, HS⟩ := hrel
    obtain ⟨vw, hvw⟩ : ∃ z, z = u3 := ⟨_, rfl⟩
    obtain ⟨vs, hvs⟩ : ∃ z, z = u4 := ⟨_, rfl⟩
    subst hvw hvs
    by_cases hi2 : i < n
    · obtain ⟨x, hx⟩ : ∃ x, xs[i]? = some x := ⟨_, List.getElem?_eq_getElem (by rw [HN.out]; exact hi2)⟩
      obtain ⟨b, o, hA, hlt, hcx⟩ := HV.out.get hx
      subst hA
      have cx := (HS.out.1.below.cell (p := ⟨b, o + i, none⟩) hlt).trans hcx
      have HXX := Lib.hid hx
      have LF := Lib.hid (leaf_any x wr (by have := HX.out x (List.mem_of_getElem? hx); omega) (HK.out.below HS.out.1.below))
      clear hx hcx hlt
      obtain ⟨d, hd⟩ : ∃ d, shaB (0 :: x) = d := ⟨_, rfl⟩
      rw [hd] at LF
      have HD := Lib.hid hd
      clear hd
      go_wp2_with fail
      refine LF.out.mono ?_
      rintro e w1 ⟨rfl, hx1⟩
      have H1 := Lib.hid (And.intro (HS.out.1.own1.below hx1) (And.intro (HS.out.1.own2.below hx1) (HS.out.1.below.trans (hx1.mono HS.out.1.below.size))))
      clear hx1 cx LF
      go_wp2_with (first | ((with_reducible refine wpList_stop (o := ⟨some 21, _, _, _, _, _⟩) ?_)))
      unfold Stop
      have ba1 : Below w1.heap.size w1 (w1.alloc (.cells #[.string ⟨d.toArray⟩] 9)) := (Below.refl _ _).alloc (Nat.le_refl _) _
      have o1 := H1.out.1.below ba1
      have o2 := H1.out.2.1.below ba1
      have o3 := H1.out.2.2.trans (ba1.mono H1.out.2.2.size)
      have hsl : (stackS (xs.take i)).length ≤ 10000 := by have := HS.out.2.1; omega
      refine wpList_append_one rfl (.tmp 17) (.tmp 20) 22 rfl Tryd.underlying22 string_info rfl (by decide) rfl o1 w1.heap.size 1 d rfl rfl ?_ ?_ ?_ (fun v3 w3 hown hg => ?_)
      · rw [(RowAt.new w1 9 _).cell 0]; rfl
      · simp; omega
      · exact o3.size
      have H3 := Lib.hid (And.intro hown (And.intro (o2.grown hg (o2.ne o1 (by decide))) (o3.grown hg o3.size (fun j e => (o1.lt j e).1))))
      clear hown hg o1 o2 o3 ba1 H1
      go_wp2_with (first | ((with_reducible refine wpList_stop (o := ⟨some 24, _, _, _, _, _⟩) ?_)))
      unfold Stop
      have ba1 : Below w3.heap.size w3 (w3.alloc (.cells #[.int .i64 1] 3)) := (Below.refl _ _).alloc (Nat.le_refl _) _
      have o1 := H3.out.1.below ba1
      have o2 := H3.out.2.1.below ba1
      have o3 := H3.out.2.2.trans (ba1.mono H3.out.2.2.size)
      refine wpList_append_one rfl (.tmp 22) (.tmp 23) 48 rfl Tryd.underlying48 int_info rfl (by decide) rfl o2 w3.heap.size 1 1 rfl rfl ?_ ?_ ?_ (fun v4 w4 hown hg => ?_)
      · rw [(RowAt.new w3 3 _).cell 0]; rfl
      · simp; omega
      · exact o3.size
      have h4 : StkAt w w4 v3 v4 ((1, d) :: stackS (xs.take i)) := ⟨by simpa using o1.grown hg (o1.ne o2 (by decide)), by simpa using hown, o3.grown hg o3.size (fun j e => (o2.lt j e).1), fun p hp => by
        rcases List.mem_cons.1 hp with rfl | hp
        · rw [← HD.out]; exact shaB_len _
        · exact HS.out.1.digs p hp⟩
      have hst : stackS (xs.take (i + 1)) = mergeS ((1, d) :: stackS (xs.take i)) := by
        rw [List.take_add_one, HXX.out]
        unfold stackS
        rw [List.foldl_append]
        show pushS _ x = _
        unfold pushS leafB
        rw [HD.out]
      obtain ⟨st1, hst1⟩ : ∃ z, (1, d) :: stackS (xs.take i) = z := ⟨_, rfl⟩
      have hl1 : st1.length ≤ i + 1 := by rw [← hst1, List.length_cons]; have := HS.out.2.1; omega
      have ht1 : sumS st1 ≤ i + 1 := by have h := HS.out.2.2; rw [← hst1]; unfold sumS at h ⊢; rw [List.map_cons, List.sum_cons]; omega
      rw [hst1] at h4 hst
      obtain ⟨A4, c4, hv4, _⟩ := h4.own2.slice
      rw [List.length_map, List.length_reverse] at hv4
      obtain ⟨m1, hm1⟩ : ∃ m, st1.length = m := ⟨_, rfl⟩
      rw [hm1] at hv4
      subst hv4
      have H4 : Hid (MrgAt w w4 v3 (.slice A4 m1 c4) st1 st1 i) := Lib.hid ⟨h4, rfl, hl1, ht1⟩
      have HST := Lib.hid hst
      have HM1 := Lib.hid hm1
      clear hown hg o1 o2 o3 ba1 H3 h4 hst hst1 hl1 ht1 hm1 hsl HS
      go_wp2_with fail
      go_loopw [3, 4, 7] (fun vw vs kv wr => ∃ (m : Nat) (st : List (Nat × List UInt8)), st.length = m ∧ kv = .int .i64 m ∧ Hid (MrgAt w wr vw vs st st1 i)) (fun _ _ k _ => (RowKit.intOf k).toNat)
      case atStart => exact ⟨m1, st1, HM1.out, rfl, H4⟩
      case round =>
        obtain ⟨m, st, hm, rfl, HS⟩ := hrel
        obtain ⟨A5, c5, hv5, hc5⟩ := HS.out.stk.own1.slice
        obtain ⟨A6, c6, hv6, hc6⟩ := HS.out.stk.own2.slice
        rw [List.length_map, List.length_reverse, hm] at hv5 hv6 hc5 hc6
        subst hv5 hv6
        by_cases hm2 : 1 < m
        · match st, hm, HS with
          | [], hm, _ => exfalso; simp at hm; omega
          | [p], hm, _ => exfalso; simp at hm; omega
          | (a, x5) :: (b5, x6) :: r, hm, HS =>
            obtain ⟨q, hq⟩ : ∃ q, r.length = q := ⟨_, rfl⟩
            obtain ⟨q1, hq1⟩ : ∃ q1, q + 1 = q1 := ⟨_, rfl⟩
            have hmq : m = q + 2 := by rw [← hm, List.length_cons, List.length_cons, hq]
            have o1 := HS.out.stk.own1
            have o2 := HS.out.stk.own2
            have hd5 := HS.out.stk.digs (a, x5) (by simp)
            have hd6 := HS.out.stk.digs (b5, x6) (by simp)
            dsimp only at hd5 hd6
            have l1 := last2 (r.map (·.2)) x5 x6
            have l2 := last2 (r.map (·.1)) a b5
            rw [List.length_map, hq, ← List.map_reverse] at l1 l2
            have r1 : (((a, x5) :: (b5, x6) :: r).reverse.map (·.2)) = r.reverse.map (·.2) ++ [x6, x5] := by simp
            have r2 : (((a, x5) :: (b5, x6) :: r).reverse.map (·.1)) = r.reverse.map (·.1) ++ [b5, a] := by simp
            rw [r1] at o1
            rw [r2] at o2
            obtain ⟨g5, hA5, hg1, hg2, c50, -⟩ := o1.get l1.1
            obtain ⟨g6, hA6, hg3, hg4, c60, -⟩ := o2.get l2.1
            subst hA5 hA6
            obtain ⟨_, h5, _, _, c51, -⟩ := o1.get l1.2.1
            obtain ⟨_, h6, _, _, c61, -⟩ := o2.get l2.2.1
            cases h5
            cases h6
            rw [hq1] at c51 c61
            unfold encS at c50 c51
            unfold encN at c60 c61
            have e2 : IntKind.i64.wrap ((m : Int) - 2) = (q : Int) := by rw [IntWalk.i64_in _ (by have := HS.out.len; omega)]; omega
            have e1 : IntKind.i64.wrap ((m : Int) - 1) = (q1 : Int) := by rw [IntWalk.i64_in _ (by have := HS.out.len; omega)]; omega
            have b2 : (q : Int) < (m : Int) := by omega
            have b1 : (q1 : Int) < (m : Int) := by omega
            have hm2i : decide (1 < (m : Int)) = true := by simp; omega
            have HO1 := Lib.hid o1
            have HO2 := Lib.hid o2
            have HL := Lib.hid (And.intro l1.2.2 l2.2.2)
            have HL2 := Lib.hid l2.2.1
            have HL3 := Lib.hid l2.2.2
            have HQ := Lib.hid (And.intro hq (And.intro hq1 hmq))
            have HQC := Lib.hid (show q ≤ m from by omega)
            have HG := Lib.hid (And.intro hg1 hg3)
            have HDD := Lib.hid (And.intro hd5 hd6)
            have qc5 : q ≤ c5 := by omega
            have qc6 : q ≤ c6 := by omega
            clear l1 l2 r1 r2 o1 o2 hm hq hq1 hmq hd5 hd6 hg1 hg2 hg3 hg4 hc5 hc6
            by_cases hab : a = b5
            · subst hab
              go_wp2_with fail
              go_quiet (fail)
              go_wp2_with fail
              obtain ⟨W6, hW6⟩ : ∃ z, wr.drewN nq = z := ⟨_, rfl⟩
              have bW : Below wr.heap.size wr W6 := by rw [← hW6]; exact below_drewN (Below.refl _ _) _
              have d50 : W6.cell? ⟨g5, q, none⟩ = some (.string ⟨x6.toArray⟩) := by rw [← hW6]; exact c50
              have d51 : W6.cell? ⟨g5, q1, none⟩ = some (.string ⟨x5.toArray⟩) := by rw [← hW6]; exact c51
              have o1 := HO1.out.below bW
              have o2 := HO2.out.below bW
              have ow := HS.out.stk.below.trans (bW.mono HS.out.stk.below.size)
              have ND := Lib.hid (fun W (hb : Below W6.heap.size W6 W) => node_any x6 x5 W (by have := HDD.out; omega) (by have := HDD.out; omega) (HK.out.below (ow.trans (hb.mono ow.size))))
              obtain ⟨dd, hdd⟩ : ∃ z, shaB (1 :: (x6 ++ x5)) = z := ⟨_, rfl⟩
              rw [hdd] at ND
              have HDN := Lib.hid hdd
              have HW := Lib.hid (And.intro o1 (And.intro o2 ow))
              rw [hW6]
              clear hW6 c50 c51 c60 c61 bW o1 o2 ow hdd
              have hmi : m ≤ 1000000 := by have h := HS.out.len; simp only [List.length_cons] at h; have := HQ.out; omega
              refine wp_region_noPanic ?_
              go_region_law (first | (refine step_append_one rfl (.tmp 47) (.tmp 59) 22 rfl Tryd.underlying22 string_info rfl (by decide) rfl (((HW.out.1.take q HQC.out).below hb7).below ((Below.refl _ _).alloc (Nat.le_refl _) _)) w7.heap.size 1 dd rfl rfl (by rw [(RowAt.new w7 9 _).cell 0]; rfl) (by rw [List.length_take]; omega) (by have := hb7.size; have := HW.out.2.2.size; simp; omega) ?_; intro v8 w8 hown8 hg8) | (go_simp; go_at_call 29; (with_reducible refine (ND.out _ (Below.refl _ _).drew).mono ?_); rintro e w7 ⟨rfl, hx7⟩; have hb7 : Below W6.heap.size W6 w7 := (Below.refl _ _).drew.trans hx7; go_wp2_with fail))
              all_goals
                refine NoPanic.normal ?_
                simp only [Act.put, List.getElem_toArray, List.getElem_cons_zero, List.getElem_cons_succ, List.setIfInBounds_toArray, List.set_cons_zero, List.set_cons_succ]
                have bA : Below W6.heap.size W6 (w7.alloc (.cells #[.string ⟨dd.toArray⟩] 9)) := hb7.trans (((Below.refl _ _).alloc (Nat.le_refl _) _).mono hb7.size)
                have oT := (HW.out.1.take q HQC.out).below bA
                have o2 := (HW.out.2.1.below bA).grown hg8 ((HW.out.2.1.below bA).ne oT (by decide))
                have ow := (HW.out.2.2.trans (bA.mono HW.out.2.2.size)).grown hg8 (Nat.le_trans HW.out.2.2.size bA.size) (fun j e => (oT.lt j e).1)
                rw [HL.out.1] at hown8
                have HO8 := Lib.hid (And.intro hown8 (And.intro o2 ow))
                obtain ⟨_, h6, _, _, k61, -⟩ := o2.get HL2.out
                cases h6
                rw [HQ.out.2.1] at k61
                unfold encN at k61
                have ht := HS.out.tot
                simp only [sumS, List.map_cons, List.sum_cons] at ht
                obtain ⟨a2, ha2⟩ : ∃ z, 2 * a = z := ⟨_, rfl⟩
                have e3 : IntKind.i64.wrap (a2 : Int) = (a2 : Int) := by rw [IntWalk.i64_in _ (by omega)]
                have e4 : 2 * (a : Int) = (a2 : Int) := by omega
                have HA2 := Lib.hid ha2
                have HMI := Lib.hid hmi
                obtain ⟨A8, m8, c8, hv8, hc8⟩ : ∃ A m c, v8 = .slice A m c ∧ m = q + 1 := by
                  obtain ⟨A, c, h, _⟩ := hown8.slice
                  exact ⟨A, _, c, h, by rw [List.length_append, List.length_map, List.length_reverse, HQ.out.1]; rfl⟩
                subst hv8
                clear hown8 hg8 o2 ow oT bA d50 d51 hx7 hb7 HW ND ht ha2 hmi hc8
                go_wp2_with fail
                refine wp_region_noPanic ?_
                go_region_law (refine step_append_one rfl (.tmp 64) (.tmp 71) 48 rfl Tryd.underlying48 int_info rfl (by decide) rfl ((HO8.out.2.1.take q HQC.out).below ((Below.refl _ _).alloc (Nat.le_refl _) _).drew) w8.heap.size 1 a2 rfl rfl (by rw [((RowAt.new w8 3 _).drew).cell 0]; rfl) (by rw [List.length_take]; have := HMI.out; omega) (by have := HO8.out.2.2.size; simp; omega) ?_; intro v9 w9 hown9 hg9)
                refine NoPanic.normal ?_
                simp only [Act.put, List.getElem_toArray, List.getElem_cons_zero, List.getElem_cons_succ, List.setIfInBounds_toArray, List.set_cons_zero, List.set_cons_succ]
                have bB : Below w8.heap.size w8 ((w8.alloc (.cells #[.int .i64 a2] 3)).drew) := ((Below.refl _ _).alloc (Nat.le_refl _) _).drew
                have oT := (HO8.out.2.1.take q HQC.out).below bB
                have o1 := (HO8.out.1.below bB).grown hg9 ((HO8.out.1.below bB).ne oT (by decide))
                have ow := (HO8.out.2.2.trans (bB.mono HO8.out.2.2.size)).grown hg9 (Nat.le_trans HO8.out.2.2.size bB.size) (fun j e => (oT.lt j e).1)
                rw [HL3.out] at hown9
                have hend : MrgAt w w9 (.slice A8 m8 c8) v9 ((2 * a, dd) :: r) st1 i := by
                  refine ⟨⟨by simpa using o1, by rw [HA2.out]; simpa using hown9, ow, fun p hp => ?_⟩, ?_, ?_, ?_⟩
                  · rcases List.mem_cons.1 hp with rfl | hp
                    · rw [← HDN.out]; exact shaB_len _
                    · exact HS.out.stk.digs p (by simp [hp])
                  · have h := HS.out.eq
                    rw [mergeS_eq, if_pos rfl] at h
                    rw [← HDN.out]
                    exact h
                  · have h := HS.out.len
                    simp only [List.length_cons] at h ⊢
                    omega
                  · have h := HS.out.tot
                    simp only [sumS, List.map_cons, List.sum_cons] at h ⊢
                    omega
                obtain ⟨A9, m9, c9, hv9⟩ : ∃ A m c, v9 = .slice A m c := by
                  obtain ⟨A, c, h, _⟩ := hown9.slice
                  exact ⟨A, _, c, h⟩
                subst hv9
                have HEND := Lib.hid hend
                have HLN := Lib.hid (show ((2 * a, dd) :: r).length = q1 by rw [List.length_cons, HQ.out.1, HQ.out.2.1])
                have HQ1 := Lib.hid (show (m : Int) - 1 = (q1 : Int) ∧ q1 < m by have := HQ.out; omega)
                clear hown9 hg9 o1 oT ow bB hend HO8 k61 e3 e4
                go_wp2_with fail
                go_roundw
                case rel => exact ⟨q1, _, HLN.out, by have := HQ1.out; congr 1, HEND⟩
                case measure => have := HQ1.out; simp [RowKit.intOf]; omega
            · have eab : ((b5 : Int) == (a : Int)) = false := by rw [beq_eq_false_iff_ne]; omega
              have hfix : stackS (xs.take (i + 1)) = (a, x5) :: (b5, x6) :: r := by
                rw [HST.out, ← HS.out.eq, mergeS_eq, if_neg hab]
              have HEND : Hid (∀ k, StkAt w (wr.drewN k) (.slice (some ⟨g5, 0, none⟩) m c5) (.slice (some ⟨g6, 0, none⟩) m c6) (stackS (xs.take (i + 1))) ∧ (stackS (xs.take (i + 1))).length ≤ i + 1 ∧ sumS (stackS (xs.take (i + 1))) ≤ i + 1) := Lib.hid (fun k => by
                have bk : Below wr.heap.size wr (wr.drewN k) := below_drewN (Below.refl _ _) k
                rw [hfix]
                exact ⟨⟨HS.out.stk.own1.below bk, HS.out.stk.own2.below bk, HS.out.stk.below.trans (bk.mono HS.out.stk.below.size), HS.out.stk.digs⟩, HS.out.len, HS.out.tot⟩)
              clear hfix hab c50 c51 HS
              go_wp2_with fail
              go_quiet (fail)
              go_wp2_with fail
              go_roundw
              case rel => exact ⟨i + 1, by omega, by go_num, Lib.hid (HEND.out _)⟩
              case measure => simp [RowKit.intOf]; omega
        · have hm2i : decide (1 < (m : Int)) = false := by simp; omega
          have hfix : stackS (xs.take (i + 1)) = st := by
            rw [HST.out, ← HS.out.eq]
            match st, hm with
            | [], _ => rw [mergeS]; intro p q r h; simp at h
            | [p], _ => rw [mergeS_one]
            | p :: q :: r, hm => exfalso; simp at hm; omega
          have HEND : Hid (∀ k, StkAt w (wr.drewN k) (.slice A5 m c5) (.slice A6 m c6) (stackS (xs.take (i + 1))) ∧ (stackS (xs.take (i + 1))).length ≤ i + 1 ∧ sumS (stackS (xs.take (i + 1))) ≤ i + 1) := Lib.hid (fun k => by
            have bk : Below wr.heap.size wr (wr.drewN k) := below_drewN (Below.refl _ _) k
            rw [hfix]
            exact ⟨⟨HS.out.stk.own1.below bk, HS.out.stk.own2.below bk, HS.out.stk.below.trans (bk.mono HS.out.stk.below.size), HS.out.stk.digs⟩, HS.out.len, HS.out.tot⟩)
          clear hfix hm2 hm hc5 hc6 HS
          go_wp2_with fail
          go_quiet (fail)
          go_wp2_with fail
          go_roundw
          case rel => exact ⟨i + 1, by omega, by go_num, Lib.hid (HEND.out _)⟩
          case measure => simp [RowKit.intOf]; omega
    · have hin : i = n := by omega
      have hs := HS.out.1
      rw [hin, List.take_of_length_le (by rw [HN.out]; omega)] at hs
      have hl := HS.out.2.1
      rw [hin, List.take_of_length_le (by rw [HN.out]; omega)] at hl
      obtain ⟨st, hst⟩ : ∃ z, stackS xs = z := ⟨_, rfl⟩
      rw [hst] at hs hl
      have hres : joinS st = R := by rw [← hst]; exact HR.out
      have HRES := Lib.hid hres
      have H5 := Lib.hid hs
      obtain ⟨A5, c5, hv5, hc5⟩ := hs.own1.slice
      rw [List.length_map, List.length_reverse] at hv5 hc5
      obtain ⟨m, hm⟩ : ∃ m, st.length = m := ⟨_, rfl⟩
      rw [hm] at hv5 hc5 hl
      subst hv5
      obtain ⟨W6, hW6⟩ : ∃ z, wr = z := ⟨_, rfl⟩
      rw [hW6] at H5 ⊢
      clear hs hst hres hin hW6 HS
      by_cases h0 : m = 0
      · have hst0 : st = [] := List.length_eq_zero_iff.1 (by rw [hm]; exact h0)
        have SM := Lib.hid (sum_any [] W6 (by simp) (HK.out.below H5.out.below))
        have e0 : shaB [] = R := by rw [← HRES.out, hst0]; rfl
        rw [e0] at SM
        subst h0
        have HB6 := Lib.hid H5.out.below
        clear hst0 e0 hm hc5 H5
        go_wp2_with fail
        refine SM.out.mono ?_
        rintro e w7 ⟨rfl, hx⟩
        have HE := Lib.hid (HB6.out.trans (hx.mono HB6.out.size))
        clear hx
        go_wp2_with fail
        refine ⟨.string ⟨R.toArray⟩, by simp [results, Tryd.results18, go_sem], rfl, HE.out⟩
      · match st, hm, H5, HRES with
        | [], hm, _, _ => exfalso; simp at hm; omega
        | (a, x5) :: r, hm, H5, HRES =>
          obtain ⟨q, hq⟩ : ∃ q, r.length = q := ⟨_, rfl⟩
          have hmq : m = q + 1 := by rw [← hm, List.length_cons, hq]
          have o1 := H5.out.own1
          have r1 : (((a, x5) :: r).reverse.map (·.2)) = r.reverse.map (·.2) ++ [x5] := by simp
          rw [r1] at o1
          have hrl : (r.reverse.map (·.2)).length = q := by rw [List.length_map, List.length_reverse, hq]
          obtain ⟨g5, hA5, hg1, hg2, c50, -⟩ := o1.get (i := q) (x := x5) (by rw [← hrl, List.getElem?_append_right (Nat.le_refl _), Nat.sub_self]; rfl)
          subst hA5
          unfold encS at c50
          have oT := o1.take q (by omega)
          rw [show (r.reverse.map (·.2) ++ [x5]).take q = r.reverse.map (·.2) by rw [← hrl]; exact List.take_left] at oT
          have e1 : IntKind.i64.wrap ((m : Int) - 1) = (q : Int) := by rw [IntWalk.i64_in _ (by omega)]; omega
          have e2 : ((m : Int) - 1) = (q : Int) := by omega
          have hm0 : ((m : Int) == 0) = false := by rw [beq_eq_false_iff_ne]; omega
          have qc5 : q ≤ c5 := by omega
          have hqm : (q : Int) < (m : Int) := by omega
          have HST := Lib.hid oT.sls
          have HQ := Lib.hid (And.intro hq (And.intro hmq (And.intro hrl hc5)))
          clear hq hmq hrl o1 r1 hg1 hg2 oT hm h0 hc5
          go_wp2_with fail
          refine (backS_any _ q c5 _).mono ?_
          rintro e w' ⟨rfl, rfl⟩
          go_wp2_with fail
          obtain ⟨n8, hn8⟩ : ∃ z, W6.heap.size = z := ⟨_, rfl⟩
          obtain ⟨W8, hW8⟩ : ∃ z, (W6.alloc (.cells #[.string ⟨x5.toArray⟩] 9)).alloc (.cells #[.slice (some ⟨g5, 0, none⟩) q c5] 22) = z := ⟨_, rfl⟩
          have b68 : Below W6.heap.size W6 W8 := by rw [← hW8]; exact ((Below.refl _ _).alloc (Nat.le_refl _) _).alloc (by simp) _
          have kB1 : RowAt W8 n8 9 #[.string ⟨x5.toArray⟩] := by rw [← hW8, ← hn8]; exact (RowAt.new W6 _ _).alloc _
          have kB2 : RowAt W8 (n8 + 1) 22 #[.slice (some ⟨g5, 0, none⟩) q c5] := by rw [← hW8, ← hn8]; exact row_new1 W6 _ _ _
          have hs8 : W8.heap.size = n8 + 2 := by rw [← hW8, ← hn8]; simp
          rw [hn8, hW8]
          have HB68 := Lib.hid b68
          have HSZ := Lib.hid (And.intro hn8 hs8)
          have HKB := Lib.hid (And.intro kB1 kB2)
          clear b68 kB1 kB2 hn8 hs8 hW8
          have HL : Hid (∀ W, W8.grownBy W (some n8) → Below W6.heap.size W6 W) := Lib.hid (fun W hg =>
            HB68.out.grown hg HB68.out.size (fun r e => by cases e; rw [HSZ.out.1]; exact Nat.le_refl _))
          have HD5 : Hid (AllD ((a, x5) :: r)) := Lib.hid H5.out.digs
          have hrl := HQ.out.2.2.1
          refine wpIn_wide.1 (range_backS (n := 9) (v := .slice (some ⟨g5, 0, none⟩) q c5) (xs := r.reverse.map (·.2)) (by omega) (by rw [hrl]; omega) rfl rfl
            (fun k W => RowAt W n8 9 #[.string ⟨((r.take k).foldl (fun o q => nodeB q.2 o) x5).toArray⟩] ∧ W8.grownBy W (some n8)) ?calm ?mem ?start
            (fun j y => { tmps := #[.slice A n c, undef, .string ⟨#[]⟩, .slice (some ⟨g5, 0, none⟩) m c5, vs, undef, u6, u7, .pointer (some ⟨n8, 0, none⟩), undef, .string ⟨y.toArray⟩, .slice A n c, .int .i64 n, .int .i64 i, .bool false, u15, u16, u17, u18, u19, u20, u21, u22, u23, u24, u25, u26, u27, u28, u29, u30, u31, u32, u33, u34, u35, u36, u37, u38, u39, u40, u41, u42, u43, u44, u45, u46, u47, u48, u49, u50, u51, u52, u53, u54, u55, u56, u57, u58, u59, u60, u61, u62, u63, u64, u65, u66, u67, u68, u69, u70, u71, u72, u73, .slice (some ⟨g5, 0, none⟩) m c5, .int .i64 m, .bool false, undef, .slice (some ⟨g5, 0, none⟩) m c5, .slice (some ⟨g5, 0, none⟩) m c5, .int .i64 m, .int .i64 q, .pointer (some ⟨g5, q, none⟩), .string ⟨x5.toArray⟩, .slice (some ⟨g5, 0, none⟩) m c5, .slice (some ⟨g5, 0, none⟩) m c5, .int .i64 m, .int .i64 q, .slice (some ⟨g5, 0, none⟩) q c5, .func (.func 54) #[] #[.pointer (some ⟨n8 + 1, 0, none⟩)], .int .i64 (j : Int), .string ⟨y.toArray⟩, undef, undef, undef, undef], defers := [] }) ?assign ?body ?done)
          case calm =>
            rintro k W W' row ⟨hr, hg⟩ hg2 hrow
            have hsz := HSZ.out
            refine ⟨?_, hg.andThen hg2 (fun q e => .inl (hrow q e).1)⟩
            exact (hg2.block n8 hr.lt (fun e => by have := (hrow _ e.symm).1; omega)).trans hr
          case mem =>
            rintro k W ⟨hr, hg⟩
            have hsz := HSZ.out
            have h2 : RowAt W (n8 + 1) 22 _ := (hg.block (n8 + 1) (by omega) (fun e => by injection e; omega)).trans HKB.out.2
            exact ⟨h2.cell 0, HST.out.below (HL.out W hg)⟩
          case start => exact ⟨HKB.out.1, World.grownBy.refl _ _⟩
          case assign =>
            intro l j y W K hK
            gi_wp2
            exact hK
          case body =>
            rintro l k j y W hy hkj ⟨hr, hg⟩
            rw [hrl, ← HQ.out.1] at hkj
            obtain ⟨p, hp, hpy⟩ := rev_get r hy hkj
            have hfs := fold_succ r x5 hp
            rw [hpy] at hfs
            obtain ⟨o, ho⟩ : ∃ o, (r.take k).foldl (fun o q => nodeB q.2 o) x5 = o := ⟨_, rfl⟩
            rw [ho] at hfs hr
            have hol : o.length = 32 := by rw [← ho]; exact fold_len _ _ (HD5.out (a, x5) (by simp))
            have hyl : y.length = 32 := by rw [← hpy]; exact HD5.out p (by simp [List.mem_of_getElem? hp])
            have hbw := HL.out W hg
            have C := node_any y o W (by omega) (by omega) (HK.out.below (H5.out.below.trans (hbw.mono H5.out.below.size)))
            have CC := Lib.hid C
            have HG := Lib.hid hg
            have HRR := Lib.hid hr
            have HFS := Lib.hid hfs
            have hc0 := hr.cell 0
            replace hc0 : W.cell? ⟨n8, 0, none⟩ = some (.string ⟨o.toArray⟩) := hc0
            clear C hg hr hbw hy hkj hp hpy hfs ho hol hyl
            gi_wp2
            refine ⟨trivial, (CallsIn.inRound l (callsIn_wide.2 CC.out)).mono ?_⟩
            rintro e W9 ⟨rfl, hx⟩
            have hr9 := HRR.out.below hx HRR.out.lt
            have hk9 : W9.cell? ⟨n8, 0, none⟩ = some (.string ⟨o.toArray⟩) := hr9.cell 0
            have hf9 := RowAt.free hr9 0
            have HX9 := Lib.hid hx
            have HR9 := Lib.hid hr9
            clear hx hr9
            gi_wp2_with fail
            refine ⟨(KeepsOthers.of_grownBy (grown_of_below HX9.out n8) (fun r o e ho => by cases e; rw [show W.heap[n8]? = _ from HRR.out] at ho; cases ho; rfl)).trans (KeepsOthers.setCell W9 _ _), ?_, (HG.out.andThen (grown_of_below HX9.out n8) (fun q e => .inr e)).andThen (grownBy_setCell' W9 n8 _) (fun q e => .inr e)⟩
            rw [HFS.out]
            exact row_set HR9.out _
          case done =>
            rintro D W hD ⟨hr, hg⟩ hKD
            have hsz := HSZ.out
            have hres : (r.take (r.reverse.map (·.2)).length).foldl (fun o q => nodeB q.2 o) x5 = R := by
              rw [hrl, ← HQ.out.1, List.take_length]
              exact HRES.out
            rw [hres] at hr
            have hc0 : W.cell? ⟨n8, 0, none⟩ = some (.string ⟨R.toArray⟩) := hr.cell 0
            have hb := H5.out.below.trans ((HL.out W hg).mono H5.out.below.size)
            have HBW := Lib.hid hb
            have hbd : W8.heap.size ≤ W.heap.size := hg.size
            have HKD := Lib.hid (And.intro hKD (And.intro hD (And.intro hbd (And.intro H5.out.below.size hsz))))
            clear hr hg hKD hD hb hres hsz hbd
            go_wp2_with fail
            refine ⟨by simp, .inl ⟨_, _, rfl, run_takeDeferred HKD.out.1, ?_⟩⟩
            refine ⟨.string ⟨R.toArray⟩, by simp [results, Tryd.results18, go_sem], rfl, ?_⟩
            exact HBW.out.grown (grownBy_putObj' W D _) (by have := HKD.out.2; omega) (fun r e => by cases e; have := HKD.out.2; omega)
end Go.Proofs.YtgmdjbhclihflaaDoor
