/- royaltyref05: within, id, period, territory. -/
import Derived.Test.YtgjajhopjcdflaaGreatFlB
import Derived.Deep.RegionHeld3
namespace Go.Proofs.YtgjajhopjcdflaaGreat
open Go Go.RowKit Go.Lib Go.Shelf Go.Maps

section
variable {P : Program} {ops : Array Oper} {Q : Exit → Act → World → Prop} {md : Region.Mode} {S : World → Prop} {fuel : Nat} {listed : Array Bool} {a : Act} {w : World}
/-- an operation that yields its value in every world that meets S is taken first -/
theorem tk (i : Nat) {x1 : Option Tmp} {x2 : Op} {x3 : TypeId} {x4 : String} {x5 : Array Edge} {x6 : Option (Nat × Bool)} {v : Value} (hi : ops[i]? = some ⟨x1, x2, x3, x4, x5, x6⟩)
    (hs : (Region.noSelect ops && Region.free md ops listed i && (Region.ready md ops listed).contains i) = true)
    (hQ : ∀ c a w, Q (.panic c) (a.put x1 v) w → Q (.panic c) a w) (hw : Region.wanted ⟨x1, x2, x3, x4, x5, x6⟩ (yielded ops a.tmps) = true) (hS : S w)
    (hv : ∀ w, S w → (execOp a.eval ⟨x1, x2, x3, x4, x5, x6⟩).run P w = .ok (.value v) w)
    (h : wpAnyH P md ops Q S fuel (listed.setIfInBounds i true) (a.put x1 v) w) : wpAnyH P md ops Q S (fuel + 1) listed a w := by
  rw [Bool.and_eq_true, Bool.and_eq_true] at hs
  exact wpAnyH_take (oi := ⟨x1, x2, x3, x4, x5, x6⟩) hi hs.1.1 hs.1.2 hs.2 hQ (Or.inl ⟨hw, hv⟩) hS h
/-- the same, with what is always said so left out -/
theorem tk_ (i : Nat) {x1 : Option Tmp} {x2 : Op} {x3 : TypeId} {x4 : String} {x5 : Array Edge} {x6 : Option (Nat × Bool)} {v : Value} (hi : ops[i]? = some ⟨x1, x2, x3, x4, x5, x6⟩)
    (hv : ∀ w, S w → (execOp a.eval ⟨x1, x2, x3, x4, x5, x6⟩).run P w = .ok (.value v) w)
    (h : wpAnyH P md ops Q S fuel (listed.setIfInBounds i true) (a.put x1 v) w)
    (hs : (Region.noSelect ops && Region.free md ops listed i && (Region.ready md ops listed).contains i) = true := by kernel_rfl)
    (hQ : ∀ c a w, Q (.panic c) (a.put x1 v) w → Q (.panic c) a w := by exact fun _ _ _ h => h) (hw : Region.wanted ⟨x1, x2, x3, x4, x5, x6⟩ (yielded ops a.tmps) = true := by rfl) (hS : S w := by assumption) : wpAnyH P md ops Q S (fuel + 1) listed a w :=
  tk i hi hs hQ hw hS hv h
/-- an operation that is not wanted is taken first -/
theorem tu (i : Nat) {x1 : Option Tmp} {x2 : Op} {x3 : TypeId} {x4 : String} {x5 : Array Edge} {x6 : Option (Nat × Bool)} (hi : ops[i]? = some ⟨x1, x2, x3, x4, x5, x6⟩)
    (hs : (Region.noSelect ops && Region.free md ops listed i && (Region.ready md ops listed).contains i) = true)
    (hQ : ∀ c a w, Q (.panic c) (a.put x1 undef) w → Q (.panic c) a w) (hw : Region.wanted ⟨x1, x2, x3, x4, x5, x6⟩ (yielded ops a.tmps) = false) (hS : S w)
    (h : wpAnyH P md ops Q S fuel (listed.setIfInBounds i true) (a.put x1 undef) w) : wpAnyH P md ops Q S (fuel + 1) listed a w := by
  rw [Bool.and_eq_true, Bool.and_eq_true] at hs
  exact wpAnyH_take (oi := ⟨x1, x2, x3, x4, x5, x6⟩) hi hs.1.1 hs.1.2 hs.2 hQ (Or.inr ⟨hw, rfl⟩) hS h
/-- one operation alone is ready -/
theorem rd (i : Nat) {x1 : Option Tmp} {x2 : Op} {x3 : TypeId} {x4 : String} {x5 : Array Edge} {x6 : Option (Nat × Bool)} (hr : Region.ready md ops listed = [i]) (hi : ops[i]? = some ⟨x1, x2, x3, x4, x5, x6⟩)
    (h : ∀ K' : Act → World → Prop, Shut (∀ a w, S w → (S w → wpAnyH P md ops Q S fuel (listed.setIfInBounds i true) a w) → K' a w) → if Region.wanted ⟨x1, x2, x3, x4, x5, x6⟩ (yielded ops a.tmps) = true then Oper.wp P ⟨x1, x2, x3, x4, x5, x6⟩ a w K' Q else K' (a.put x1 undef) w) :
    wpAnyH P md ops Q S (fuel + 1) listed a w :=
  wpAnyH_ready hr (by simp) (AllReadyH.cons (o := ⟨x1, x2, x3, x4, x5, x6⟩) hi h AllReadyH.nil)
end
theorem sa {α : Type} (l : List α) (i : Nat) (a : α) : l.toArray.setIfInBounds i a = (l.set i a).toArray := List.setIfInBounds_toArray ..
theorem s0 {α : Type} (x a : α) (l : List α) : (x :: l).set 0 a = a :: l := rfl
theorem s1 {α : Type} (x a : α) (l : List α) (n : Nat) : (x :: l).set (n + 1) a = x :: l.set n a := rfl
theorem sg {α : Type} (l : List α) (i : Nat) : l.toArray[i]? = l[i]? := List.getElem?_toArray
theorem g0 {α : Type} (x : α) (l : List α) : (x :: l)[0]? = some x := rfl
theorem g1 {α : Type} (x : α) (l : List α) (n : Nat) : (x :: l)[n + 1]? = l[n]? := rfl
def inB (n a b : Int) : Bool := decide (a ≤ n) && decide (n ≤ b)
set_option maxHeartbeats 1000000 in
theorem rwithin_any (n a b : Int) (w : World) :
    Calls Tryz.prog 59 #[.int .i64 n, .int .i64 a, .int .i64 b] w fun e w' => e = .returned (.bool (inB n a b)) ∧ w = w' := by
  go_enter Tryz.func59, Tryz.ntmps59
  go_wp2_with fail
  all_goals
    go_ret
    refine ⟨?_, rfl⟩
    unfold inB
    simp [*]
    try omega
set_option maxHeartbeats 1000000 in
theorem rid_any (n : Int) (w : World) :
    Calls Tryz.prog 100 #[.int .i64 n] w fun e w' => e = .returned (.bool (inB n 1 1000000)) ∧ w = w' := by
  go_enter Tryz.func100, Tryz.ntmps100
  go_wp2_with fail
  refine (rwithin_any _ _ _ _).mono ?_
  rintro e w' ⟨rfl, rfl⟩
  go_wp2_with fail
  go_ret
  exact ⟨rfl, rfl⟩
set_option maxHeartbeats 1000000 in
theorem rperiod_any (n : Int) (w : World) :
    Calls Tryz.prog 102 #[.int .i64 n] w fun e w' => e = .returned (.bool (inB n 0 1199)) ∧ w = w' := by
  go_enter Tryz.func102, Tryz.ntmps102
  go_wp2_with fail
  refine (rwithin_any _ _ _ _).mono ?_
  rintro e w' ⟨rfl, rfl⟩
  go_wp2_with fail
  go_ret
  exact ⟨rfl, rfl⟩
set_option maxHeartbeats 1000000 in
theorem rterr_any (n : Int) (w : World) :
    Calls Tryz.prog 101 #[.int .i64 n] w fun e w' => e = .returned (.bool (inB n 0 7)) ∧ w = w' := by
  go_enter Tryz.func101, Tryz.ntmps101
  go_wp2_with fail
  refine (rwithin_any _ _ _ _).mono ?_
  rintro e w' ⟨rfl, rfl⟩
  go_wp2_with fail
  go_ret
  exact ⟨rfl, rfl⟩
theorem rows3 (w : World) (A B C : Array Value) (T : TypeId) : RowAt (((w.alloc (.cells A T)).alloc (.cells B T)).alloc (.cells C T)) w.heap.size T A ∧ RowAt (((w.alloc (.cells A T)).alloc (.cells B T)).alloc (.cells C T)) (w.heap.size + 1) T B ∧ RowAt (((w.alloc (.cells A T)).alloc (.cells B T)).alloc (.cells C T)) (w.heap.size + 2) T C ∧ Below w.heap.size w (((w.alloc (.cells A T)).alloc (.cells B T)).alloc (.cells C T)) := by
  have h2 := RowAt.new (w.alloc (.cells A T)) T B
  have h3 := RowAt.new ((w.alloc (.cells A T)).alloc (.cells B T)) T C
  have e1 : (w.alloc (.cells A T)).heap.size = w.heap.size + 1 := by simp
  have e2 : ((w.alloc (.cells A T)).alloc (.cells B T)).heap.size = w.heap.size + 2 := by simp
  rw [e1] at h2
  rw [e2] at h3
  exact ⟨((RowAt.new w T A).alloc _).alloc _, h2.alloc _, h3, (((Below.refl _ _).alloc (Nat.le_refl _) _).alloc (by simp) _).alloc (by simp; omega) _⟩
theorem yields_row {P : Program} {ops : Array Oper} {S : World → Prop} {o : Oper} {a : Act} (ty : TypeId) (x : Operand) (b : Nat) (cs : Array Value) (d : TypeDesc) (hr : ∀ w, S w → RowAt w b ty cs)
    (hu : P.underlying ty = some d) (hw : Region.wanted o (yielded ops a.tmps) = true) (ho : o.op = .load ty x) (hx : a.eval x = .pointer (some ⟨b, 0, none⟩)) (hd : (match d with | .struct _ | .array _ _ => true | _ => false) = true) (hi : (P.info? ty).map (·.size) = some cs.size) :
    YieldsIf P ops S o (.agg cs) a := by
  refine Or.inl ⟨hw, fun w h => ?_⟩
  have hc : ∀ j v, cs[j]? = some v → w.cell? ⟨b, 0 + j, none⟩ = some v := fun j v hv => by rw [Nat.zero_add, (hr w h).cell]; exact hv
  simp only [execOp, ho, hx, Instr.loadAt, Instr.sureAddr, Sem.run_bind, Sem.run_pure, Result.andThen_ok, run_loadVar_at w b 0 ty cs d hc hu hd hi]
theorem start_f {Q : Exit → Act → World → Prop} {a : Act} {id : Nat} {ops : Array Oper} (C Z G : Array Value) (w : World) {W0 : World} (hm : Tryz.prog.follows .mixedOrders = true) (hW : W0 = (((w.alloc (.cells C 34)).alloc (.cells Z 34)).alloc (.cells G 34)).drew ∨ W0 = (((w.alloc (.cells C 34)).alloc (.cells Z 34)).alloc (.cells G 34)).drew.drew)
    (h : ∀ W : World, Hid (RowAt W (w.heap.size) 34 C ∧ RowAt W (w.heap.size + 2) 34 G) → Hid (RowAt W (w.heap.size + 1) 34 Z) → Hid (Below w.heap.size w W) → (RowAt W (w.heap.size) 34 C ∧ RowAt W (w.heap.size + 2) 34 G) → wpAnyH Tryz.prog .any ops Q (fun W' => RowAt W' (w.heap.size) 34 C ∧ RowAt W' (w.heap.size + 2) 34 G) ops.size (Array.replicate ops.size false) a W) : (Code.region id ops true).wp Tryz.prog Q a W0 := by
  have hr := rows3 w C Z G 34
  have H : RowAt W0 (w.heap.size) 34 C ∧ RowAt W0 (w.heap.size + 2) 34 G ∧ RowAt W0 (w.heap.size + 1) 34 Z ∧ Below w.heap.size w W0 := by
    rcases hW with rfl | rfl
    · exact ⟨hr.1.drew, hr.2.2.1.drew, hr.2.1.drew, hr.2.2.2.drew⟩
    · exact ⟨hr.1.drew.drew, hr.2.2.1.drew.drew, hr.2.1.drew.drew, hr.2.2.2.drew.drew⟩
  exact wp_region_held_drew (S := fun W' => RowAt W' (w.heap.size) 34 C ∧ RowAt W' (w.heap.size + 2) 34 G) hm ⟨H.1.drew, H.2.1.drew⟩ (fun hH => h _ (Lib.hid ⟨H.1.drew, H.2.1.drew⟩) (Lib.hid H.2.2.1.drew) (Lib.hid H.2.2.2.drew) hH)
theorem start_r {Q : Exit → Act → World → Prop} {a : Act} {id : Nat} {ops : Array Oper} (C Z G : Array Value) (w : World) {W0 : World} (hm : Tryz.prog.follows .mixedOrders = true) (hW : W0 = (((w.alloc (.cells C 34)).alloc (.cells G 34)).alloc (.cells Z 34)).drew ∨ W0 = (((w.alloc (.cells C 34)).alloc (.cells G 34)).alloc (.cells Z 34)).drew.drew)
    (h : ∀ W : World, Hid (RowAt W (w.heap.size) 34 C ∧ RowAt W (w.heap.size + 1) 34 G) → Hid (RowAt W (w.heap.size + 2) 34 Z) → Hid (Below w.heap.size w W) → (RowAt W (w.heap.size) 34 C ∧ RowAt W (w.heap.size + 1) 34 G) → wpAnyH Tryz.prog .any ops Q (fun W' => RowAt W' (w.heap.size) 34 C ∧ RowAt W' (w.heap.size + 1) 34 G) ops.size (Array.replicate ops.size false) a W) : (Code.region id ops true).wp Tryz.prog Q a W0 := by
  have hr := rows3 w C G Z 34
  have H : RowAt W0 (w.heap.size) 34 C ∧ RowAt W0 (w.heap.size + 1) 34 G ∧ RowAt W0 (w.heap.size + 2) 34 Z ∧ Below w.heap.size w W0 := by
    rcases hW with rfl | rfl
    · exact ⟨hr.1.drew, hr.2.1.drew, hr.2.2.1.drew, hr.2.2.2.drew⟩
    · exact ⟨hr.1.drew.drew, hr.2.1.drew.drew, hr.2.2.1.drew.drew, hr.2.2.2.drew.drew⟩
  exact wp_region_held_drew (S := fun W' => RowAt W' (w.heap.size) 34 C ∧ RowAt W' (w.heap.size + 1) 34 G) hm ⟨H.1.drew, H.2.1.drew⟩ (fun hH => h _ (Lib.hid ⟨H.1.drew, H.2.1.drew⟩) (Lib.hid H.2.2.1.drew) (Lib.hid H.2.2.2.drew) hH)
theorem keep2 {W : World} {b1 b4 b2 : Nat} {C G cs : Array Value} (h : Hid (RowAt W b1 34 C ∧ RowAt W b4 34 G)) (h1 : b1 ≠ b2) (h2 : b4 ≠ b2) : RowAt (W.setRow b2 cs) b1 34 C ∧ RowAt (W.setRow b2 cs) b4 34 G :=
  ⟨(setRow_far h1).trans h.out.1, (setRow_far h2).trans h.out.2⟩
end Go.Proofs.YtgjajhopjcdflaaGreat
