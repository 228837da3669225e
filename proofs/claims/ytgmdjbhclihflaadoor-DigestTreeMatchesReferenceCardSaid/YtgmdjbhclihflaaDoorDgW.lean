/- VerifyExtension. -/
import Derived.Test.YtgmdjbhclihflaaDoorDgV
namespace Go.Proofs.YtgmdjbhclihflaaDoor
open Go Go.RowKit Go.Lib Go.Shelf
attribute [local go_sem] Oper.semAt_some

def join2 (y : List UInt8 × Bool) (p : List UInt8 × List UInt8) : List UInt8 × List UInt8 := (if y.2 then joinB y p.1 else p.1, joinB y p.2)
/-- the two values of a proof that is read from its last element on -/
def bothV : Nat → Nat → Nat → List UInt8 → List (List UInt8) → Bool → Option (List UInt8 × List UInt8)
  | 0, _, _, _, _, _ => none
  | f + 1, m, n, old, rp, whole => if n ≤ m then (if whole then (if rp = [] then some (old, old) else none) else match rp with | [x] => some (x, x) | _ => none) else match rp with
    | [] => none
    | x :: r => if m ≤ leftN n then (bothV f m (leftN n) old r whole).map (join2 (x, false)) else (bothV f (m - leftN n) (n - leftN n) old r false).map (join2 (x, true))
theorem bothV_end {f m n : Nat} {old : List UInt8} {rp : List (List UInt8)} (h : n ≤ m) : bothV (f + 1) m n old rp true = if rp = [] then some (old, old) else none := by
  rw [bothV.eq_def]; exact if_pos h
theorem bothV_part {f m n : Nat} {old : List UInt8} {rp : List (List UInt8)} (h : n ≤ m) : bothV (f + 1) m n old rp false = match rp with | [x] => some (x, x) | _ => none := by
  rw [bothV.eq_def]; exact if_pos h
theorem bothV_nil {f m n : Nat} {old : List UInt8} {wh : Bool} (h : ¬ n ≤ m) : bothV (f + 1) m n old [] wh = none := by
  rw [bothV.eq_def]; exact if_neg h
theorem bothV_cons {f m n : Nat} {old x : List UInt8} {r : List (List UInt8)} {wh : Bool} (h : ¬ n ≤ m) : bothV (f + 1) m n old (x :: r) wh = if m ≤ leftN n then (bothV f m (leftN n) old r wh).map (join2 (x, false)) else (bothV f (m - leftN n) (n - leftN n) old r false).map (join2 (x, true)) := by
  rw [bothV.eq_def]; exact if_neg h
structure VxAt (w wr : World) (A : Option Addr) (c q m n : Nat) (v11 : Value) (whole : Bool) (V : Option (List UInt8 × List UInt8)) (old : List UInt8) (pr : List (List UInt8)) (acc : List (List UInt8 × Bool)) (f : Nat) : Prop where
  len : pr.length = q
  cap : q ≤ c
  pos : 1 ≤ m
  le : m ≤ n
  fuel : n ≤ f
  big : n ≤ 9223372036854775807
  sls : SlS w (.slice A q c) pr
  digs : ∀ x ∈ pr, x.length = 32
  out : OwnD wr w.heap.size v11 acc
  adigs : ∀ p ∈ acc, p.1.length = 32
  below : Below w.heap.size w wr
  eq : (bothV f m n old pr.reverse whole).map (fun p => acc.foldr join2 p) = V
  short : acc.length + q ≤ 10000
theorem VxAt.down {w wr w1 w2 : World} {A : Option Addr} {c q q' n n' i i' : Nat} {v v' : Value} {wh wh' : Bool} {V : Option (List UInt8 × List UInt8)} {s x : List UInt8} {b : Bool} {pr : List (List UInt8)} {acc : List (List UInt8 × Bool)} {f : Nat}
    (h : VxAt w wr A c q i n v wh V s pr acc f) (hb : Below wr.heap.size wr w1) (hw1 : OwnD w1 w.heap.size v acc) (ho : OwnD w2 w.heap.size v' (acc ++ [(x, b)])) (hg : w1.grownBy w2 v.ownBlock) (hq : q = q' + 1)
    (hd : bothV f i n s pr.reverse wh = (bothV (f - 1) i' n' s (pr.take q').reverse wh').map (join2 (x, b))) (hlt : n' < n) (hp : 1 ≤ i') (hi : i' ≤ n') (hx : x.length = 32) :
    VxAt w w2 A c q' i' n' v' wh' V s (pr.take q') (acc ++ [(x, b)]) (f - 1) := by
  have h0 := h.len; have h1 := h.cap; have h2 := h.fuel; have h3 := h.big; have h4 := h.short
  refine ⟨by simp; omega, by omega, hp, hi, by omega, by omega, h.sls.take q' (by omega), fun y hy => h.digs y (List.mem_of_mem_take hy), ho, fun p hp => ?_, ?_, ?_, by simp; omega⟩
  · rcases List.mem_append.1 hp with hp | hp
    · exact h.adigs p hp
    · rw [List.mem_singleton.1 hp]; exact hx
  · exact (h.below.trans (hb.mono h.below.size)).grown hg (Nat.le_trans h.below.size hb.size) (fun j e => (hw1.lt j e).1)
  · rw [← h.eq, hd, Option.map_map]
    congr 1
    funext v
    simp
theorem vext_out (old root : List UInt8) (m n : Int) (v : Value) (w : World) (h : ¬(0 ≤ m ∧ m ≤ n)) :
    Calls Tryd.prog 22 #[.string ⟨old.toArray⟩, .int .i64 m, .string ⟨root.toArray⟩, .int .i64 n, v] w fun e w' => e = .returned (.bool false) ∧ w = w' := by
  refine (callsIn_wide (n := 9)).1 (callsIn_of_wp_marks Tryd.func22 rfl trivial ?_ rfl)
  simp only [Tryd.ntmps22, List.size_toArray, List.length_cons, List.length_nil, Nat.reduceAdd, Nat.reduceSub, Array.replicate_succ, Array.replicate_zero, List.push_toArray, List.append_toArray, List.nil_append, List.cons_append]
  refine wpIn_wide.2 ?_
  by_cases h1 : m < 0
  · have h1d : decide (m < 0) = true := decide_eq_true h1
    go_wp2_with fail
    exact ⟨.bool false, by simp [results, Tryd.results22, go_sem], rfl, rfl⟩
  · have h1d : decide (m < 0) = false := decide_eq_false h1
    have h2d : decide (n < m) = true := decide_eq_true (by omega)
    go_wp2_with fail
    exact ⟨.bool false, by simp [results, Tryd.results22, go_sem], rfl, rfl⟩
theorem vext_odd (old root : List UInt8) (m n : Int) (v : Value) (pr : List (List UInt8)) (w : World) (h1 : 0 ≤ m) (h2 : m ≤ n) (hv : SlS w v pr) (hbig : pr.length ≤ 10000) (ha : (allD pr && ((old.length == 32) && (root.length == 32))) = false) :
    Calls Tryd.prog 22 #[.string ⟨old.toArray⟩, .int .i64 m, .string ⟨root.toArray⟩, .int .i64 n, v] w fun e w' => e = .returned (.bool false) ∧ w = w' := by
  have AL := Lib.hid (all_any v pr w hv hbig)
  have I1 := Lib.hid (isdigest_any old w)
  have I2 := Lib.hid (isdigest_any root w)
  obtain ⟨A, c, rfl⟩ := hv.slice
  have HA := Lib.hid ha
  clear hv hbig ha
  refine (callsIn_wide (n := 9)).1 (callsIn_of_wp_marks Tryd.func22 rfl trivial ?_ rfl)
  simp only [Tryd.ntmps22, List.size_toArray, List.length_cons, List.length_nil, Nat.reduceAdd, Nat.reduceSub, Array.replicate_succ, Array.replicate_zero, List.push_toArray, List.append_toArray, List.nil_append, List.cons_append]
  refine wpIn_wide.2 ?_
  have h1d : decide (m < 0) = false := decide_eq_false (by omega)
  have h2d : decide (n < m) = false := decide_eq_false (by omega)
  obtain ⟨x, hx⟩ : ∃ x, allD pr = x := ⟨_, rfl⟩
  obtain ⟨y, hy⟩ : ∃ y, (old.length == 32) = y := ⟨_, rfl⟩
  obtain ⟨z, hz⟩ : ∃ z, (root.length == 32) = z := ⟨_, rfl⟩
  rw [hx] at AL HA
  rw [hy] at I1 HA
  rw [hz] at I2 HA
  clear hx hy hz
  cases x
  · go_wp2_with fail
    refine AL.out.mono ?_
    rintro e w' ⟨rfl, rfl⟩
    go_wp2_with fail
    exact ⟨.bool false, by simp [results, Tryd.results22, go_sem], rfl, rfl⟩
  · cases y
    · go_wp2_with fail
      refine AL.out.mono ?_
      rintro e w' ⟨rfl, rfl⟩
      go_wp2_with fail
      refine I1.out.mono ?_
      rintro e w' ⟨rfl, rfl⟩
      go_wp2_with fail
      exact ⟨.bool false, by simp [results, Tryd.results22, go_sem], rfl, rfl⟩
    · cases z
      · go_wp2_with fail
        refine AL.out.mono ?_
        rintro e w' ⟨rfl, rfl⟩
        go_wp2_with fail
        refine I1.out.mono ?_
        rintro e w' ⟨rfl, rfl⟩
        go_wp2_with fail
        refine I2.out.mono ?_
        rintro e w' ⟨rfl, rfl⟩
        go_wp2_with fail
        exact ⟨.bool false, by simp [results, Tryd.results22, go_sem], rfl, rfl⟩
      · exact absurd HA.out (by simp)
theorem vext_zero (old root : List UInt8) (n : Nat) (A : Option Addr) (q c : Nat) (pr : List (List UInt8)) (w : World)
    (hv : SlS w (.slice A q c) pr) (hq : pr.length = q) (hbig : q ≤ 5000) (ha : allD pr = true) (ho : old.length = 32) (hr : root.length = 32) (hK : KAt w) :
    Calls Tryd.prog 22 #[.string ⟨old.toArray⟩, .int .i64 0, .string ⟨root.toArray⟩, .int .i64 n, .slice A q c] w fun e w' => e = .returned (.bool (decide (pr = []) && (old == shaB []))) ∧ Below w.heap.size w w' := by
  have AL := Lib.hid (all_any _ pr w hv (by omega))
  rw [ha] at AL
  have I1 := Lib.hid (isdigest_any old w)
  have I2 := Lib.hid (isdigest_any root w)
  rw [show (old.length == 32) = true by simp [ho]] at I1
  rw [show (root.length == 32) = true by simp [hr]] at I2
  have SM := Lib.hid (sum_any [] w (by simp) hK)
  have HQ := Lib.hid hq
  clear hv ha hbig ho hr hK hq
  refine (callsIn_wide (n := 9)).1 (callsIn_of_wp_marks Tryd.func22 rfl trivial ?_ rfl)
  simp only [Tryd.ntmps22, List.size_toArray, List.length_cons, List.length_nil, Nat.reduceAdd, Nat.reduceSub, Array.replicate_succ, Array.replicate_zero, List.push_toArray, List.append_toArray, List.nil_append, List.cons_append]
  refine wpIn_wide.2 ?_
  have h2d : decide ((n : Int) < 0) = false := by simp
  by_cases hq0 : q = 0
  · subst hq0
    have e1 : pr = [] := List.length_eq_zero_iff.1 HQ.out
    obtain ⟨d, hd⟩ : ∃ d, shaB [] = d := ⟨_, rfl⟩
    rw [hd] at SM ⊢
    rw [e1]
    clear e1 hd
    go_wp2_with fail
    refine AL.out.mono ?_
    rintro e w' ⟨rfl, rfl⟩
    go_wp2_with fail
    refine I1.out.mono ?_
    rintro e w' ⟨rfl, rfl⟩
    go_wp2_with fail
    refine I2.out.mono ?_
    rintro e w' ⟨rfl, rfl⟩
    go_wp2_with fail
    refine SM.out.mono ?_
    rintro e w' ⟨rfl, hx⟩
    have HX := Lib.hid hx
    clear hx
    go_wp2_with fail
    exact ⟨.bool (old == d), by simp [results, Tryd.results22, go_sem], by simp, HX.out⟩
  · have hq0i : ((q : Int) == 0) = false := by rw [beq_eq_false_iff_ne]; omega
    have e1 : decide (pr = []) = false := by
      rw [decide_eq_false_iff_not]; intro e; have := HQ.out; rw [e] at this; simp at this; omega
    rw [e1]
    clear e1 hq0
    go_wp2_with fail
    refine AL.out.mono ?_
    rintro e w' ⟨rfl, rfl⟩
    go_wp2_with fail
    refine I1.out.mono ?_
    rintro e w' ⟨rfl, rfl⟩
    go_wp2_with fail
    refine I2.out.mono ?_
    rintro e w' ⟨rfl, rfl⟩
    go_wp2_with fail
    exact ⟨.bool false, by simp [results, Tryd.results22, go_sem], rfl, Below.refl _ _⟩
theorem vext_eq (old root : List UInt8) (n : Nat) (hn : 1 ≤ n) (A : Option Addr) (q c : Nat) (pr : List (List UInt8)) (w : World)
    (hv : SlS w (.slice A q c) pr) (hq : pr.length = q) (hbig : q ≤ 5000) (ha : allD pr = true) (ho : old.length = 32) (hr : root.length = 32) :
    Calls Tryd.prog 22 #[.string ⟨old.toArray⟩, .int .i64 n, .string ⟨root.toArray⟩, .int .i64 n, .slice A q c] w fun e w' => e = .returned (.bool (decide (pr = []) && (old == root))) ∧ w = w' := by
  have AL := Lib.hid (all_any _ pr w hv (by omega))
  rw [ha] at AL
  have I1 := Lib.hid (isdigest_any old w)
  have I2 := Lib.hid (isdigest_any root w)
  rw [show (old.length == 32) = true by simp [ho]] at I1
  rw [show (root.length == 32) = true by simp [hr]] at I2
  have HQ := Lib.hid hq
  clear hv ha hbig ho hr hq
  refine (callsIn_wide (n := 9)).1 (callsIn_of_wp_marks Tryd.func22 rfl trivial ?_ rfl)
  simp only [Tryd.ntmps22, List.size_toArray, List.length_cons, List.length_nil, Nat.reduceAdd, Nat.reduceSub, Array.replicate_succ, Array.replicate_zero, List.push_toArray, List.append_toArray, List.nil_append, List.cons_append]
  refine wpIn_wide.2 ?_
  have h1d : decide ((n : Int) < 0) = false := by simp
  have h2d : decide (n < n) = false := by simp
  have h3d : ((n : Int) == 0) = false := by rw [beq_eq_false_iff_ne]; omega
  by_cases hq0 : q = 0
  · subst hq0
    have e1 : pr = [] := List.length_eq_zero_iff.1 HQ.out
    rw [e1]
    clear e1
    go_wp2_with fail
    refine AL.out.mono ?_
    rintro e w' ⟨rfl, rfl⟩
    go_wp2_with fail
    refine I1.out.mono ?_
    rintro e w' ⟨rfl, rfl⟩
    go_wp2_with fail
    refine I2.out.mono ?_
    rintro e w' ⟨rfl, rfl⟩
    go_wp2_with fail
    exact ⟨.bool (old == root), by simp [results, Tryd.results22, go_sem], by simp, rfl⟩
  · have hq0i : ((q : Int) == 0) = false := by rw [beq_eq_false_iff_ne]; omega
    have e1 : decide (pr = []) = false := by
      rw [decide_eq_false_iff_not]; intro e; have := HQ.out; rw [e] at this; simp at this; omega
    rw [e1]
    clear e1 hq0
    go_wp2_with fail
    refine AL.out.mono ?_
    rintro e w' ⟨rfl, rfl⟩
    go_wp2_with fail
    refine I1.out.mono ?_
    rintro e w' ⟨rfl, rfl⟩
    go_wp2_with fail
    refine I2.out.mono ?_
    rintro e w' ⟨rfl, rfl⟩
    go_wp2_with fail
    exact ⟨.bool false, by simp [results, Tryd.results22, go_sem], rfl, rfl⟩
end Go.Proofs.YtgmdjbhclihflaaDoor
