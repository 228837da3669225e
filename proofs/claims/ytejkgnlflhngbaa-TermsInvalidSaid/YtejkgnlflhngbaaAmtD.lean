/- Package amount: none, product, over, MulDiv at a million. -/
import Derived.Test.YtejkgnlflhngbaaAmtC
import Derived.Shelf.Abstract
import Derived.IntWalk
namespace Go.Proofs.Ytejkgnlflhngbaa
open Go Go.RowKit Go.Lib Go.Shelf

theorem none1_any (x l : Int) (B : Nat) (w : World) (hc : w.cell? ⟨B, 0, none⟩ = some (.int .i64 l)) :
    Calls Try.prog 57 #[.int .i64 x, .pointer (some ⟨B, 0, none⟩)] w fun e w' => e = .returned (.bool (decide (x < l))) ∧ w = w' := by
  go_enter Try.func57, Try.ntmps57
  go_wp2
  go_ret
  exact ⟨rfl, rfl⟩

set_option maxHeartbeats 400000 in
theorem containsInts_any (g : FuncId) (cap : Value) (pd : Int → Bool) (b : Nat) (n c : Nat) (xs : Nat → Int) (w : World) (hn : n ≤ 1000000)
    (eg : ∀ args w, (callFunc g args).run Try.prog w = .ok (.enter g args) w)
    (hc : ∀ i, i < n → w.cell? ⟨b, i, none⟩ = some (.int .i64 (xs i)))
    (hg : ∀ x, Calls Try.prog g #[.int .i64 x, cap] w fun e w' => e = .returned (.bool (pd x)) ∧ w = w') (t : Bool) (ht : decide (0 ≤ idxF pd xs n) = t) :
    Calls Try.prog 38 #[.slice (some ⟨b, 0, none⟩) n c, .func (.func g) #[] #[cap]] w fun e w' => e = .returned (.bool t) ∧ w = w' := by
  have I := indexInts_any g cap pd b n c xs w hn eg hc hg
  have H := Lib.hid I
  clear I hc hg eg
  obtain ⟨x, hx⟩ : ∃ x, idxF pd xs n = x := ⟨_, rfl⟩
  rw [hx] at H ht
  clear hx
  go_enter Try.func38, Try.ntmps38
  go_wp2_with fail
  refine (H.out).mono ?_
  rintro e w' ⟨rfl, rfl⟩
  go_wp2_with fail
  go_ret
  exact ⟨rfl, rfl⟩

theorem idxF_two (pd : Int → Bool) (a b : Int) : decide (0 ≤ idxF pd (fun i => if i = 0 then a else b) 2) = (pd a || pd b) := by
  have e : (List.range 2) = [0, 1] := by decide
  unfold idxF
  rw [e]
  cases h1 : pd a <;> cases h2 : pd b <;> simp [List.find?, h1, h2]

set_option maxHeartbeats 400000 in
theorem none_two (a b : Int) (B : Nat) (w : World) (h0 : w.cell? ⟨B, 0, none⟩ = some (.int .i64 a)) (h1 : w.cell? ⟨B, 1, none⟩ = some (.int .i64 b)) (hB : B < w.heap.size) :
    Calls Try.prog 54 #[.int .i64 0, .slice (some ⟨B, 0, none⟩) 2 2] w fun e w' => e = .returned (.bool (!(decide (a < 0) || decide (b < 0)))) ∧ Below w.heap.size w w' := by
  have bx : (w.alloc (.cells #[.int .i64 0] 3)).cell? ⟨w.heap.size, 0, none⟩ = some (.int .i64 0) := by simp
  have CF := containsInts_any 57 (.pointer (some ⟨w.heap.size, 0, none⟩)) (fun x => decide (x < 0)) B 2 2 (fun i => if i = 0 then a else b) (w.alloc (.cells #[.int .i64 0] 3)) (by omega)
    (enters_of Try.func57 (by kernel_rfl) rfl) (fun i hi => by
      rw [World.cell?_of_block (a := ⟨B, i, none⟩) (Below.heap_alloc w _ B hB)]
      match i, hi with
      | 0, _ => exact h0
      | 1, _ => exact h1) (fun x => none1_any x 0 _ _ bx) _ (idxF_two _ a b)
  obtain ⟨t, ht⟩ : ∃ t, (decide (a < 0) || decide (b < 0)) = t := ⟨_, rfl⟩
  rw [ht] at CF ⊢
  have H := Lib.hid CF
  clear CF ht h0 h1 bx
  go_enter Try.func54, Try.ntmps54
  go_wp2_with fail
  refine (H.out).mono ?_
  rintro e w' ⟨rfl, rfl⟩
  go_wp2_with fail
  go_ret
  exact ⟨rfl, (Below.refl _ _).alloc (Nat.le_refl _) _⟩

set_option maxHeartbeats 400000 in
theorem product_any (a b : Nat) (ha : a < 9223372036854775808) (hb : b < 9223372036854775808) (w : World) :
    Calls Try.prog 55 #[.int .i64 (a : Int), .int .i64 (b : Int)] w fun e w' => e = .returned (.agg #[.int .u64 ((a * b / 18446744073709551616 : Nat) : Int), .int .u64 ((a * b % 18446744073709551616 : Nat) : Int)]) ∧ Below w.heap.size w w' := by
  have M := fun w => mul64_any a b (by omega) (by omega) w
  obtain ⟨h, hh⟩ : ∃ h, a * b / 18446744073709551616 = h := ⟨_, rfl⟩
  obtain ⟨l, hl⟩ : ∃ l, a * b % 18446744073709551616 = l := ⟨_, rfl⟩
  rw [hh, hl] at M ⊢
  have HM := Lib.hid M
  clear M hh hl
  go_enter Try.func55, Try.ntmps55
  go_wp2_with fail
  refine (HM.out _).mono ?_
  rintro e w' ⟨rfl, rfl⟩
  go_wp2_with fail
  exact bodyPost_ret (v := .agg #[.int .u64 (h : Int), .int .u64 (l : Int)]) (by simp [results, Try.results55, go_sem]) rfl ⟨rfl, (Below.refl _ _).alloc (Nat.le_refl _) _⟩

/-- the wide number that lies at an argument, divided by a million -/
def overSpec (h l : Nat) : Int × Int × Bool := if 1000000 ≤ h then (0, 0, false) else
  if 4611686018427387903 < (h * 18446744073709551616 + l) / 1000000 then (0, 0, false) else ((((h * 18446744073709551616 + l) / 1000000 : Nat) : Int), (((h * 18446744073709551616 + l) % 1000000 : Nat) : Int), true)

set_option maxRecDepth 100000 in
set_option maxHeartbeats 1000000 in
theorem over_any (h l : Nat) (hl : l < 18446744073709551616) (w : World) :
    Calls Try.prog 56 #[.agg #[.int .u64 (h : Int), .int .u64 (l : Int)], .int .i64 1000000] w fun e w' => e = .returned (.tuple #[.int .i64 (overSpec h l).1, .int .i64 (overSpec h l).2.1, .bool (overSpec h l).2.2]) ∧ Below w.heap.size w w' := by
  by_cases h1 : 1000000 ≤ h
  · have e : overSpec h l = (0, 0, false) := by unfold overSpec; rw [if_pos h1]
    rw [e]
    have d1 : decide (1000000 ≤ (h : Int)) = true := by simp; omega
    clear e hl
    go_enter Try.func56, Try.ntmps56
    go_wp2
    go_ret3
    exact ⟨rfl, (Below.refl _ _).alloc (Nat.le_refl _) _⟩
  · have D := fun w => div64_million h l (by omega) hl w
    have d1 : decide (1000000 ≤ (h : Int)) = false := by simp; omega
    have e : overSpec h l = if 4611686018427387903 < (h * 18446744073709551616 + l) / 1000000 then (0, 0, false) else ((((h * 18446744073709551616 + l) / 1000000 : Nat) : Int), (((h * 18446744073709551616 + l) % 1000000 : Nat) : Int), true) := by unfold overSpec; rw [if_neg h1]
    obtain ⟨q, hq⟩ : ∃ q, (h * 18446744073709551616 + l) / 1000000 = q := ⟨_, rfl⟩
    obtain ⟨r, hr⟩ : ∃ r, (h * 18446744073709551616 + l) % 1000000 = r := ⟨_, rfl⟩
    have hr2 : r < 1000000 := by rw [← hr]; exact Nat.mod_lt _ (by omega)
    rw [hq, hr] at D e
    have HD := Lib.hid D
    clear D hl hq hr h1
    by_cases h2 : 4611686018427387903 < q
    · rw [if_pos h2] at e
      rw [e]
      have d2 : decide (4611686018427387903 < (q : Int)) = true := by simp; omega
      clear e h2
      go_enter Try.func56, Try.ntmps56
      go_wp2_with fail
      refine (HD.out _).mono ?_
      rintro e w' ⟨rfl, n, rfl⟩
      go_wp2_with fail
      go_ret3
      exact ⟨rfl, below_drewN ((Below.refl _ _).alloc (Nat.le_refl _) _) _⟩
    · rw [if_neg h2] at e
      rw [e]
      have d2 : decide (4611686018427387903 < (q : Int)) = false := by simp; omega
      have w1 : IntKind.i64.wrap (q : Int) = (q : Int) := IntWalk.i64_in _ (by omega)
      have hr3 : (r : Int) < 1000000 := by omega
      clear e h2 hr2
      go_enter Try.func56, Try.ntmps56
      go_wp2_with fail
      refine (HD.out _).mono ?_
      rintro e w' ⟨rfl, n, rfl⟩
      go_wp2_with fail
      go_ret3
      exact ⟨rfl, below_drewN ((Below.refl _ _).alloc (Nat.le_refl _) _) _⟩
end Go.Proofs.Ytejkgnlflhngbaa
