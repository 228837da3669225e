/- Contracts of pick, is, Days. -/
import Derived.Test.YtkcdfnngdmnkhaaDoorProg
import Derived.WalkKit
import Derived.WalkLawsBesides
import Derived.Lib.Hide
import Derived.Test.YtkcdfnngdmnkhaaDoorPerPlain
namespace Go.Proofs.YtkcdfnngdmnkhaaDoor
open Go Go.RowKit

def pickN (c n : Int) : Int := (if c < 0 then -(c + 1) else c) % n
theorem pickN_bd (c n : Int) (hn : 1 ≤ n) : 0 ≤ pickN c n ∧ pickN c n < n := by
  unfold pickN; exact ⟨Int.emod_nonneg _ (by omega), Int.emod_lt_of_pos _ (by omega)⟩

set_option maxHeartbeats 400000 in
theorem pick_any (c n : Int) (w : World) (h1 : -9223372036854775808 ≤ c) (h2 : c ≤ 9223372036854775807) (hn : 1 ≤ n) (hn2 : n ≤ 9223372036854775807) :
    Calls Tryd.prog 9 #[.int .i64 c, .int .i64 n] w fun e w' => e = .returned (.int .i64 (pickN c n)) ∧ w = w' := by
  by_cases hc : c < 0
  · have e : pickN c n = -(c + 1).tmod n := by
      unfold pickN; rw [if_pos hc, ← Int.neg_tmod, Int.tmod_eq_emod_of_nonneg (by omega)]
    have H := Lib.hid e; clear e
    go_enter Tryd.func9, Tryd.ntmps9
    go_wp2
    go_ret
    exact ⟨by rw [H.out]; rfl, rfl⟩
  · have e : pickN c n = c % n := by unfold pickN; rw [if_neg hc]
    have H := Lib.hid e; clear e
    go_enter Tryd.func9, Tryd.ntmps9
    go_wp2
    go_ret
    exact ⟨by rw [H.out]; rfl, rfl⟩

/-- the table lies where the program's text lays it -/
def LenAt (w : World) : Prop := ∀ j : Nat, j < 12 → w.cell? ⟨0, j, none⟩ = some (.int .i64 ((PerP.tab.getD j 0 : Nat) : Int))
theorem LenAt.below {w w' : World} (h : LenAt w) (hb : Below w.heap.size w w') (h0 : 0 < w.heap.size) : LenAt w' := fun j hj => (hb.cell (p := ⟨0, j, none⟩) h0).trans (h j hj)
theorem LenAt.alloc {w : World} (h : LenAt w) (h0 : 0 < w.heap.size) (o : Obj) : LenAt (w.alloc o) := h.below ((Below.refl _ _).alloc (Nat.le_refl _) _) h0
theorem tab_bd (j : Nat) : PerP.tab.getD j 0 ≤ 31 := by
  by_cases h : j < 12
  · exact (by decide : ∀ j : Fin 12, PerP.tab.getD j.val 0 ≤ 31) ⟨j, h⟩
  · have : PerP.tab[j]? = none := List.getElem?_eq_none (by simp [PerP.tab]; omega)
    rw [List.getD_eq_getElem?_getD, this]; decide

def daysSpec (p : Int) : Int := if 0 ≤ p ∧ p < 1200 then ((PerP.days p.toNat : Nat) : Int) else 0
theorem daysSpec_in {k : Nat} (h : k < 1200) : daysSpec (k : Int) = ((PerP.days k : Nat) : Int) := by
  unfold daysSpec; rw [if_pos (by omega)]; simp

set_option maxHeartbeats 400000 in
theorem is_any (p : Int) (w : World) :
    Calls Tryd.prog 20 #[.int .i64 p] w fun e w' => e = .returned (.bool (decide (0 ≤ p ∧ p < 1200))) ∧ w = w' := by
  by_cases h0 : 0 ≤ p
  · by_cases h1 : p < 1200
    · rw [show decide (0 ≤ p ∧ p < 1200) = true by simp; omega]
      go_enter Tryd.func20, Tryd.ntmps20
      go_wp2
      go_ret
      exact ⟨rfl, rfl⟩
    · rw [show decide (0 ≤ p ∧ p < 1200) = false by simp; omega]
      go_enter Tryd.func20, Tryd.ntmps20
      go_wp2
      go_ret
      exact ⟨rfl, rfl⟩
  · rw [show decide (0 ≤ p ∧ p < 1200) = false by simp; omega]
    go_enter Tryd.func20, Tryd.ntmps20
    go_wp2
    go_ret
    exact ⟨rfl, rfl⟩

set_option maxRecDepth 100000 in
set_option maxHeartbeats 1000000 in
theorem days_any (p : Int) (w : World) (hT : LenAt w) :
    Calls Tryd.prog 16 #[.int .i64 p] w fun e w' => e = .returned (.int .i64 (daysSpec p)) ∧ w = w' := by
  have HT := Lib.hid hT; clear hT
  have IS := is_any p
  by_cases h : 0 ≤ p ∧ p < 1200
  · obtain ⟨k, rfl⟩ : ∃ k : Nat, p = (k : Int) := ⟨p.toNat, by omega⟩
    have hk : k < 1200 := by omega
    rw [daysSpec_in hk]
    rw [show decide (0 ≤ (k : Int) ∧ (k : Int) < 1200) = true by simp; omega] at IS
    have HIS := Lib.hid IS; clear IS
    clear h
    by_cases h1 : k % 48 = 1
    · have q1 : (((k : Int) % 48) == 1) = true := by rw [beq_iff_eq]; omega
      have e3 : w.cell? ⟨0, 1, none⟩ = some (.int .i64 28) := HT.out 1 (by omega)
      have ed : PerP.days k = 29 := by unfold PerP.days; rw [if_pos h1]
      have HD := Lib.hid ed; clear ed h1
      go_enter Tryd.func16, Tryd.ntmps16
      go_wp2_with fail
      refine (HIS.out _).mono ?_
      rintro e w' ⟨rfl, rfl⟩
      go_wp2
      go_ret
      exact ⟨by rw [HD.out]; rfl, rfl⟩
    · have q1 : (((k : Int) % 48) == 1) = false := by rw [beq_eq_false_iff_ne]; omega
      have e3 := HT.out (k % 12) (Nat.mod_lt _ (by omega))
      have ed : PerP.days k = PerP.tab.getD (k % 12) 0 := by unfold PerP.days; rw [if_neg h1]
      have HD := Lib.hid ed; clear ed h1
      obtain ⟨j, hj⟩ : ∃ j, k % 12 = j := ⟨_, rfl⟩
      have hj1 : j < 12 := by omega
      have hj2 : (k : Int) % 12 = (j : Int) := by omega
      rw [hj] at e3 HD
      clear hj
      obtain ⟨t, ht⟩ : ∃ t, PerP.tab.getD j 0 = t := ⟨_, rfl⟩
      rw [ht] at e3 HD
      clear ht
      go_enter Tryd.func16, Tryd.ntmps16
      go_wp2_with fail
      refine (HIS.out _).mono ?_
      rintro e w' ⟨rfl, rfl⟩
      go_wp2
      go_ret
      exact ⟨by rw [HD.out]; rfl, rfl⟩
  · have ed : daysSpec p = 0 := by unfold daysSpec; rw [if_neg h]
    rw [ed]
    rw [show decide (0 ≤ p ∧ p < 1200) = false by simpa using h] at IS
    have HIS := Lib.hid IS; clear IS h
    go_enter Tryd.func16, Tryd.ntmps16
    go_wp2_with fail
    refine (HIS.out _).mono ?_
    rintro e w' ⟨rfl, rfl⟩
    go_wp2
    go_ret
    exact ⟨rfl, rfl⟩
end Go.Proofs.YtkcdfnngdmnkhaaDoor
