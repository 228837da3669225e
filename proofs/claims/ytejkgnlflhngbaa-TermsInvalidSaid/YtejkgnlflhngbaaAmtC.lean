/- slices.IndexFunc and ContainsFunc over integers; package amount: none, product, over, MulDiv at a million. -/
import Derived.Test.YtejkgnlflhngbaaAmtB
import Derived.Test.YtejkgnlflhngbaaBaseC
namespace Go.Proofs.Ytejkgnlflhngbaa
open Go Go.RowKit Go.Lib

/-- the first index at which a test says yes, or -1 -/
def idxF (pd : Int → Bool) (xs : Nat → Int) (n : Nat) : Int :=
  match (List.range n).find? (fun i => pd (xs i)) with
  | some i => (i : Int)
  | none => -1

theorem idxF_some {pd : Int → Bool} {xs : Nat → Int} {n k : Nat} (h : ∀ i, i < k → pd (xs i) = false) (hk : k < n) (hp : pd (xs k) = true) : idxF pd xs n = (k : Int) := by
  unfold idxF
  have : (List.range n).find? (fun i => pd (xs i)) = some k := by
    rw [List.find?_eq_some_iff_getElem]
    refine ⟨hp, k, by simpa using hk, by simp, fun j hj => by simpa using h j hj⟩
  rw [this]
theorem idxF_none {pd : Int → Bool} {xs : Nat → Int} {n : Nat} (h : ∀ i, i < n → pd (xs i) = false) : idxF pd xs n = -1 := by
  unfold idxF
  have : (List.range n).find? (fun i => pd (xs i)) = none := by
    rw [List.find?_eq_none]
    intro i hi
    simp [h i (by simpa using hi)]
  rw [this]

set_option maxRecDepth 100000 in
set_option maxHeartbeats 1000000 in
theorem indexInts_any (g : FuncId) (cap : Value) (pd : Int → Bool) (b : Nat) (n c : Nat) (xs : Nat → Int) (w : World) (hn : n ≤ 1000000)
    (eg : ∀ args w, (callFunc g args).run Try.prog w = .ok (.enter g args) w)
    (hc : ∀ i, i < n → w.cell? ⟨b, i, none⟩ = some (.int .i64 (xs i)))
    (hg : ∀ x, Calls Try.prog g #[.int .i64 x, cap] w fun e w' => e = .returned (.bool (pd x)) ∧ w = w') :
    Calls Try.prog 49 #[.slice (some ⟨b, 0, none⟩) n c, .func (.func g) #[] #[cap]] w fun e w' => e = .returned (.int .i64 (idxF pd xs n)) ∧ w = w' := by
  have HC := Lib.hid hc; clear hc
  have HG := Lib.hid hg; clear hg
  go_enter Try.func49, Try.ntmps49
  go_wp2_with fail
  go_loop [8] (fun iv => ∃ k : Nat, k ≤ n ∧ iv = .int .i64 k ∧ Hid (∀ i, i < k → pd (xs i) = false)) (fun i => n - (intOf i).toNat)
  case atStart => exact ⟨0, by omega, rfl, Lib.hid (fun i hi => by omega)⟩
  case round =>
    obtain ⟨k, hk, rfl, HK⟩ := hrel
    by_cases hlt : k < n
    · have hck := HC.out k hlt
      obtain ⟨x, hx⟩ : ∃ x, xs k = x := ⟨_, rfl⟩
      rw [hx] at hck
      obtain ⟨t, ht⟩ : ∃ t, pd x = t := ⟨_, rfl⟩
      have HG1 := Lib.hid (show Calls Try.prog g #[.int .i64 x, cap] w fun e w' => e = .returned (.bool t) ∧ w = w' by rw [← ht]; exact HG.out x)
      cases t
      · have HK2 : Hid (∀ i, i < k + 1 → pd (xs i) = false) := Lib.hid (fun i hi => by
          rcases Nat.lt_or_ge i k with h | h
          · exact HK.out i h
          · obtain rfl : i = k := by omega
            rw [hx, ht])
        clear HK hx ht
        go_wp2_with fail
        refine (HG1.out).mono ?_
        rintro e w' ⟨rfl, rfl⟩
        go_wp2_with fail
        go_round
        case rel => exact ⟨k + 1, by omega, by go_num, HK2⟩
        case measure => simp [intOf]; omega
      · have HR : Hid (idxF pd xs n = (k : Int)) := Lib.hid (idxF_some HK.out hlt (by rw [hx, ht]))
        clear HK hx ht
        go_wp2_with fail
        refine (HG1.out).mono ?_
        rintro e w' ⟨rfl, rfl⟩
        go_wp2_with fail
        go_ret
        exact ⟨by rw [HR.out]; rfl, rfl⟩
    · obtain rfl : k = n := by omega
      have HR : Hid (idxF pd xs k = -1) := Lib.hid (idxF_none HK.out)
      clear HK
      go_wp2_with fail
      go_ret
      exact ⟨by rw [HR.out]; rfl, rfl⟩
end Go.Proofs.Ytejkgnlflhngbaa
