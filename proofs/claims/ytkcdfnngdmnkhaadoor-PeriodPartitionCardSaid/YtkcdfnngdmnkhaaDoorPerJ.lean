/- Format of package period, and Parse. -/
import Derived.Test.YtkcdfnngdmnkhaaDoorPerI
namespace Go.Proofs.YtkcdfnngdmnkhaaDoor
open Go Go.RowKit

theorem digits_int (v : Value) (l : List UInt8) (n width : Nat) (N K : Int) (W0 w : World) (hN : N = (n : Int)) (hK : K = (width : Int)) (hl : l.length ≤ 8) (hn : n < 10000) (hwd : width ≤ 4)
    (hown : w.ownsRow W0.heap.size 5 1 v l.length (u8s l)) (hB : Below W0.heap.size W0 w) :
    Calls Tryd.prog 21 #[v, .int .i64 N, .int .i64 K] w (Owns W0 (l ++ PerP.dgsTo n width width)) := by
  subst hN; subst hK
  exact digits_any v l n width W0 w hl hn hwd hown hB

theorem PerP.fmt_dgs (p : Nat) : (PerP.dgsTo (2000 + p / 12) 4 4 ++ [45]) ++ PerP.dgsTo (1 + p % 12) 2 2 = PerP.fmt p := by
  simp [PerP.dgsTo, PerP.fmt, List.range_succ]

set_option maxRecDepth 100000 in
set_option maxHeartbeats 1000000 in
theorem format_in (p : Nat) (hp : p < 1200) (w : World) :
    Calls Tryd.prog 12 #[.int .i64 (p : Int)] w fun e w' => e = .returned (V2f (PerP.fmt p, 0)) ∧ Below w.heap.size w w' := by
  have IS := is_any (p : Int)
  rw [show decide (0 ≤ (p : Int) ∧ (p : Int) < 1200) = true by simp; omega] at IS
  have HIS := Lib.hid IS; clear IS
  obtain ⟨i0, hi, hz0, hz1, hz2⟩ := info_parts info_u8
  go_enter Tryd.func12, Tryd.ntmps12
  go_wp2_with fail
  refine (HIS.out _).mono ?_
  rintro e w' ⟨rfl, rfl⟩
  go_wp2_with fail
  refine (digits_int _ [] (2000 + p / 12) 4 _ _ w _ (by omega) (by rfl) (by simp) (by omega) (by omega) (World.ownsRow_nil _ _ _ _) (Below.refl _ _)).mono ?_
  rintro e w1 ⟨v1, rfl, own1, hb1⟩
  have hl1 : ([] ++ PerP.dgsTo (2000 + p / 12) 4 4).length = 4 := by simp [PerP.dgsTo_len]
  rw [hl1] at own1
  have hsz1 := hb1.size
  have HB1 := Lib.hid hb1; clear hb1 hl1
  go_wp2_with (first | (at_builtin; refine wpList_append_own _ rfl (.tmp 11) (.tmp 12) 36 rfl w.heap.size 5 i0 (.int .u8 0) 1 1 Tryd.underlying36 hi hz0 hz1 hz2 rfl (by decide) _ _ _ rfl (own1.alloc _) ⟨w1.heap.size, 0, none⟩ 1 1 _ rfl (by rfl) (cell_one_new _ _ _) (by simp [Value.oneCell']) (by unfold maxLen; omega) (by omega) (by simp; omega) ?_; intro v' w2 hown' hgrow _))
  have hb2 : Below w.heap.size w w2 := (HB1.out.alloc hsz1 _).grown hgrow (by simp; omega) (fun j e => (own1.lt j e).1)
  have hown2 : w2.ownsRow w.heap.size 5 1 v' (PerP.dgsTo (2000 + p / 12) 4 4 ++ [45]).length (u8s (PerP.dgsTo (2000 + p / 12) 4 4 ++ [45])) := by
    have e1 : (PerP.dgsTo (2000 + p / 12) 4 4 ++ [45]).length = 4 + 1 := by simp [PerP.dgsTo_len]
    have e2 : u8s (PerP.dgsTo (2000 + p / 12) 4 4 ++ [45]) = u8s ([] ++ PerP.dgsTo (2000 + p / 12) 4 4) ++ [.int .u8 45] := by simp [u8s]
    rw [e1, e2]; exact hown'
  clear hown' hgrow own1
  refine (digits_int _ _ (1 + p % 12) 2 _ _ w _ (by omega) (by rfl) (by simp [PerP.dgsTo_len]) (by omega) (by omega) hown2 hb2).mono ?_
  rintro e w3 ⟨v3, rfl, own3, hb3⟩
  rw [PerP.fmt_dgs] at own3
  obtain ⟨g', cap', rfl⟩ := ownsRow_succ (k := 6) own3
  have hcv := run_string_of_row (P := Tryd.prog) w3 36 9 5 ⟨g', 0, none⟩ 7 cap' (PerP.fmt p) Tryd.underlying36 Tryd.underlying5 Tryd.underlying9 rfl (own3.cells rfl)
  clear own3 hb2 hown2
  go_wp2_with fail
  go_ret2
  exact ⟨rfl, hb3⟩
end Go.Proofs.YtkcdfnngdmnkhaaDoor
