/- Same of equal lists; pick. -/
import Derived.Test.YtdackmefkccipaaExO
import Derived.Test.YtdackmefkccipaaExK
namespace Go.Proofs.Ytdackmefkccipaa
open Go Go.RowKit Go.Lib Go.Shelf

theorem below_drewN' {B : Nat} {a w : World} (h : Below B a w) (n : Nat) : Below B a (w.drewN n) := below_drewN h n

set_option maxHeartbeats 400000 in
theorem neq_share (x y : Int) (w : World) : (binOp .neq 44 (.agg #[.int .i64 x, .int .i64 y]) (.agg #[.int .i64 x, .int .i64 y])).run Try.prog w = .ok (.bool false) w := by
  simp [go_sem]

set_option maxRecDepth 100000 in
set_option maxHeartbeats 2000000 in
theorem same_eq (va vb : Value) (l : List (Int × Int)) (w : World) (hl : l.length ≤ 1000000) (ha : SharesAt w va l) (hb : SharesAt w vb l) :
    Calls Try.prog 14 #[va, vb] w fun e w' => e = .returned (.bool true) ∧ Below w.heap.size w w' := by
  rcases ha with ⟨rfl, A, c, rfl⟩ | ⟨b1, o1, c1, rfl, hlt1, h1⟩
  · obtain ⟨A2, c2, rfl⟩ : ∃ A c, vb = .slice A 0 c := by
      rcases hb with ⟨_, A2, c2, rfl⟩ | ⟨b2, o2, c2, rfl, _⟩
      · exact ⟨_, _, rfl⟩
      · exact ⟨_, _, rfl⟩
    go_enter Try.func14, Try.ntmps14
    go_wp2_with fail
    refine wp_loop_rounds 1 ?_
    rw [rounds_succ]
    go_wp2_with fail
    go_ret
    exact ⟨rfl, Below.refl _ _⟩
  · rcases hb with ⟨rfl, A2, c2, rfl⟩ | ⟨b2, o2, c2, rfl, hlt2, h2⟩
    · go_enter Try.func14, Try.ntmps14
      go_wp2_with fail
      refine wp_loop_rounds 1 ?_
      rw [rounds_succ]
      go_wp2_with fail
      go_ret
      exact ⟨rfl, Below.refl _ _⟩
    · obtain ⟨m, hm⟩ : ∃ m, l.length = m := ⟨_, rfl⟩
      rw [hm] at hl ⊢
      have HM := Lib.hid hm
      have H1 := Lib.hid h1
      have H2 := Lib.hid h2
      clear hm h1 h2
      go_enter Try.func14, Try.ntmps14
      go_wp2_with fail
      go_loopw [5] (fun iv wr => ∃ (k : Nat), k ≤ m ∧ iv = .int .i64 k ∧ Hid (Below w.heap.size w wr)) (fun i _ => m - (intOf i).toNat)
      case atStart => exact ⟨0, by omega, rfl, Lib.hid (Below.refl _ _)⟩
      case round =>
        obtain ⟨k, hk, rfl, HB⟩ := hrel
        by_cases hk2 : k < m
        · obtain ⟨⟨x, y⟩, hf⟩ : ∃ f, l[k]? = some f := ⟨_, List.getElem?_eq_getElem (by rw [HM.out]; exact hk2)⟩
          obtain ⟨a1, a2⟩ := H1.out k x y hf
          obtain ⟨e1, e2⟩ := H2.out k x y hf
          have ca1 := (HB.out.cell (p := ⟨b1, o1 + k * 2, none⟩) hlt1).trans a1
          have ca2 := (HB.out.cell (p := ⟨b1, o1 + k * 2 + 1, none⟩) hlt1).trans a2
          have cb1 := (HB.out.cell (p := ⟨b2, o2 + k * 2, none⟩) hlt2).trans e1
          have cb2 := (HB.out.cell (p := ⟨b2, o2 + k * 2 + 1, none⟩) hlt2).trans e2
          have hnq := neq_share x y
          clear hf a1 a2 e1 e2
          go_wp2_with fail
          go_quiet (fail)
          go_wp2_with fail
          go_roundw
          case rel => exact ⟨k + 1, by omega, by go_num, Lib.hid (below_drewN HB.out _)⟩
          case measure => simp [intOf]; omega
        · obtain rfl : k = m := by omega
          go_wp2_with fail
          go_ret
          exact ⟨rfl, HB.out⟩

def pickN (c n : Int) : Int := (if c < 0 then -(c + 1) else c) % n
theorem pickN_bd (c n : Int) (hn : 1 ≤ n) : 0 ≤ pickN c n ∧ pickN c n < n := by
  unfold pickN; exact ⟨Int.emod_nonneg _ (by omega), Int.emod_lt_of_pos _ (by omega)⟩

set_option maxHeartbeats 400000 in
theorem pick_any (c n : Int) (w : World) (h1 : -9223372036854775808 ≤ c) (h2 : c ≤ 9223372036854775807) (hn : 1 ≤ n) (hn2 : n ≤ 9223372036854775807) :
    Calls Try.prog 9 #[.int .i64 c, .int .i64 n] w fun e w' => e = .returned (.int .i64 (pickN c n)) ∧ w = w' := by
  by_cases hc : c < 0
  · have e : pickN c n = -(c + 1).tmod n := by
      unfold pickN; rw [if_pos hc, ← Int.neg_tmod, Int.tmod_eq_emod_of_nonneg (by omega)]
    have H := Lib.hid e; clear e
    go_enter Try.func9, Try.ntmps9
    go_wp2
    go_ret
    exact ⟨by rw [H.out]; rfl, rfl⟩
  · have e : pickN c n = c % n := by unfold pickN; rw [if_neg hc]
    have H := Lib.hid e; clear e
    go_enter Try.func9, Try.ntmps9
    go_wp2
    go_ret
    exact ⟨by rw [H.out]; rfl, rfl⟩
end Go.Proofs.Ytdackmefkccipaa
