/- The reference implementation: String. -/
import Derived.Test.YtmakkfgdpdbcnaaDoorWireN
import Derived.Test.YtmakkfgdpdbcnaaDoorWireE
namespace Go.Proofs.YtmakkfgdpdbcnaaDoor
open Go Go.RowKit

set_option maxRecDepth 100000 in
set_option maxHeartbeats 1000000 in
theorem refString_any (s : ByteArray) (a : Int) (w : World) (hs : s.size ≤ 140737488351232) (h1 : -9223372036854775808 ≤ a) (h2 : a ≤ 9223372036854775807) :
    Calls Tryd.prog 18 #[.string s, .int .i64 a] w fun e w' => e = .returned (V3s (strSpec s.data.toList a)) ∧ Below w.heap.size w w' := by
  have hb := intSpec_bd s.data.toList a h1 h2
  have H0 : strSpec s.data.toList a = strSpec s.data.toList a := rfl
  conv at H0 => rhs; unfold strSpec
  obtain ⟨r, hr⟩ : ∃ r, intSpec s.data.toList a = r := ⟨_, rfl⟩
  have hcall := refInt_any s a w hs h1 h2
  rw [hr] at hb H0 hcall
  obtain ⟨n, x, er⟩ := r
  dsimp only at hb H0
  rw [show s.data.toList.length = s.size from by simp] at hb H0
  clear hr
  have H := Lib.hid H0; clear H0
  have HC := Lib.hid hcall; clear hcall
  by_cases he : er = 0
  · subst he
    by_cases hbad : n < 0 ∨ 65536 < n ∨ (s.size : Int) - x < n
    · rcases Classical.em (n < 0) with c1 | c1
      · go_enter Tryd.func18, Tryd.ntmps18
        go_wp2_with fail
        refine HC.out.mono ?_
        rintro e w' ⟨rfl, hbw⟩
        unfold V3
        go_wp2
        go_ret3
        exact ⟨by rw [H.out, if_neg (by omega), if_pos hbad]; rfl, hbw⟩
      · rcases Classical.em (65536 < n) with c2 | c2
        · go_enter Tryd.func18, Tryd.ntmps18
          go_wp2_with fail
          refine HC.out.mono ?_
          rintro e w' ⟨rfl, hbw⟩
          unfold V3
          go_wp2
          go_ret3
          exact ⟨by rw [H.out, if_neg (by omega), if_pos hbad]; rfl, hbw⟩
        · have c3 : (s.size : Int) - x < n := by omega
          have HB := Lib.hid hbad; clear hbad
          go_enter Tryd.func18, Tryd.ntmps18
          go_wp2_with fail
          refine HC.out.mono ?_
          rintro e w' ⟨rfl, hbw⟩
          unfold V3
          go_wp2
          go_ret3
          exact ⟨by rw [H.out, if_neg (by omega), if_pos HB.out]; rfl, hbw⟩
    · obtain ⟨m, rfl⟩ : ∃ m : Nat, n = (m : Int) := ⟨n.toNat, by omega⟩
      obtain ⟨y, rfl⟩ : ∃ y : Nat, x = (y : Int) := ⟨x.toNat, by omega⟩
      have c1 : m ≤ 65536 := by omega
      have c2 : y + m ≤ s.size := by omega
      clear hbad
      go_enter Tryd.func18, Tryd.ntmps18
      go_wp2_with fail
      refine HC.out.mono ?_
      rintro e w' ⟨rfl, hbw⟩
      unfold V3
      have hsl : ∀ wx, (Instr.slice 9 (.string s) (some (.int .i64 (y : Int))) (some (.int .i64 ((y : Int) + m))) none).run Tryd.prog wx = .ok (.string (s.extract y (y + m))) wx := fun wx => by
        have := run_slice_string (P := Tryd.prog) (w := wx) 9 s .i64 .i64 (y : Int) ((y : Int) + m) Tryd.underlying9 (by omega) (by omega) (by omega)
        rw [this, show ((y : Int) + m).toNat = y + m by omega]; rfl
      go_wp2
      go_ret3
      refine ⟨?_, hbw⟩
      rw [H.out, if_neg (by omega), if_neg (by omega)]
      exact congrArg (fun v => Ending.returned (.tuple #[.string v, .int .i64 (y + m), .int .i64 0])) (extract_list s y m)
  · go_enter Tryd.func18, Tryd.ntmps18
    go_wp2_with fail
    refine HC.out.mono ?_
    rintro e w' ⟨rfl, hbw⟩
    unfold V3
    go_wp2
    go_ret3
    exact ⟨by rw [H.out, if_pos he]; rfl, hbw⟩
end Go.Proofs.YtmakkfgdpdbcnaaDoor
