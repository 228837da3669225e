/- String of package wire. -/
import Derived.Test.YtmakkfgdpdbcnaaDoorWireC
import Derived.Test.YtmakkfgdpdbcnaaDoorBase
namespace Go.Proofs.YtmakkfgdpdbcnaaDoor
open Go Go.RowKit

/-- what String returns: the string, the end, the error -/
def strSpec (l : List UInt8) (a : Int) : List UInt8 × Int × Int :=
  let r := intSpec l a
  if r.2.2 ≠ 0 then ([], 0, r.2.2)
  else if r.1 < 0 ∨ 65536 < r.1 ∨ (l.length : Int) - r.2.1 < r.1 then ([], 0, 10)
  else ((l.drop r.2.1.toNat).take r.1.toNat, r.2.1 + r.1, 0)
def V3s (r : List UInt8 × Int × Int) : Value := .tuple #[.string ⟨r.1.toArray⟩, .int .i64 r.2.1, .int .i64 r.2.2]

theorem intSpec_bd (l : List UInt8) (a : Int) (h1 : -9223372036854775808 ≤ a) (h2 : a ≤ 9223372036854775807) :
    -4611686018427387903 ≤ (intSpec l a).1 ∧ (intSpec l a).1 ≤ 4611686018427387903 ∧ 0 ≤ (intSpec l a).2.1 ∧ (intSpec l a).2.1 ≤ l.length ∧ 0 ≤ (intSpec l a).2.2 ∧ (intSpec l a).2.2 ≤ 10 := by
  unfold intSpec
  split
  · simp
  · rename_i h
    unfold intOk
    split
    · simp
    · rename_i n k hd
      obtain ⟨b1, b2, _, _, _, _, b3⟩ := WireP.dec_some hd
      rw [List.length_drop] at b3
      refine ⟨b1, b2, by dsimp only; omega, by dsimp only; omega, by simp, by simp⟩

set_option maxRecDepth 100000 in
set_option maxHeartbeats 1000000 in
theorem string_any (s : ByteArray) (a : Int) (w : World) (hs : s.size ≤ 140737488351232) (h1 : -9223372036854775808 ≤ a) (h2 : a ≤ 9223372036854775807) :
    Calls Tryd.prog 17 #[.string s, .int .i64 a] w fun e w' => e = .returned (V3s (strSpec s.data.toList a)) ∧ w = w' := by
  have hb := intSpec_bd s.data.toList a h1 h2
  have H0 : strSpec s.data.toList a = strSpec s.data.toList a := rfl
  conv at H0 => rhs; unfold strSpec
  obtain ⟨r, hr⟩ : ∃ r, intSpec s.data.toList a = r := ⟨_, rfl⟩
  have hcall := int_any s a w hs h1 h2
  rw [hr] at hb H0 hcall
  obtain ⟨n, x, er⟩ := r
  dsimp only at hb H0
  rw [show s.data.toList.length = s.size from by simp] at hb H0
  clear hr
  have H := Lib.hid H0; clear H0
  have HC := Lib.hid hcall; clear hcall
  by_cases he : er = 0
  · subst he
    by_cases hbad : n < 0 ∨ 65536 < n ∨ (s.size : Int) - x < n
    · rcases Classical.em (n < 0) with c1 | c1
      · go_enter Tryd.func17, Tryd.ntmps17
        go_wp2_with fail
        refine HC.out.mono ?_
        rintro e w' ⟨rfl, rfl⟩
        unfold V3
        go_wp2
        go_ret3
        exact ⟨by rw [H.out, if_neg (by omega), if_pos hbad]; rfl, rfl⟩
      · rcases Classical.em (65536 < n) with c2 | c2
        · go_enter Tryd.func17, Tryd.ntmps17
          go_wp2_with fail
          refine HC.out.mono ?_
          rintro e w' ⟨rfl, rfl⟩
          unfold V3
          go_wp2
          go_ret3
          exact ⟨by rw [H.out, if_neg (by omega), if_pos hbad]; rfl, rfl⟩
        · have c3 : (s.size : Int) - x < n := by omega
          have HB := Lib.hid hbad; clear hbad
          go_enter Tryd.func17, Tryd.ntmps17
          go_wp2_with fail
          refine HC.out.mono ?_
          rintro e w' ⟨rfl, rfl⟩
          unfold V3
          go_wp2
          go_ret3
          exact ⟨by rw [H.out, if_neg (by omega), if_pos HB.out]; rfl, rfl⟩
    · obtain ⟨m, rfl⟩ : ∃ m : Nat, n = (m : Int) := ⟨n.toNat, by omega⟩
      obtain ⟨y, rfl⟩ : ∃ y : Nat, x = (y : Int) := ⟨x.toNat, by omega⟩
      have c1 : m ≤ 65536 := by omega
      have c2 : y + m ≤ s.size := by omega
      clear hbad
      go_enter Tryd.func17, Tryd.ntmps17
      go_wp2_with fail
      refine HC.out.mono ?_
      rintro e w' ⟨rfl, rfl⟩
      unfold V3
      have hsl : ∀ wx, (Instr.slice 9 (.string s) (some (.int .i64 (y : Int))) (some (.int .i64 ((y : Int) + m))) none).run Tryd.prog wx = .ok (.string (s.extract y (y + m))) wx := fun wx => by
        have := run_slice_string (P := Tryd.prog) (w := wx) 9 s .i64 .i64 (y : Int) ((y : Int) + m) Tryd.underlying9 (by omega) (by omega) (by omega)
        rw [this, show ((y : Int) + m).toNat = y + m by omega]; rfl
      go_wp2
      go_ret3
      refine ⟨?_, rfl⟩
      rw [H.out, if_neg (by omega), if_neg (by omega)]
      exact congrArg (fun v => Ending.returned (.tuple #[.string v, .int .i64 (y + m), .int .i64 0])) (extract_list s y m)
  · go_enter Tryd.func17, Tryd.ntmps17
    go_wp2_with fail
    refine HC.out.mono ?_
    rintro e w' ⟨rfl, rfl⟩
    unfold V3
    go_wp2
    go_ret3
    exact ⟨by rw [H.out, if_pos he]; rfl, rfl⟩
end Go.Proofs.YtmakkfgdpdbcnaaDoor
