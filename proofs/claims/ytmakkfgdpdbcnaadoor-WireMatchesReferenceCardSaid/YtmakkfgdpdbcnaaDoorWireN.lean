/- The reference implementation: Int. -/
import Derived.Test.YtmakkfgdpdbcnaaDoorWireK
import Derived.Test.YtmakkfgdpdbcnaaDoorWireM
namespace Go.Proofs.YtmakkfgdpdbcnaaDoor
open Go Go.RowKit

/-- at the last byte the reference asks whether PutInt writes the same bytes -/
theorem refInt_last {l : List UInt8} {a k acc : Nat} {b : UInt8} (hk : k < 9) (hl : l[a + k]? = some b) (h : DecAt l a k acc) (hb : b.toNat < 128) {z : Nat} (hz : acc + b.toNat % 128 * 128 ^ k = z) :
    ((putSpec (WireP.unzz z)).2 = 0 ∧ (putSpec (WireP.unzz z)).1 = (l.drop a).take (k + 1) ∧ intOk l a = (WireP.unzz z, ((a + (k + 1) : Nat) : Int), 0)) ∨
    (((putSpec (WireP.unzz z)).2 = 10 ∨ ((putSpec (WireP.unzz z)).2 = 0 ∧ (putSpec (WireP.unzz z)).1 ≠ (l.drop a).take (k + 1))) ∧ intOk l a = (0, 0, 10)) := by
  subst hz
  have hd := decAt_byte hk hl h
  rw [if_neg (by omega)] at hd
  by_cases hc : (b.toNat = 0 ∧ 0 < k) ∨ WireP.unzz (acc + b.toNat % 128 * 128 ^ k) < -4611686018427387903
  · rw [if_pos hc] at hd
    refine Or.inr ⟨?_, decAt_bad hk hl h hb hc⟩
    by_cases hr : WireP.unzz (acc + b.toNat % 128 * 128 ^ k) < -4611686018427387903 ∨ 4611686018427387903 < WireP.unzz (acc + b.toNat % 128 * 128 ^ k)
    · left; unfold putSpec; rw [if_pos hr]
    · right
      unfold putSpec; rw [if_neg hr]
      refine ⟨rfl, fun he => ?_⟩
      have hde := WireP.dec_enc (n := WireP.unzz (acc + b.toNat % 128 * 128 ^ k)) (by omega) (by omega) ((l.drop a).drop (k + 1))
      rw [show WireP.enc (WireP.zz (WireP.unzz (acc + b.toNat % 128 * 128 ^ k))) = (l.drop a).take (k + 1) from he, List.take_append_drop, hd] at hde
      cases hde
  · rw [if_neg hc] at hd
    obtain ⟨g1, g2, _, g4, _, _, _⟩ := WireP.dec_some hd
    refine Or.inl ⟨?_, ?_, decAt_good hk hl h hb hc⟩
    · unfold putSpec; rw [if_neg (by omega)]
    · unfold putSpec; rw [if_neg (by omega)]; exact g4.symm

theorem refZ_step (acc b k : Nat) (hk : k < 9) (ha : acc < 128 ^ k) :
    IntKind.u64.wrap ((acc : Int) + IntKind.u64.wrap ((b : Int) % 128 * 2 ^ (7 * k))) = ((acc + b % 128 * 128 ^ k : Nat) : Int) := by
  have hp : (128 : Nat) ^ k = 2 ^ (7 * k) := by rw [Nat.pow_mul]
  have hm : 128 ^ k ≤ 128 ^ 8 := Nat.pow_le_pow_right (by omega) (by omega)
  have e8 : (128 : Nat) ^ 8 = 72057594037927936 := by decide
  have h1 : b % 128 * 128 ^ k ≤ 127 * 128 ^ k := Nat.mul_le_mul_right _ (by omega)
  have e : ((b : Int) % 128) * 2 ^ (7 * k) = ((b % 128 * 128 ^ k : Nat) : Int) := by rw [hp]; simp
  rw [e, u64_wrap_nat _ (by omega), show (acc : Int) + ((b % 128 * 128 ^ k : Nat) : Int) = ((acc + b % 128 * 128 ^ k : Nat) : Int) by omega, u64_wrap_nat _ (by omega)]

set_option maxRecDepth 100000 in
set_option maxHeartbeats 2000000 in
theorem refInt_in (s : ByteArray) (a : Nat) (w : World) (hs : s.size ≤ 140737488351232) (ha : a ≤ s.size) :
    Calls Tryd.prog 16 #[.string s, .int .i64 a] w fun e w' => e = .returned (V3 (intOk s.data.toList a)) ∧ Below w.heap.size w w' := by
  have d1 : decide ((a : Int) < 0) = false := by simp
  have d2 : decide (s.size < a) = false := by simp; omega
  go_enter Tryd.func16, Tryd.ntmps16
  go_wp2
  go_loop [7, 8] (fun z i => ∃ (k acc : Nat), k ≤ 9 ∧ i = .int .i64 k ∧ z = .int .u64 acc ∧ DecAt s.data.toList a k acc) (fun _ i => 9 - (intOf i).toNat)
  case atStart => exact ⟨0, 0, by omega, rfl, rfl, decAt_start _ _⟩
  case round =>
    obtain ⟨k, acc, hk, rfl, rfl, hd⟩ := hrel
    by_cases h9 : k < 9
    · by_cases hend : a + k < s.size
      · obtain ⟨b, hb⟩ : ∃ b, s[a + k] = b := ⟨_, rfl⟩
        have hl : s.data.toList[a + k]? = some b := by
          rw [List.getElem?_eq_getElem (by simpa using hend)]; exact congrArg some hb
        have hlt := b.toNat_lt
        have hzlt := (or_step acc b.toNat k h9 hlt hd.2).2
        have hzs := refZ_step acc b.toNat k h9 hd.2
        obtain ⟨z, hz⟩ : ∃ z, acc + b.toNat % 128 * 128 ^ k = z := ⟨_, rfl⟩
        have hz63 : z < 9223372036854775808 := by
          have : 128 ^ (k + 1) ≤ 128 ^ 9 := Nat.pow_le_pow_right (by omega) (by omega)
          have e : (128 : Nat) ^ 9 = 9223372036854775808 := by decide
          omega
        have hnext := @decAt_next _ _ _ _ _ h9 hl hd
        have hlast := fun hb => @refInt_last _ _ _ _ _ h9 hl hd hb z hz
        rw [hz] at hnext hzs
        clear hz hl hzlt
        have Hnext := Lib.hid hnext; clear hnext
        have Hlast := Lib.hid hlast; clear hlast
        clear hd
        by_cases hb1 : 128 ≤ b.toNat
        · have hd' := Hnext.out hb1
          go_wp2
          go_round
          case rel => exact ⟨k + 1, z, by omega, by go_num, rfl, hd'⟩
          case measure => simp [intOf]; omega
        · have hL := Hlast.out (by omega)
          have hsl : ∀ wx, (Instr.slice 9 (.string s) (some (.int .i64 (a : Int))) (some (.int .i64 ((a : Int) + (k : Int) + 1))) none).run Tryd.prog wx = .ok (.string ⟨((s.data.toList.drop a).take (k + 1)).toArray⟩) wx := fun wx => by
            have := run_slice_string (P := Tryd.prog) (w := wx) 9 s .i64 .i64 (a : Int) ((a : Int) + (k : Int) + 1) Tryd.underlying9 (by omega) (by omega) (by omega)
            rw [this, Int.toNat_natCast, show ((a : Int) + (k : Int) + 1).toNat = a + (k + 1) by omega, extract_list]
          have HC := refPutInt_any (WireP.unzz z)
          have bz1 : -9223372036854775808 ≤ WireP.unzz z := by unfold WireP.unzz; split <;> omega
          have bz2 : WireP.unzz z ≤ 9223372036854775807 := by unfold WireP.unzz; split <;> omega
          by_cases hodd : z % 2 = 1
          · have q1 : (((z : Int) % 2) == 1) = true := by rw [beq_iff_eq]; omega
            have eu : WireP.unzz z = -((z : Int) / 2) - 1 := by unfold WireP.unzz; rw [if_neg (by omega)]; omega
            rw [eu] at HC hL bz1 bz2
            clear hodd eu Hlast Hnext
            have hsp : ∃ p, putSpec (-((z : Int) / 2) - 1) = p := ⟨_, rfl⟩
            obtain ⟨⟨q, x⟩, hp⟩ := hsp
            rw [hp] at HC hL
            clear hp
            dsimp only at hL
            obtain ⟨sl, hsL⟩ : ∃ sl, (s.data.toList.drop a).take (k + 1) = sl := ⟨_, rfl⟩
            rw [hsL] at hL hsl
            clear hsL
            have HCC := Lib.hid HC; clear HC
            rcases hL with ⟨rfl, rfl, hok⟩ | ⟨rfl | ⟨rfl, hne⟩, hok⟩
            · have H := Lib.hid hok; clear hok
              go_wp2_with fail
              refine (HCC.out _ bz1 bz2).mono ?_
              rintro e w' ⟨rfl, hb⟩
              unfold V2s; dsimp only
              have HB := Lib.hid hb; clear hb
              go_wp2
              all_goals go_ret3
              all_goals exact ⟨intOk_ret H.out rfl (by simp; omega) rfl, HB.out⟩
            · have H := Lib.hid hok; clear hok
              go_wp2_with fail
              refine (HCC.out _ bz1 bz2).mono ?_
              rintro e w' ⟨rfl, hb⟩
              unfold V2s; dsimp only
              have HB := Lib.hid hb; clear hb
              go_wp2
              all_goals go_ret3
              all_goals exact ⟨intOk_ret H.out rfl rfl rfl, HB.out⟩
            · have H := Lib.hid hok; clear hok
              have hq : (q == sl) = false := by rw [beq_eq_false_iff_ne]; exact hne
              clear hne
              go_wp2_with fail
              refine (HCC.out _ bz1 bz2).mono ?_
              rintro e w' ⟨rfl, hb⟩
              unfold V2s; dsimp only
              have HB := Lib.hid hb; clear hb
              go_wp2
              all_goals go_ret3
              all_goals exact ⟨intOk_ret H.out rfl rfl rfl, HB.out⟩
          · have q1 : (((z : Int) % 2) == 1) = false := by rw [beq_eq_false_iff_ne]; omega
            have eu : WireP.unzz z = (z : Int) / 2 := by unfold WireP.unzz; rw [if_pos (by omega)]; omega
            rw [eu] at HC hL bz1 bz2
            clear hodd eu Hlast Hnext
            have hsp : ∃ p, putSpec ((z : Int) / 2) = p := ⟨_, rfl⟩
            obtain ⟨⟨q, x⟩, hp⟩ := hsp
            rw [hp] at HC hL
            clear hp
            dsimp only at hL
            obtain ⟨sl, hsL⟩ : ∃ sl, (s.data.toList.drop a).take (k + 1) = sl := ⟨_, rfl⟩
            rw [hsL] at hL hsl
            clear hsL
            have HCC := Lib.hid HC; clear HC
            rcases hL with ⟨rfl, rfl, hok⟩ | ⟨rfl | ⟨rfl, hne⟩, hok⟩
            · have H := Lib.hid hok; clear hok
              go_wp2_with fail
              refine (HCC.out _ bz1 bz2).mono ?_
              rintro e w' ⟨rfl, hb⟩
              unfold V2s; dsimp only
              have HB := Lib.hid hb; clear hb
              go_wp2
              all_goals go_ret3
              all_goals exact ⟨intOk_ret H.out rfl (by simp; omega) rfl, HB.out⟩
            · have H := Lib.hid hok; clear hok
              go_wp2_with fail
              refine (HCC.out _ bz1 bz2).mono ?_
              rintro e w' ⟨rfl, hb⟩
              unfold V2s; dsimp only
              have HB := Lib.hid hb; clear hb
              go_wp2
              all_goals go_ret3
              all_goals exact ⟨intOk_ret H.out rfl rfl rfl, HB.out⟩
            · have H := Lib.hid hok; clear hok
              have hq : (q == sl) = false := by rw [beq_eq_false_iff_ne]; exact hne
              clear hne
              go_wp2_with fail
              refine (HCC.out _ bz1 bz2).mono ?_
              rintro e w' ⟨rfl, hb⟩
              unfold V2s; dsimp only
              have HB := Lib.hid hb; clear hb
              go_wp2
              all_goals go_ret3
              all_goals exact ⟨intOk_ret H.out rfl rfl rfl, HB.out⟩
      · have H := Lib.hid (decAt_out _ _ _ _ h9 (by simp; omega) hd)
        clear hd
        go_wp2
        go_ret3
        exact ⟨intOk_ret H.out rfl rfl rfl, Below.refl _ _⟩
    · obtain rfl : k = 9 := by omega
      have H := Lib.hid (decAt_end _ _ _ hd)
      clear hd
      go_wp2
      go_ret3
      exact ⟨intOk_ret H.out rfl rfl rfl, Below.refl _ _⟩

set_option maxRecDepth 100000 in
set_option maxHeartbeats 400000 in
theorem refInt_any (s : ByteArray) (a : Int) (w : World) (hs : s.size ≤ 140737488351232) (h1 : -9223372036854775808 ≤ a) (h2 : a ≤ 9223372036854775807) :
    Calls Tryd.prog 16 #[.string s, .int .i64 a] w fun e w' => e = .returned (V3 (intSpec s.data.toList a)) ∧ Below w.heap.size w w' := by
  by_cases h : a < 0 ∨ (s.size : Int) < a
  · have H := Lib.hid (show intSpec s.data.toList a = (0, 0, 2) by unfold intSpec; rw [if_pos (by simpa using h)])
    rcases h with h | h
    · go_enter Tryd.func16, Tryd.ntmps16
      go_wp2
      go_ret3
      exact ⟨intOk_ret H.out rfl rfl rfl, Below.refl _ _⟩
    · have d1 : ¬ a < 0 := by omega
      go_enter Tryd.func16, Tryd.ntmps16
      go_wp2
      go_ret3
      exact ⟨intOk_ret H.out rfl rfl rfl, Below.refl _ _⟩
  · obtain ⟨n, rfl⟩ : ∃ n : Nat, a = (n : Int) := ⟨a.toNat, by omega⟩
    have e : intSpec s.data.toList (n : Int) = intOk s.data.toList n := by
      unfold intSpec; rw [if_neg (by simpa using h)]; rfl
    rw [e]
    exact refInt_in s n w hs (by omega)
end Go.Proofs.YtmakkfgdpdbcnaaDoor
