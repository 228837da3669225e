/- hex. -/
import Derived.Test.YtgmdjbhclihflaaDoorDgLa
namespace Go.Proofs.YtgmdjbhclihflaaDoor
open Go Go.RowKit Go.Lib Go.Shelf
attribute [local go_sem] Oper.semAt_some

def hexA : List UInt8 := [48, 49, 50, 51, 52, 53, 54, 55, 56, 57, 97, 98, 99, 100, 101, 102]
def hex1 (x : UInt8) : List UInt8 := [hexA.getD (x.toNat / 16) 0, hexA.getD (x.toNat % 16) 0]
def hexB (s : List UInt8) : List UInt8 := s.flatMap hex1
theorem hex_cut : ∀ a : Fin 16, (⟨#[48, 49, 50, 51, 52, 53, 54, 55, 56, 57, 97, 98, 99, 100, 101, 102]⟩ : ByteArray).extract a.val (a.val + 1) = ⟨#[hexA.getD a.val 0]⟩ := by decide
set_option maxRecDepth 100000 in
set_option maxHeartbeats 1000000 in
theorem hex_any (s : List UInt8) (w : World) (hs : s.length ≤ 1000) :
    Calls Tryd.prog 36 #[.string ⟨s.toArray⟩] w fun e w' => e = .returned (.string ⟨(hexB s).toArray⟩) ∧ Below w.heap.size w w' := by
  obtain ⟨R, hR⟩ : ∃ R, hexB s = R := ⟨_, rfl⟩
  rw [hR]
  obtain ⟨n, hn⟩ : ∃ n, s.length = n := ⟨_, rfl⟩
  rw [hn] at hs
  have HR := Lib.hid hR
  have HN := Lib.hid hn
  clear hR
  go_enter Tryd.func36, Tryd.ntmps36
  go_wp2_with fail
  go_loopw [3, 4] (fun v3 v4 wr => ∃ (i : Nat) (o : List UInt8), v3 = .string ⟨o.toArray⟩ ∧ v4 = .int .i64 i ∧ i ≤ n ∧ Hid (o = hexB (s.take i)) ∧ o.length = 2 * i ∧ Hid (Below w.heap.size w wr)) (fun _ v4 _ => n - (RowKit.intOf v4).toNat)
  case atStart => exact ⟨0, [], rfl, rfl, by omega, Lib.hid rfl, rfl, Lib.hid (Below.refl _ _)⟩
  case round =>
    obtain ⟨i, o, rfl, rfl, hi, HS, hol, HB⟩ := hrel
    by_cases hi2 : i < n
    · obtain ⟨x, hx⟩ : ∃ x, s[i]? = some x := ⟨_, List.getElem?_eq_getElem (by rw [hn]; exact hi2)⟩
      have hi3 : (i : Int) < (n : Int) := by omega
      have hib : i < (⟨s.toArray⟩ : ByteArray).size := by show i < s.toArray.size; simp; omega
      have hgx : (⟨s.toArray⟩ : ByteArray)[i]'hib = x := by
        have h := (List.getElem?_eq_some_iff.1 hx).2
        rw [← h]
        show s.toArray[i] = _
        simp
      have hxb := x.toNat_lt
      obtain ⟨a, ha⟩ : ∃ a, x.toNat / 16 = a := ⟨_, rfl⟩
      obtain ⟨r, hr⟩ : ∃ r, x.toNat % 16 = r := ⟨_, rfl⟩
      obtain ⟨a1, ha1⟩ : ∃ z, a + 1 = z := ⟨_, rfl⟩
      obtain ⟨r1, hr1⟩ : ∃ z, r + 1 = z := ⟨_, rfl⟩
      have q1 : IntKind.u8.wrap (((⟨s.toArray⟩ : ByteArray)[i]'hib).toNat / 16 : Int) = (a : Int) := by rw [hgx, IntWalk.u8_in _ (by omega)]; omega
      have q2 : IntKind.u8.wrap ((a : Int) + 1) = (a1 : Int) := by rw [IntWalk.u8_in _ (by omega)]; omega
      have q3 : Int.tmod (((⟨s.toArray⟩ : ByteArray)[i]'hib).toNat : Int) 16 = (r : Int) := by rw [hgx, Int.tmod_eq_emod_of_nonneg (by omega)]; omega
      have q3' : (((⟨s.toArray⟩ : ByteArray)[i]'hib).toNat : Int) % 16 = (r : Int) := by rw [hgx]; omega
      have q4 : IntKind.u8.wrap ((r : Int) + 1) = (r1 : Int) := by rw [IntWalk.u8_in _ (by omega)]; omega
      have q5 : IntKind.u8.wrap (r : Int) = (r : Int) := by rw [IntWalk.u8_in _ (by omega)]
      have b1 : a ≤ a1 := by omega
      have b2 : a1 ≤ 16 := by omega
      have b3 : r ≤ r1 := by omega
      have b4 : r1 ≤ 16 := by omega
      have k1 : (⟨#[48, 49, 50, 51, 52, 53, 54, 55, 56, 57, 97, 98, 99, 100, 101, 102]⟩ : ByteArray).extract a a1 = ⟨#[hexA.getD a 0]⟩ := by rw [← ha1]; exact hex_cut ⟨a, by omega⟩
      have k2 : (⟨#[48, 49, 50, 51, 52, 53, 54, 55, 56, 57, 97, 98, 99, 100, 101, 102]⟩ : ByteArray).extract r r1 = ⟨#[hexA.getD r 0]⟩ := by rw [← hr1]; exact hex_cut ⟨r, by omega⟩
      obtain ⟨ca, hca⟩ : ∃ z, hexA.getD a 0 = z := ⟨_, rfl⟩
      obtain ⟨cr, hcr⟩ : ∃ z, hexA.getD r 0 = z := ⟨_, rfl⟩
      rw [hca] at k1
      rw [hcr] at k2
      have hsl : ∀ (p p1 : Nat) (c : UInt8), p ≤ p1 → p1 ≤ 16 → (⟨#[48, 49, 50, 51, 52, 53, 54, 55, 56, 57, 97, 98, 99, 100, 101, 102]⟩ : ByteArray).extract p p1 = ⟨#[c]⟩ → ∀ wx, (Instr.slice 9 (.string ⟨#[48, 49, 50, 51, 52, 53, 54, 55, 56, 57, 97, 98, 99, 100, 101, 102]⟩) (some (.int .u8 (p : Int))) (some (.int .u8 (p1 : Int))) none).run Tryd.prog wx = .ok (.string ⟨#[c]⟩) wx := fun p p1 c h1 h2 h3 wx => by
        have := run_slice_string (P := Tryd.prog) (w := wx) 9 ⟨#[48, 49, 50, 51, 52, 53, 54, 55, 56, 57, 97, 98, 99, 100, 101, 102]⟩ .u8 .u8 (p : Int) (p1 : Int) Tryd.underlying9 (by omega) (by omega) (by show (p1 : Int) ≤ ((16 : Nat) : Int); omega)
        rw [this, Int.toNat_natCast, Int.toNat_natCast, h3]
      have s1 := hsl a a1 ca b1 b2 k1
      have s2 := hsl r r1 cr b3 b4 k2
      clear hsl k1 k2
      have HX := Lib.hid (show hex1 x = [ca, cr] by unfold hex1; rw [ha, hr, hca, hcr])
      have HXX := Lib.hid hx
      clear hca hcr ha hr ha1 hr1 hx hgx hxb
      go_wp2_with fail
      go_quiet (fail)
      have HEND : Hid (o ++ [ca] ++ [cr] = hexB (s.take (i + 1)) ∧ ∀ k, Below w.heap.size w (wr.drewN k)) := Lib.hid ⟨by
        rw [List.take_add_one, HXX.out, HS.out]
        unfold hexB
        rw [List.flatMap_append]
        show _ = _ ++ ([x].flatMap hex1)
        rw [show [x].flatMap hex1 = hex1 x by simp, HX.out]
        simp, fun k => HB.out.trans ((below_drewN (Below.refl _ _) k).mono HB.out.size)⟩
      have hol2 : (o ++ [ca] ++ [cr]).length = 2 * (i + 1) := by simp; omega
      clear s1 s2 q1 q2 q3 q3' q4 q5 b1 b2 b3 b4
      go_wp2_with fail
      go_roundw
      case rel => exact ⟨i + 1, o ++ [ca] ++ [cr], by rw [← append_list, ← append_list], by go_num, by omega, Lib.hid HEND.out.1, hol2, Lib.hid (HEND.out.2 _)⟩
      case measure => simp [RowKit.intOf]; omega
    · have hin : i = n := by omega
      subst hin
      have HE : Hid (o = R) := Lib.hid (by rw [HS.out, List.take_of_length_le (by rw [HN.out]; exact Nat.le_refl _), HR.out])
      have HE2 := HE.out
      subst HE2
      go_wp2_with fail
      go_ret
      exact ⟨rfl, HB.out⟩
end Go.Proofs.YtgmdjbhclihflaaDoor
