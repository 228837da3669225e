/- digits. -/
import Derived.Test.YtfiabonacpepnaaGreatDoorCtG
import Derived.Test.YtfiabonacpepnaaGreatDoorCtShelf
import Derived.Lib.SlBytesConst
namespace Go.Proofs.YtfiabonacpepnaaGreatDoor
open Go Go.RowKit Go.Lib Go.Shelf

theorem isDig_iff (c : UInt8) : isDig c = true ↔ 48 ≤ c.toNat ∧ c.toNat ≤ 57 := by unfold isDig; simp
/-- what Atoi returns at digits -/
def AtoiEnd (l : List UInt8) (w : World) (e : Ending) (w' : World) : Prop :=
  Below w.heap.size w w' ∧ ((l ≠ [] ∧ valD l < 9223372036854775808 ∧ e = .returned (.tuple #[.int .i64 (valD l : Int), .nilIface])) ∨
    ((l = [] ∨ 9223372036854775808 ≤ valD l) ∧ ∃ tp p, e = .returned (.tuple #[.int .i64 (if l = [] then 0 else 9223372036854775807), .iface tp p])))
theorem atoi_any (l : List UInt8) (w : World) (hK : KAt w) (hl : l.length ≤ 3001) (hd : l.all isDig = true) :
    Calls Tryz.prog 166 #[strV l] w (AtoiEnd l w) := by
  have e1 : (⟨l.toArray⟩ : ByteArray).data.toList = l := rfl
  have e2 : (⟨l.toArray⟩ : ByteArray).size = l.length := rfl
  by_cases h0 : l = []
  · obtain ⟨tp, p, hv⟩ := hK.syn
    refine (Tryz.strconv_Atoi_syntax_var ⟨l.toArray⟩ (by rw [e2]; omega) (by rw [e1, h0]) tp p w hv).mono ?_
    rintro e w' ⟨N, he, _, _, hb⟩
    exact ⟨hb, .inr ⟨.inl h0, _, _, he.trans (by rw [if_pos h0])⟩⟩
  · have ha := atoi_digs l hd h0
    by_cases h1 : valD l < 9223372036854775808
    · rw [if_pos h1] at ha
      refine (Tryz.strconv_Atoi_ok ⟨l.toArray⟩ (by rw [e2]; omega) (valD l) (by rw [e1]; exact ha) w).mono ?_
      rintro e w' ⟨he, hw⟩
      refine ⟨?_, .inl ⟨h0, h1, he⟩⟩
      rcases hw with rfl | ⟨t, rfl⟩
      · exact Below.refl _ _
      · exact bytesWorld_below _ _ _
    · rw [if_neg h1] at ha
      obtain ⟨tp, p, hv⟩ := hK.rng
      refine (Tryz.strconv_Atoi_range_var ⟨l.toArray⟩ (by rw [e2]; omega) (by rw [e1]; exact ha) tp p w hv).mono ?_
      rintro e w' ⟨N, he, _, _, hb⟩
      have hs : atoiSat l = 9223372036854775807 := by
        cases l with
        | nil => exact absurd rfl h0
        | cons c r =>
          have hc := (isDig_iff c).1 (by simp only [List.all_cons, Bool.and_eq_true] at hd; exact hd.1)
          unfold atoiSat
          rw [if_neg (by simp; intro h; rw [h] at hc; revert hc; decide)]
      rw [e1, hs] at he
      exact ⟨hb, .inr ⟨.inr (by omega), _, _, he.trans (by rw [if_neg h0])⟩⟩

set_option maxRecDepth 100000 in
set_option maxHeartbeats 4000000 in
theorem digits_any (l : List UInt8) (w : World) (hK : KAt w) (hl : l.length ≤ 3001) :
    Calls Tryz.prog 141 #[strV l] w fun e w' => e = .returned (.tuple #[.int .i64 (digV l).1, .bool (digV l).2]) ∧ Below w.heap.size w w' := by
  have hcv := Go.Lib.run_convert_string_bytes (P := Tryz.prog) w 9 59 5 ⟨l.toArray⟩ Tryz.underlying9 Tryz.underlying59 Tryz.underlying5
  have hby : ∀ (j : Nat) c, l[j]? = some c → (Lib.bytesWorld w 5 ⟨l.toArray⟩).cell? ⟨w.heap.size, j, none⟩ = some (.int .u8 (c.toNat : Int)) := by
    intro j c hj
    obtain ⟨hlt, hc⟩ := List.getElem?_eq_some_iff.1 hj
    rw [Lib.bytesWorld_cell w 5 ⟨l.toArray⟩ j hlt]
    show some (Value.int .u8 ((l.getD j 0).toNat : Int)) = _
    rw [List.getD_eq_getElem?_getD, hj]
    rfl
  have b2 := bytesWorld_below w 5 ⟨l.toArray⟩
  have esz : (⟨l.toArray⟩ : ByteArray).size = l.length := rfl
  rw [esz] at hcv
  obtain ⟨n, hn⟩ : ∃ n, l.length = n := ⟨_, rfl⟩
  rw [hn] at hcv hl
  obtain ⟨cp, hcp⟩ : ∃ z, grownCap w n 0 5 = z := ⟨_, rfl⟩
  rw [hcp] at hcv
  obtain ⟨W2, hW2⟩ : ∃ z, Lib.bytesWorld w 5 ⟨l.toArray⟩ = z := ⟨_, rfl⟩
  rw [hW2] at hcv hby b2
  obtain ⟨gB, hgB⟩ : ∃ z, w.heap.size = z := ⟨_, rfl⟩
  have HGB := Lib.hid hgB
  rw [hgB] at hcv hby b2 ⊢
  have HBY := Lib.hid hby
  have HB := Lib.hid b2
  have HN := Lib.hid hn
  have HK2 := Lib.hid (hK.below b2 (by rw [← hgB]; exact hK.lt))
  have HAT : Hid (l.all isDig = true → Calls Tryz.prog 166 #[strV l] W2 (AtoiEnd l W2)) := Lib.hid (fun hd => atoi_any l W2 HK2.out (by rw [HN.out]; exact hl) hd)
  clear hby b2 hn hcp hW2 hK esz hgB
  unfold strV at HAT ⊢
  go_enter Tryz.func141, Tryz.ntmps141
  go_wp2_with fail
  go_loop [11] (fun iv => ∃ k : Nat, k ≤ n ∧ iv = .int .i64 k ∧ Hid ((l.take k).all isDig = true)) (fun i => n - (intOf i).toNat)
  case atStart => exact ⟨0, by omega, rfl, Lib.hid rfl⟩
  case round =>
    obtain ⟨k, hk, rfl, HR⟩ := hrel
    by_cases hk2 : k < n
    · obtain ⟨c, hck⟩ : ∃ c, l[k]? = some c := ⟨_, List.getElem?_eq_getElem (by rw [HN.out]; exact hk2)⟩
      have hcell := HBY.out k c hck
      have HTS : Hid (l.take (k + 1) = l.take k ++ [c]) := Lib.hid (by rw [List.take_add_one, hck]; rfl)
      have HM := Lib.hid (List.mem_of_getElem? hck)
      obtain ⟨x, hx⟩ : ∃ x, c.toNat = x := ⟨_, rfl⟩
      rw [hx] at hcell
      have HX := Lib.hid hx
      clear hck hx
      have hno : Hid (isDig c = false → digV l = (0, false)) := Lib.hid (fun h => by
        unfold digV
        rw [if_neg]
        rintro ⟨h1, _⟩
        rw [List.all_eq_true.1 h1 c HM.out] at h
        cases h)
      by_cases h1 : x < 48
      · have d1 : decide ((x : Int) < 48) = true := by simp; omega
        have HD := Lib.hid (hno.out (by rw [Bool.eq_false_iff]; intro h; have := (isDig_iff c).1 h; have := HX.out; omega))
        go_wp2_with fail
        go_ret2
        exact ⟨by rw [HD.out]; rfl, HB.out⟩
      · have d1 : decide ((x : Int) < 48) = false := by simp; omega
        by_cases h2 : x ≤ 57
        · have d2 : decide (57 < (x : Int)) = false := by simp; omega
          have HN2 : Hid ((l.take (k + 1)).all isDig = true) := Lib.hid (by
            rw [HTS.out, List.all_append, HR.out]
            simp only [List.all_cons, List.all_nil, Bool.and_true, Bool.true_and]
            exact (isDig_iff c).2 (by have := HX.out; omega))
          go_wp2_with fail
          go_round
          case rel => exact ⟨k + 1, by omega, by go_num, HN2⟩
          case measure => simp [intOf]; omega
        · have d2 : decide (57 < (x : Int)) = true := by simp; omega
          have HD := Lib.hid (hno.out (by rw [Bool.eq_false_iff]; intro h; have := (isDig_iff c).1 h; have := HX.out; omega))
          go_wp2_with fail
          go_ret2
          exact ⟨by rw [HD.out]; rfl, HB.out⟩
    · obtain rfl : k = n := by omega
      have hall : l.all isDig = true := by have := HR.out; rwa [List.take_of_length_le (by rw [HN.out]; exact Nat.le_refl _)] at this
      have HAT2 := Lib.hid (HAT.out hall)
      have HALL := Lib.hid hall
      clear hall
      go_wp2_with fail
      refine HAT2.out.mono ?_
      rintro e w3 ⟨hb3, hc3⟩
      have HB3 : Hid (Below gB w w3) := Lib.hid (HB.out.trans (hb3.mono (by have := HB.out.size; have := HGB.out; omega)))
      clear hb3
      rcases hc3 with ⟨h0, hv, rfl⟩ | ⟨hc, tp, p, rfl⟩
      · have HD : Hid (digV l = ((valD l : Int), l == [48] || !(l.head? == some 48))) := Lib.hid (by
          unfold digV
          rw [if_pos ⟨HALL.out, h0⟩, if_pos hv])
        obtain ⟨v, hvv⟩ : ∃ v, valD l = v := ⟨_, rfl⟩
        rw [hvv] at HD ⊢
        clear hvv hv
        by_cases h48 : l = [48]
        · subst h48
          clear h0
          go_wp2_with fail
          go_quiet (fail)
          go_wp2
          go_ret2
          exact ⟨by rw [HD.out]; rfl, below_drewN HB3.out _⟩
        · obtain ⟨c, r, rfl⟩ : ∃ c r, l = c :: r := by
            cases l with
            | nil => exact absurd rfl h0
            | cons c r => exact ⟨c, r, rfl⟩
          have q0 : ((c :: r) == [48]) = false := by rw [beq_eq_false_iff_ne]; exact h48
          clear h0 h48
          have HH : Hid (((c.toNat : Int) != 48) = ((c :: r) == [48] || !((c :: r).head? == some 48))) := Lib.hid (by
            rw [q0, Bool.false_or, bne]
            simp only [List.head?_cons]
            congr 1
            rw [Bool.eq_iff_iff]
            simp only [beq_iff_eq, Option.some.injEq]
            exact ⟨fun e => by rw [← ofNat_toNat c, show c.toNat = 48 by omega]; rfl, fun e => by rw [e]; rfl⟩)
          go_wp2_with fail
          go_quiet (fail)
          go_wp2
          go_ret2
          refine ⟨?_, below_drewN HB3.out _⟩
          rw [HD.out]
          show Ending.returned (.tuple #[.int .i64 (v : Int), .bool ((c.toNat : Int) != 48)]) = Ending.returned (.tuple #[.int .i64 (v : Int), .bool ((c :: r) == [48] || !((c :: r).head? == some 48))])
          rw [HH.out]
      · have HD : Hid (digV l = ((if l = [] then 0 else 9223372036854775807), false)) := Lib.hid (by
          unfold digV
          by_cases h0 : l = []
          · rw [if_neg (by simp [h0]), if_pos h0]
          · rw [if_pos ⟨HALL.out, h0⟩, if_neg (by rcases hc with h | h; exact absurd h h0; omega), if_neg h0])
        obtain ⟨y, hy⟩ : ∃ y : Int, (if l = [] then 0 else 9223372036854775807) = y := ⟨_, rfl⟩
        rw [hy] at HD ⊢
        clear hy hc
        go_wp2_with fail
        go_quiet (fail)
        go_wp2
        go_ret2
        exact ⟨by rw [HD.out]; rfl, below_drewN HB3.out _⟩
end Go.Proofs.YtfiabonacpepnaaGreatDoor
