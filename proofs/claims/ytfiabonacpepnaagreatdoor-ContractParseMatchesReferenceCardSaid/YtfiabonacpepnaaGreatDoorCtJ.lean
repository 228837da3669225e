/- percent of the reader. -/
import Derived.Test.YtfiabonacpepnaaGreatDoorCtI
namespace Go.Proofs.YtfiabonacpepnaaGreatDoor
open Go Go.RowKit Go.Lib Go.Shelf

theorem cutSuffix_any (x : List UInt8) (w : World) (hl : x.length ≤ 3000) :
    Calls Tryz.prog 139 #[strV x, .string ⟨#[37]⟩] w fun e w' => e = .returned (.tuple #[strV (trimSuffix x [37]), .bool (hasSuffix x [37])]) ∧ Below w.heap.size w w' := by
  refine (Tryz.strings_CutSuffix ⟨x.toArray⟩ ⟨#[37]⟩ w (by show x.length ≤ _; omega)).mono ?_
  rintro e w' ⟨he, hw⟩
  exact ⟨he, by rw [hw]; exact Below.refl _ _⟩
theorem cut_any (x : List UInt8) (w : World) (hK : KAt w) (hl : x.length ≤ 3000) :
    Calls Tryz.prog 140 #[strV x, .string ⟨#[46]⟩] w fun e w' => e = .returned (.tuple #[strV (cut x [46]).1, strV (cut x [46]).2.1, .bool (cut x [46]).2.2]) ∧ Below w.heap.size w w' := by
  obtain ⟨m, hm⟩ := hK.max
  refine (Tryz.strings_Cut ⟨x.toArray⟩ ⟨#[46]⟩ m w (by show x.length < _; omega) hm).mono ?_
  rintro e w' ⟨he, n, hw⟩
  exact ⟨he, by rw [hw]; exact below_drewN (Below.refl _ _) _⟩
theorem trim_short (x : List UInt8) : (trimSuffix x [37]).length ≤ x.length := by
  unfold trimSuffix
  split
  · rw [List.length_take]; omega
  · omega
theorem cut_short (x : List UInt8) : (cut x [46]).1.length ≤ x.length ∧ (cut x [46]).2.1.length ≤ x.length := by
  rcases cut_inv (c := 46) (s := x) with ⟨_, h⟩ | ⟨_, h1, h2⟩
  · have := congrArg List.length h
    simp at this
    omega
  · rw [h1, h2]; simp
theorem run_str_add (t : TypeId) (x y : List UInt8) (hx : (x.length : Int) ≤ 8388608) (hy : (y.length : Int) ≤ 8388608) (w : World) : (Go.binOp .add t (.string ⟨x.toArray⟩) (.string ⟨y.toArray⟩)).run Tryz.prog w = .ok (.string ⟨(x ++ y).toArray⟩) w := by
  rw [binOp_string_add]
  exact run_string_add_lists w x y hx hy

theorem run_str_last (t : TypeId) (ht : Tryz.prog.underlying t = some .string) (p : List UInt8) (c : UInt8) (h : p.getLast? = some c) (w : World) :
    (Instr.index t (.string ⟨p.toArray⟩) (.int .i64 ((p.length : Int) - 1))).run Tryz.prog w = .ok (.int .u8 (c.toNat : Int)) w := by
  have hne : p ≠ [] := by intro e; rw [e] at h; simp at h
  have hpos := List.length_pos_iff.2 hne
  have hz : (⟨p.toArray⟩ : ByteArray).size = p.length := rfl
  rw [List.getLast?_eq_getElem?] at h
  obtain ⟨hlt, hc⟩ := List.getElem?_eq_some_iff.1 h
  have e : ((p.length : Int) - 1).toNat = p.length - 1 := by omega
  have e2 : ∀ (i j : Nat) (hi : i < (⟨p.toArray⟩ : ByteArray).size) (hj : j < p.length), i = j → (⟨p.toArray⟩ : ByteArray)[i]'hi = p[j]'hj := by
    intro i j hi hj hij
    subst hij
    rfl
  rw [run_index_string w t _ .i64 _ ht, dif_pos ⟨by omega, by rw [hz]; omega⟩, e2 _ (p.length - 1) _ hlt e, hc]

set_option maxRecDepth 100000 in
set_option maxHeartbeats 4000000 in
theorem pct_any (b : Nat) (r : Rd) (w : World) (h : RdAt w b r) (hK : KAt w) :
    Calls Tryz.prog 91 #[.pointer (some ⟨b, 0, none⟩)] w fun e w' => e = .returned (.int .i64 r.pct.1) ∧ RdAt w' b r.pct.2 ∧ w.grownBy w' (some b) := by
  have HN := Lib.hid (next_any b r w h)
  have hw := h.word_short
  have hb9 := h.hb
  have HK := Lib.hid hK
  unfold Rd.pct
  obtain ⟨x, hx⟩ : ∃ x, r.next.1 = x := ⟨_, rfl⟩
  obtain ⟨ws2, y, hr2⟩ : ∃ ws y, r.next.2 = ⟨ws, y⟩ := ⟨_, _, rfl⟩
  rw [hx] at hw
  rw [hx, hr2] at HN ⊢
  dsimp only at HN ⊢
  have HP := Lib.hid (pctV.eq_1 x)
  have HS := Lib.hid (fun W => cutSuffix_any x W hw)
  have hs1 := trim_short x
  obtain ⟨s, hs⟩ : ∃ s, trimSuffix x [37] = s := ⟨_, rfl⟩
  obtain ⟨hsb, hhs⟩ : ∃ q, hasSuffix x [37] = q := ⟨_, rfl⟩
  rw [hs] at hs1
  rw [hs, hhs] at HS HP
  have HC := Lib.hid (fun W (hW : KAt W) => cut_any s W hW (by omega))
  have hs2 := cut_short s
  obtain ⟨a, p, pt, hc⟩ : ∃ a p pt, cut s [46] = (a, p, pt) := ⟨_, _, _, rfl⟩
  rw [hc] at HC hs2 HP
  dsimp only at HC hs2 HP
  have HDa := Lib.hid (fun W (hW : KAt W) => digits_any a W hW (by omega))
  have HDp := Lib.hid (fun W (hW : KAt W) => digits_any (49 :: p) W hW (by rw [List.length_cons]; omega))
  have ha := digV_bd a
  obtain ⟨na, oka, hda⟩ : ∃ n o, digV a = (n, o) := ⟨_, _, rfl⟩
  have hp := digV_bd (49 :: p)
  have hpb : (digV (49 :: p)).2 = true → (digV (49 :: p)).1 < 2 * 10 ^ p.length := by
    intro ho
    obtain ⟨k, hk, _, hk2⟩ := digV_sound (show digV (49 :: p) = ((digV (49 :: p)).1, true) by rw [← ho])
    have hall := dec_digs k
    rw [← hk2] at hall
    simp only [List.all_cons, Bool.and_eq_true] at hall
    have := (foldD_bd p 1 hall.2).2
    rw [show p.foldl stepD 1 = valD (49 :: p) from rfl, hk2, dec_val] at this
    rw [hk]
    have e : ((2 : Int) * 10 ^ p.length) = ((2 * 10 ^ p.length : Nat) : Int) := by simp
    rw [e]
    omega
  obtain ⟨np, okp, hdp⟩ : ∃ n o, digV (49 :: p) = (n, o) := ⟨_, _, rfl⟩
  rw [hda] at HDa ha HP
  rw [hdp] at HDp hp hpb HP
  dsimp only at HDa ha HP HDp hp hpb
  have HPB := Lib.hid hpb
  have hlp : p.length ≤ 3000 := by omega
  clear h hx hr2 hK hs hhs hc hda hdp hpb hs1 hs2 hw
  unfold strV at HN HDa HDp HS HC
  have hcat := fun W => run_str_add 9 [49] p (by decide) (by omega) W
  go_enter Tryz.func91, Tryz.ntmps91
  go_wp2_with fail
  refine HN.out.mono ?_
  rintro e w1 ⟨rfl, h1, hg⟩
  have HK1 := Lib.hid (HK.out.grown hg hb9)
  have HR1 := Lib.hid h1
  have HG1 := Lib.hid hg
  clear h1 hg
  go_wp2_with fail
  refine (HS.out _).mono ?_
  rintro e w2 ⟨rfl, hb2⟩
  have HK2 := Lib.hid (HK1.out.mono hb2)
  have HR2 := Lib.hid (HR1.out.below hb2 HR1.out.lt)
  have HG2 := Lib.hid (grown_trans HG1.out (grown_below hb2 _))
  clear hb2
  go_wp2_with fail
  refine (HC.out _ HK2.out).mono ?_
  rintro e w3 ⟨rfl, hb3⟩
  have HK3 := Lib.hid (HK2.out.mono hb3)
  have HR3 := Lib.hid (HR2.out.below hb3 HR2.out.lt)
  have HG3 := Lib.hid (grown_trans HG2.out (grown_below hb3 _))
  clear hb3
  go_wp2_with fail
  refine (HDa.out _ HK3.out).mono ?_
  rintro e w4 ⟨rfl, hb4⟩
  have HK4 := Lib.hid (HK3.out.mono hb4)
  have HR4 := Lib.hid (HR3.out.below hb4 HR3.out.lt)
  have HG4 := Lib.hid (grown_trans HG3.out (grown_below hb4 _))
  have hc4 := HR4.out.badCell
  obtain ⟨c1, f1⟩ := hc4
  dsimp only at c1
  clear hb4
  by_cases hg : hsb = true ∧ oka = true ∧ na ≤ 100
  rotate_left
  · have HE : Hid (pctV x = (0, false)) := Lib.hid (by rw [HP.out, if_neg hg])
    cases hsb
    · clear hg
      go_wp2_with fail
      go_ret
      exact ⟨by rw [HE.out]; rfl, by rw [HE.out, Bool.or_comm]; exact HR4.out.setBad true, grown_trans HG4.out (grown_set _)⟩
    · cases oka
      · clear hg
        go_wp2_with fail
        go_ret
        exact ⟨by rw [HE.out]; rfl, by rw [HE.out, Bool.or_comm]; exact HR4.out.setBad true, grown_trans HG4.out (grown_set _)⟩
      · have d1 : decide (100 < na) = true := by simp at hg ⊢; exact hg
        clear hg
        go_wp2_with fail
        go_ret
        exact ⟨by rw [HE.out]; rfl, by rw [HE.out, Bool.or_comm]; exact HR4.out.setBad true, grown_trans HG4.out (grown_set _)⟩
  · obtain ⟨rfl, rfl, hna⟩ := hg
    have HP2 := Lib.hid (HP.out.trans (if_pos ⟨rfl, rfl, hna⟩))
    have d1 : decide (100 < na) = false := by simp; exact hna
    clear HP
    cases pt
    · have HE : Hid (pctV x = (10000 * na, true)) := Lib.hid (HP2.out.trans (if_pos rfl))
      go_wp2_with fail
      go_ret
      exact ⟨by rw [HE.out]; rfl, by rw [HE.out]; simpa using HR4.out, HG4.out⟩
    · have HP3 := Lib.hid (HP2.out.trans (if_neg (by decide)))
      clear HP2
      go_wp2_with fail
      refine (HDp.out _ HK4.out).mono ?_
      rintro e w5 ⟨rfl, hb5⟩
      have HK5 := Lib.hid (HK4.out.mono hb5)
      have HR5 := Lib.hid (HR4.out.below hb5 HR4.out.lt)
      have HG5 := Lib.hid (grown_trans HG4.out (grown_below hb5 _))
      have hc5 := HR5.out.badCell
      obtain ⟨c5, f5⟩ := hc5
      clear hb5 c1 f1
      dsimp only at c5
      by_cases hq : okp = true ∧ p ≠ [] ∧ p.length ≤ 4 ∧ p.getLast? ≠ some 48
      rotate_left
      · have HE : Hid (pctV x = (0, false)) := Lib.hid (HP3.out.trans (if_neg hq))
        cases okp
        · clear hq
          go_wp2_with fail
          go_ret
          exact ⟨by rw [HE.out]; rfl, by rw [HE.out, Bool.or_comm]; exact HR5.out.setBad true, grown_trans HG5.out (grown_set _)⟩
        · by_cases hp0 : p = []
          · subst hp0
            clear hq
            go_wp2_with fail
            go_ret
            exact ⟨by rw [HE.out]; rfl, by rw [HE.out, Bool.or_comm]; exact HR5.out.setBad true, grown_trans HG5.out (grown_set _)⟩
          · have p0 : (p == []) = false := by rw [beq_eq_false_iff_ne]; exact hp0
            have p1 : p.isEmpty = false := by simpa using hp0
            by_cases hp4 : p.length ≤ 4
            · have d4 : decide (4 < (p.length : Int)) = false := by simp; omega
              have d5 : decide (4 < p.length) = false := by simp; omega
              obtain ⟨c, hlast⟩ : ∃ c, p.getLast? = some c := ⟨_, List.getLast?_eq_some_getLast hp0⟩
              have hc48 : c = 48 := by
                by_cases hc : c = 48
                · exact hc
                · exact absurd ⟨rfl, hp0, hp4, by rw [hlast]; simpa using hc⟩ hq
              subst hc48
              have hix := fun W => run_str_last 9 Tryz.underlying9 p 48 hlast W
              have hp1 : 1 ≤ (p.length : Int) := by have := List.length_pos_iff.2 hp0; omega
              clear hq hlast
              go_wp2_with fail
              go_ret
              exact ⟨by rw [HE.out]; rfl, by rw [HE.out, Bool.or_comm]; exact HR5.out.setBad true, grown_trans HG5.out (grown_set _)⟩
            · have d4 : decide (4 < (p.length : Int)) = true := by simp; omega
              have d5 : decide (4 < p.length) = true := by simp; omega
              clear hq hp4
              go_wp2_with fail
              go_ret
              exact ⟨by rw [HE.out]; rfl, by rw [HE.out, Bool.or_comm]; exact HR5.out.setBad true, grown_trans HG5.out (grown_set _)⟩
      · have HE := Lib.hid (HP3.out.trans (if_pos hq))
        obtain ⟨rfl, hp0, hp4, hpl⟩ := hq
        obtain ⟨c, hlast⟩ : ∃ c, p.getLast? = some c := ⟨_, List.getLast?_eq_some_getLast hp0⟩
        have n48 : ((c.toNat : Int) == 48) = false := by
          rw [beq_eq_false_iff_ne]
          intro e
          apply hpl
          rw [hlast, ← ofNat_toNat c, show c.toNat = 48 by omega]
          rfl
        have hix := fun W => run_str_last 9 Tryz.underlying9 p c hlast W
        have hp1 : 1 ≤ (p.length : Int) := by have := List.length_pos_iff.2 hp0; omega
        have p0 : (p == []) = false := by rw [beq_eq_false_iff_ne]; exact hp0
        have p1 : p.isEmpty = false := by simpa using hp0
        have d4 : decide (4 < (p.length : Int)) = false := by simp; omega
        have d5 : decide (4 < p.length) = false := by simp; omega
        obtain ⟨J, hJ⟩ : ∃ J : Nat, 4 - p.length = J := ⟨_, rfl⟩
        have hJ2 : (4 : Int) - (p.length : Int) = (J : Int) := by omega
        have hnp := HPB.out rfl
        rw [hJ] at HE
        obtain ⟨q, hq0, hqs, hqb, hqJ⟩ : ∃ q : Nat → Int, q 0 = np ∧ (∀ j, q (j + 1) = q j * 10) ∧ (∀ j, j ≤ J → 0 ≤ q j ∧ q j < 20000) ∧ q J = np * 10 ^ J := by
          refine ⟨fun j => np * 10 ^ j, by simp, fun j => by show np * 10 ^ (j + 1) = np * 10 ^ j * 10; rw [Int.pow_succ, Int.mul_assoc], fun j hj => ?_, rfl⟩
          obtain ⟨z, rfl⟩ := Int.eq_ofNat_of_zero_le hp.1
          have e1 : (z : Int) * 10 ^ j = ((z * 10 ^ j : Nat) : Int) := by simp
          have hz : z < 2 * 10 ^ p.length := by
            have e : ((2 : Int) * 10 ^ p.length) = ((2 * 10 ^ p.length : Nat) : Int) := by simp
            rw [e] at hnp
            omega
          have h2 : z * 10 ^ j < 2 * 10 ^ p.length * 10 ^ j := Nat.mul_lt_mul_of_pos_right hz (Nat.pow_pos (by decide))
          have h3 : 10 ^ p.length * 10 ^ j ≤ 10 ^ 4 := by rw [← Nat.pow_add]; exact Nat.pow_le_pow_right (by decide) (by omega)
          rw [Nat.mul_assoc] at h2
          show 0 ≤ (z : Int) * 10 ^ j ∧ (z : Int) * 10 ^ j < 20000
          rw [e1]
          omega
        rw [← hqJ] at HE
        rw [← hq0]
        have HQ := Lib.hid (And.intro hqs hqb)
        have hqJ2 := hqb J (Nat.le_refl _)
        have hna0 := ha.1
        clear HP3 hq0 hqs hqb hqJ hnp hpl hlast hp0 HPB hp hp4 hJ ha
        go_wp2_with fail
        go_loop [10, 77] (fun kv iv => ∃ j : Nat, j ≤ J ∧ iv = .int .i64 j ∧ kv = .int .i64 (q j)) (fun _ i => J - (intOf i).toNat)
        case atStart => exact ⟨0, Nat.zero_le _, rfl, rfl⟩
        case round =>
          obtain ⟨j, hj, rfl, rfl⟩ := hrel
          have hqj := HQ.out.2 j hj
          have HQS := Lib.hid (HQ.out.1 j)
          by_cases hj2 : j < J
          · go_wp2_with fail
            go_round
            case rel => exact ⟨j + 1, by omega, by go_num, by rw [HQS.out]⟩
            case measure => simp [intOf]; omega
          · obtain rfl : j = J := by omega
            go_wp2_with fail
            go_ret
            exact ⟨by rw [HE.out]; rfl, by rw [HE.out]; simpa using HR5.out, HG5.out⟩
end Go.Proofs.YtfiabonacpepnaaGreatDoor
