/- ContractPercent: the walk. -/
import Derived.Test.YtfiabonacpepnaaGreatDoorCtPl
namespace Go.Proofs.YtfiabonacpepnaaGreatDoor
open Go Go.RowKit Go.Lib Go.Shelf Go.Maps

theorem run_str_end (t : TypeId) (ht : Tryz.prog.underlying t = some .string) (s : List UInt8) (f : Nat) (h : f ≤ s.length) (w : World) :
    (Instr.slice t (.string ⟨s.toArray⟩) (some (.int .i64 (f : Int))) none none).run Tryz.prog w = .ok (.string ⟨(s.drop f).toArray⟩) w := by
  have hz : (⟨s.toArray⟩ : ByteArray).size = s.length := rfl
  rw [run_slice_string_l (ht := ht) (h0 := by omega) (h1 := by rw [hz]; omega), hz]
  have e : (⟨s.toArray⟩ : ByteArray).extract (f : Int).toNat s.length = ⟨(s.drop f).toArray⟩ := by
    rw [extract_eq, Int.toNat_natCast, List.take_of_length_le (by simp)]
  rw [e]
theorem run_str_begin (t : TypeId) (ht : Tryz.prog.underlying t = some .string) (s : List UInt8) (i : Nat) (h : i ≤ s.length) (w : World) :
    (Instr.slice t (.string ⟨s.toArray⟩) none (some (.int .i64 (i : Int))) none).run Tryz.prog w = .ok (.string ⟨(s.take i).toArray⟩) w := by
  have hz : (⟨s.toArray⟩ : ByteArray).size = s.length := rfl
  rw [run_slice_string_h (ht := ht) (h0 := by omega) (h2 := by rw [hz]; omega)]
  have e : (⟨s.toArray⟩ : ByteArray).extract 0 (i : Int).toNat = ⟨(s.take i).toArray⟩ := by
    rw [extract_eq, Int.toNat_natCast, Nat.sub_zero, List.drop_zero]
  rw [e]
theorem parts_at {W : World} {A : Option Addr} {n c : Nat} {t : TermV} (h : TermsAt W (.slice A n c) [t]) : n = 1 ∧ ∃ b o, A = some ⟨b, o, none⟩ ∧ b < W.heap.size ∧ W.cell? ⟨b, o + 1, none⟩ = some (.int .i64 t.n) := by
  rcases h with ⟨h, _⟩ | ⟨b, o, c', he, hlt, hc⟩
  · cases h
  · simp only [Value.slice.injEq] at he
    obtain ⟨rfl, rfl, rfl⟩ := he
    obtain ⟨va, _, h2⟩ := hc 0 t rfl
    exact ⟨rfl, b, o, rfl, hlt, by have := h2 1 (.int .i64 t.n) rfl; simpa using this⟩
theorem none_at {W : World} {A : Option Addr} {n c : Nat} (h : TermsAt W (.slice A n c) []) : n = 0 := by
  obtain ⟨A', c', h'⟩ := h.slice
  cases h'
  rfl
/-- a list that is empty, or one term with another number -/
def Other (W : World) (A : Option Addr) (m : Nat) (k : Int) : Prop := m = 0 ∨ (m = 1 ∧ ∃ b o z, A = some ⟨b, o, none⟩ ∧ b < W.heap.size ∧ W.cell? ⟨b, o + 1, none⟩ = some (.int .i64 z) ∧ z ≠ k)
theorem Other.below {W W' : World} {A : Option Addr} {m : Nat} {k : Int} (h : Other W A m k) (hb : Below W.heap.size W W') : Other W' A m k := by
  rcases h with h | ⟨h1, b, o, z, h2, h3, h4, h5⟩
  · exact .inl h
  · exact .inr ⟨h1, b, o, z, h2, Nat.lt_of_lt_of_le h3 hb.size, (hb.cell (p := ⟨b, o + 1, none⟩) h3).trans h4, h5⟩
theorem other_at {W : World} {A : Option Addr} {n c : Nat} {l : List TermV} {k : Int} (h : TermsAt W (.slice A n c) l) (hl : l = [] ∨ ∃ t, l = [t] ∧ t.n ≠ k) : Other W A n k := by
  rcases hl with rfl | ⟨t, rfl, hn⟩
  · exact .inl (none_at h)
  · obtain ⟨h1, b, o, h2, h3, h4⟩ := parts_at h
    exact .inr ⟨h1, b, o, t.n, h2, h3, h4, hn⟩
set_option maxRecDepth 100000 in
set_option maxHeartbeats 8000000 in
theorem percentLaw_yes (n : Int) (w : World) (hK : KAt w) (hn1 : -9223372036854775808 ≤ n) (hn2 : n ≤ 9223372036854775807) :
    Calls Tryz.prog 10 #[.int .i64 n] w fun e w' => e = .returned (.bool true) ∧ Below w.heap.size w w' := by
  have er1 : errI true = 0 := rfl
  have er2 : errI false = 140 := rfl
  have h9 : 9 ≤ w.heap.size := hK.lt
  have HK := Lib.hid hK
  have HPI := Lib.hid (fun W => pick_any n 1000000 W hn1 hn2 (by decide) (by decide))
  have hpb := pickN_bd n 1000000 (by decide)
  obtain ⟨p, hp⟩ : ∃ p : Nat, pickN n 1000000 = (p : Int) := ⟨(pickN n 1000000).toNat, by omega⟩
  rw [hp] at HPI hpb
  obtain ⟨k, hkp⟩ : ∃ k, p + 1 = k := ⟨_, rfl⟩
  have hk : (1 : Int) + (p : Int) = (k : Int) := by omega
  have hk1 : 1 ≤ k := by omega
  have hk2 : k ≤ 1000000 := by omega
  have hlen := tax_len hk2
  obtain ⟨D, hD⟩ : ∃ D, bodyL k = D := ⟨_, rfl⟩
  have hpr := tax_print hk1 hk2
  have hgo := tax_good hk1 hk2
  have hrt := round_trip hgo
  have hz0 := tax_other hk2 48 (by decide)
  have hz5 := tax_other hk2 53 (by decide)
  have hzn := tax_none hk2
  rw [hpr] at hrt
  rw [hD] at hlen hpr hrt hz0 hz5 hzn
  obtain ⟨X, hX⟩ : ∃ X, kTaxS ++ D ++ [37, 10] = X := ⟨_, rfl⟩
  have hXl : X.length = D.length + 6 := by rw [← hX]; simp [kTaxS]
  have htake : X.take 4 = [116, 97, 120, 32] := by rw [← hX]; rfl
  have hdrop : X.drop (D.length + 4) = [37, 10] := by
    rw [← hX, show D.length + 4 = (kTaxS ++ D).length by simp [kTaxS], List.drop_left]
  have hmid : (X.take (D.length + 4)).drop 4 = D := by
    rw [← hX, show D.length + 4 = (kTaxS ++ D).length by simp [kTaxS], List.take_left]
    rfl
  obtain ⟨m4, hm4⟩ : ∃ m, D.length + 4 = m := ⟨_, rfl⟩
  have s1 : ∀ W, (Instr.slice 9 (.string ⟨X.toArray⟩) none (some (.int .i64 4)) none).run Tryz.prog W = .ok (.string ⟨(X.take 4).toArray⟩) W := fun W => run_str_begin 9 Tryz.underlying9 X 4 (by omega) W
  have s2 := fun W => run_str_end 9 Tryz.underlying9 X m4 (by omega) W
  have s3 : ∀ W, (Instr.slice 9 (.string ⟨X.toArray⟩) (some (.int .i64 4)) (some (.int .i64 (m4 : Int))) none).run Tryz.prog W = .ok (.string ⟨((X.take m4).drop 4).toArray⟩) W := fun W => run_str_sub 9 Tryz.underlying9 X 4 m4 (by omega) (by omega) W
  rw [htake] at s1
  rw [hm4] at hdrop hmid
  rw [hdrop] at s2
  rw [hmid] at s3
  have eX : (X.length : Int) - 2 = (m4 : Int) := by omega
  have dX1 : decide ((X.length : Int) < 7) = false := by simp; omega
  have dX2 : decide ((13 : Int) < (X.length : Int)) = false := by simp; omega
  have hDl : D.length ≤ 7 := hlen.2
  have hm4b : m4 ≤ 11 := by omega
  rw [hX] at hpr hrt
  have HPX := Lib.hid (fun W (h : KAt W) => parse_any X W h (by omega))
  rw [hrt] at HPX
  have HP0 := Lib.hid (fun W (h : KAt W) => parse_any (kTaxS ++ D ++ [48, 37]) W h (by simp [kTaxS]; omega))
  have HP5 := Lib.hid (fun W (h : KAt W) => parse_any (kTaxS ++ D ++ [53, 37]) W h (by simp [kTaxS]; omega))
  have HPN := Lib.hid (fun W (h : KAt W) => parse_any (kTaxS ++ D) W h (by simp [kTaxS]; omega))
  have e0 : (⟨(kTaxS ++ D ++ [48, 37]).toArray⟩ : ByteArray) = ⟨#[116, 97, 120, 32]⟩ ++ ⟨D.toArray⟩ ++ ⟨#[48, 37]⟩ := by rw [← ba_app, ← ba_app]; rfl
  have e5 : (⟨(kTaxS ++ D ++ [53, 37]).toArray⟩ : ByteArray) = ⟨#[116, 97, 120, 32]⟩ ++ ⟨D.toArray⟩ ++ ⟨#[53, 37]⟩ := by rw [← ba_app, ← ba_app]; rfl
  have en : (⟨(kTaxS ++ D).toArray⟩ : ByteArray) = ⟨#[116, 97, 120, 32]⟩ ++ ⟨D.toArray⟩ := by rw [← ba_app]; rfl
  unfold strV at HPX HP0 HP5 HPN
  rw [e0] at HP0
  rw [e5] at HP5
  rw [en] at HPN
  obtain ⟨P0, hP0⟩ : ∃ z, parseV (kTaxS ++ D ++ [48, 37]) = z := ⟨_, rfl⟩
  obtain ⟨P5, hP5⟩ : ∃ z, parseV (kTaxS ++ D ++ [53, 37]) = z := ⟨_, rfl⟩
  obtain ⟨PN, hPN⟩ : ∃ z, parseV (kTaxS ++ D) = z := ⟨_, rfl⟩
  rw [hP0] at HP0 hz0
  rw [hP5] at HP5 hz5
  rw [hPN] at HPN hzn
  obtain ⟨t0, l0, o0⟩ := P0
  obtain ⟨t5, l5, o5⟩ := P5
  obtain ⟨tn, ln, on⟩ := PN
  dsimp only at HPX HP0 HP5 HPN hz0 hz5 hzn
  obtain ⟨rfl, rfl⟩ := hzn
  have HZ0 := Lib.hid hz0
  have HZ5 := Lib.hid hz5
  have HPR := Lib.hid (fun W v (h : KAt W) (h2 : TermsAt W v [taxT k]) => print_any [taxT k] v W h h2 (by simp) (by simp [taxT]))
  rw [hpr, hgo] at HPR
  unfold strV at HPR
  clear hK hn1 hn2 hp hpb hkp hD hlen hpr hgo hrt hz0 hz5 hX hXl htake hdrop hmid hm4 e0 e5 en hP0 hP5 hPN
  go_enter Tryz.func10, Tryz.ntmps10
  go_wp2_with fail
  refine (sane_any w HK.out).mono ?_
  rintro e w1 ⟨rfl, hb1⟩
  have HB1 := Lib.hid hb1
  have HK1 := Lib.hid (HK.out.mono hb1)
  have hs1 := hb1.size
  clear hb1
  go_wp2_with fail
  refine (HPI.out w1).mono ?_
  rintro e w2 ⟨rfl, rfl⟩
  have b2 : Below w1.heap.size w1 (w1.alloc (.cells #[.int .i64 2, .int .i64 (k : Int), .int .i64 0, .int .i64 0, .slice none 0 0] 28)) := (Below.refl _ _).alloc (Nat.le_refl _) _
  have hz2 : TermsAt (w1.alloc (.cells #[.int .i64 2, .int .i64 (k : Int), .int .i64 0, .int .i64 0, .slice none 0 0] 28)) (.slice (some ⟨w1.heap.size, 0, none⟩) 1 1) [taxT k] :=
    terms_of (L := [(taxT k, .slice none 0 0)]) (RowAt.new w1 28 #[.int .i64 2, .int .i64 (k : Int), .int .i64 0, .int .i64 0, .slice none 0 0]) (fun p hp => by simp at hp; subst hp; exact .inl ⟨rfl, none, 0, rfl⟩) 1
  have HPR2 := Lib.hid (HPR.out _ _ (HK1.out.mono b2) hz2)
  have HB2 := Lib.hid (HB1.out.trans (b2.mono hs1))
  have hs2 := HB2.out.size
  have HK2 := Lib.hid (HK.out.mono HB2.out)
  clear b2 hz2
  go_wp2_with fail
  refine HPR2.out.mono ?_
  rintro e w3 ⟨rfl, hb3⟩
  have HB3 := Lib.hid (HB2.out.trans (hb3.mono hs2))
  have HK3 := Lib.hid (HK.out.mono HB3.out)
  have hs3 := HB3.out.size
  rw [er1]
  clear hb3 HPR2
  go_wp2_with fail
  refine (HPX.out w3 HK3.out).mono ?_
  rintro e w4 ⟨v4, L4, rfl, hL4, ho4, hb4⟩
  have ht4 := ho4.terms
  rw [hL4] at ht4
  obtain ⟨A4, n4, c4, rfl⟩ := ho4.slice3
  obtain ⟨rfl, b, o, rfl, hlt4, hc4⟩ := parts_at ht4
  have HB4 := Lib.hid (HB3.out.trans (hb4.mono hs3))
  have HK4 := Lib.hid (HK.out.mono HB4.out)
  have hs4 := HB4.out.size
  have HC4 := Lib.hid hc4
  clear hb4 ho4 hL4 ht4 hc4
  go_wp2_with fail
  refine (HP0.out w4 HK4.out).mono ?_
  rintro e w5 ⟨v5, L5, rfl, hL5, ho5, hb5⟩
  have ht5 := ho5.terms
  rw [hL5] at ht5
  obtain ⟨A5, n5, c5, rfl⟩ := ho5.slice3
  have HO5 := Lib.hid (other_at ht5 HZ0.out)
  have HC5 := Lib.hid ((hb5.cell (p := ⟨b, o + 1, none⟩) hlt4).trans HC4.out)
  have hlt5 := Nat.lt_of_lt_of_le hlt4 hb5.size
  have HB5 := Lib.hid (HB4.out.trans (hb5.mono hs4))
  have HK5 := Lib.hid (HK.out.mono HB5.out)
  have hs5 := HB5.out.size
  clear hb5 ho5 hL5 ht5
  go_wp2_with fail
  refine (HP5.out w5 HK5.out).mono ?_
  rintro e w6 ⟨v6, L6, rfl, hL6, ho6, hb6⟩
  have ht6 := ho6.terms
  rw [hL6] at ht6
  obtain ⟨A6, n6, c6, rfl⟩ := ho6.slice3
  have HO6 := Lib.hid (other_at ht6 HZ5.out)
  have HO56 := Lib.hid (HO5.out.below hb6)
  have HC6 := Lib.hid ((hb6.cell (p := ⟨b, o + 1, none⟩) hlt5).trans HC5.out)
  have hlt6 := Nat.lt_of_lt_of_le hlt5 hb6.size
  have HB6 := Lib.hid (HB5.out.trans (hb6.mono hs5))
  have HK6 := Lib.hid (HK.out.mono HB6.out)
  have hs6 := HB6.out.size
  clear hb6 ho6 hL6 ht6
  go_wp2_with fail
  refine (HPN.out w6 HK6.out).mono ?_
  rintro e w7 ⟨v7, L7, rfl, hL7, ho7, hb7⟩
  have ht7 := ho7.terms
  rw [hL7] at ht7
  obtain ⟨A7, n7, c7, rfl⟩ := ho7.slice3
  obtain rfl := none_at ht7
  have hc7 : w7.cell? ⟨b, o + 1, none⟩ = some (.int .i64 (k : Int)) := (hb7.cell (p := ⟨b, o + 1, none⟩) hlt6).trans HC6.out
  have hO5 := HO56.out.below hb7
  have hO6 := HO6.out.below hb7
  have HB7 := Lib.hid (HB6.out.trans (hb7.mono hs6))
  dsimp only
  rw [er2]
  clear hb7 ho7 hL7 ht7
  rcases hO5 with rfl | ⟨rfl, b5, o5', z5, rfl, _, hc5, hne5⟩
  · rcases hO6 with rfl | ⟨rfl, b6, o6', z6, rfl, _, hc6, hne6⟩
    · go_wp2_with fail
      go_ret
      exact ⟨rfl, HB7.out⟩
    · have q6 : (z6 != (k : Int)) = true := bne_iff_ne.2 hne6
      go_wp2_with fail
      go_ret
      exact ⟨rfl, HB7.out⟩
  · have q5 : (z5 != (k : Int)) = true := bne_iff_ne.2 hne5
    rcases hO6 with rfl | ⟨rfl, b6, o6', z6, rfl, _, hc6, hne6⟩
    · go_wp2_with fail
      go_ret
      exact ⟨rfl, HB7.out⟩
    · have q6 : (z6 != (k : Int)) = true := bne_iff_ne.2 hne6
      go_wp2_with fail
      go_ret
      exact ⟨rfl, HB7.out⟩
end Go.Proofs.YtfiabonacpepnaaGreatDoor
