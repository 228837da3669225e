/- sane: the fixed examples. -/
import Derived.Test.YtfiabonacpepnaaGreatDoorCtX
namespace Go.Proofs.YtfiabonacpepnaaGreatDoor
open Go Go.RowKit Go.Lib Go.Shelf Go.Maps

def saneL : List TermV := [⟨1, 200000, 17, 0, []⟩, ⟨1, 52500, 17, 5000000, []⟩, ⟨2, 1, 0, 0, []⟩, ⟨3, 1000000, 24, 0, []⟩, ⟨4, 0, 0, 0, []⟩, ⟨5, 0, 0, 0, [4, 5]⟩]
def saneB : List (List UInt8) := [[112, 97, 115, 115, 32, 50, 48, 37, 32, 116, 111, 32, 49, 55],
  [112, 97, 115, 115, 32, 53, 46, 50, 53, 37, 32, 116, 111, 32, 49, 55, 32, 97, 98, 111, 118, 101, 32, 53, 48, 48, 48, 48, 48, 48],
  [116, 97, 120, 32, 48, 46, 48, 48, 48, 49, 37],
  [114, 101, 115, 101, 114, 118, 101, 32, 49, 48, 48, 37, 32, 102, 111, 114, 32, 50, 52],
  [99, 97, 112, 32, 48],
  [114, 101, 99, 111, 117, 112, 32, 52, 32, 53]]
def saneT : List UInt8 := saneB.flatMap fun l => l ++ [10]
def saneH : List UInt8 := [35, 32, 116, 101, 114, 109, 115, 10, 10]
def saneBad : List UInt8 := [116, 97, 120, 32, 49, 53, 37, 10, 116, 97, 120, 32, 49, 53, 46, 48, 37]
theorem sane_lines : saneL.map lineT = saneB := by
  have h : ∀ (l : List UInt8) (t : TermV), termV l = (t, true) → lineT t = l := fun l t h => ((termV_iff l t).1 h).2
  unfold saneL saneB
  simp only [List.map_cons, List.map_nil]
  rw [h _ _ (show termV [112, 97, 115, 115, 32, 50, 48, 37, 32, 116, 111, 32, 49, 55] = (⟨1, 200000, 17, 0, []⟩, true) by kernel_rfl),
    h _ _ (show termV [112, 97, 115, 115, 32, 53, 46, 50, 53, 37, 32, 116, 111, 32, 49, 55, 32, 97, 98, 111, 118, 101, 32, 53, 48, 48, 48, 48, 48, 48] = (⟨1, 52500, 17, 5000000, []⟩, true) by kernel_rfl),
    h _ _ (show termV [116, 97, 120, 32, 48, 46, 48, 48, 48, 49, 37] = (⟨2, 1, 0, 0, []⟩, true) by kernel_rfl),
    h _ _ (show termV [114, 101, 115, 101, 114, 118, 101, 32, 49, 48, 48, 37, 32, 102, 111, 114, 32, 50, 52] = (⟨3, 1000000, 24, 0, []⟩, true) by kernel_rfl),
    h _ _ (show termV [99, 97, 112, 32, 48] = (⟨4, 0, 0, 0, []⟩, true) by kernel_rfl),
    h _ _ (show termV [114, 101, 99, 111, 117, 112, 32, 52, 32, 53] = (⟨5, 0, 0, 0, [4, 5]⟩, true) by kernel_rfl)]
theorem sane_good : goodL saneL = true := by decide
theorem sane_print : printV saneL = saneT := by
  unfold printV
  rw [if_pos sane_good]
  unfold textT saneT
  rw [← sane_lines, List.flatMap_map]
theorem sane_parse : parseV (saneH ++ saneT) = (saneL, 0, true) := by
  refine ofSplit_mk (by decide) ?_ ((good_iff _).1 sane_good).2 (by decide)
  rw [sane_lines]
  decide
theorem sane_bad : parseV saneBad = ([], 2, false) := by kernel_rfl
theorem sane_zero : printV [zeroT] = [] ∧ goodL [zeroT] = false := by
  have h : goodL [zeroT] = false := by decide
  exact ⟨by unfold printV; rw [if_neg (by rw [h]; decide)], h⟩

theorem terms_of {W : World} {b : Nat} {L : List (TermV × Value)} (h : RowAt W b 28 (tCells L).toArray) (hacc : ∀ p ∈ L, IntsL W p.2 p.1.acc) (c : Nat) : TermsAt W (.slice (some ⟨b, 0, none⟩) L.length c) (L.map (·.1)) := by
  refine .inr ⟨b, 0, c, by rw [List.length_map], h.lt, fun i t hi => ?_⟩
  rw [List.getElem?_map] at hi
  cases hl : L[i]? with
  | none => rw [hl] at hi; cases hi
  | some p =>
    rw [hl] at hi
    simp at hi
    subst hi
    refine ⟨p.2, hacc p (List.mem_of_getElem? hl), fun j x hx => ?_⟩
    rw [h.cell, List.getElem?_toArray, Nat.zero_add]
    exact tCells_get L i p hl j x hx
/-- the fixed terms, their accounts in block b -/
def saneP (b : Nat) : List (TermV × Value) := [(⟨1, 200000, 17, 0, []⟩, .slice none 0 0), (⟨1, 52500, 17, 5000000, []⟩, .slice none 0 0), (⟨2, 1, 0, 0, []⟩, .slice none 0 0), (⟨3, 1000000, 24, 0, []⟩, .slice none 0 0), (⟨4, 0, 0, 0, []⟩, .slice none 0 0), (⟨5, 0, 0, 0, [4, 5]⟩, .slice (some ⟨b, 0, none⟩) 2 2)]
theorem sane_terms {W : World} {b b2 : Nat} (h1 : RowAt W b 3 #[.int .i64 4, .int .i64 5]) (h2 : RowAt W b2 28 (tCells (saneP b)).toArray) : TermsAt W (.slice (some ⟨b2, 0, none⟩) 6 6) saneL := by
  refine terms_of h2 (fun p hp => ?_) 6
  unfold saneP at hp
  simp only [List.mem_cons, List.not_mem_nil, or_false] at hp
  rcases hp with rfl | rfl | rfl | rfl | rfl | rfl
  · exact .inl ⟨rfl, none, 0, rfl⟩
  · exact .inl ⟨rfl, none, 0, rfl⟩
  · exact .inl ⟨rfl, none, 0, rfl⟩
  · exact .inl ⟨rfl, none, 0, rfl⟩
  · exact .inl ⟨rfl, none, 0, rfl⟩
  · refine .inr ⟨b, 0, 2, rfl, h1.lt, fun i x hx => ?_⟩
    rw [h1.cell, Nat.zero_add]
    match i, hx with
    | 0, hx => simp at hx; subst hx; rfl
    | 1, hx => simp at hx; subst hx; rfl
    | i + 2, hx => simp at hx
theorem sane_accs : ∀ t ∈ saneL, t.acc.length ≤ 1000000 ∧ ∀ a ∈ t.acc, -9223372036854775808 ≤ a ∧ a ≤ 9223372036854775807 := by
  intro t ht
  unfold saneL at ht
  simp only [List.mem_cons, List.not_mem_nil, or_false] at ht
  rcases ht with rfl | rfl | rfl | rfl | rfl | rfl <;> simp
set_option maxRecDepth 100000 in
set_option maxHeartbeats 8000000 in
theorem sane_any (w : World) (hK : KAt w) : Calls Tryz.prog 12 #[] w fun e w' => e = .returned (.bool true) ∧ Below w.heap.size w w' := by
  have er1 : errI true = 0 := rfl
  have er2 : errI false = 140 := rfl
  obtain ⟨N, hN⟩ : ∃ z, w.heap.size = z := ⟨_, rfl⟩
  have h9 : 9 ≤ N := by rw [← hN]; exact hK.lt
  have e0 : (w.alloc (.cells #[.int .i64 4, .int .i64 5] 3)).heap.size = N + 1 := by rw [← hN]; simp
  have r1 := RowAt.new w 3 #[.int .i64 4, .int .i64 5]
  have r2 := RowAt.new (w.alloc (.cells #[.int .i64 4, .int .i64 5] 3)) 28 (tCells (saneP N)).toArray
  have r1b := r1.alloc (.cells (tCells (saneP N)).toArray 28)
  have b1 : Below w.heap.size w ((w.alloc (.cells #[.int .i64 4, .int .i64 5] 3)).alloc (.cells (tCells (saneP N)).toArray 28)) := ((Below.refl _ _).alloc (Nat.le_refl _) _).alloc (by simp) _
  rw [e0] at r2
  rw [hN] at r1b b1
  have hT1 := sane_terms r1b r2
  have hsz : N < ((w.alloc (.cells #[.int .i64 4, .int .i64 5] 3)).alloc (.cells (tCells (saneP N)).toArray 28)).heap.size := r1b.lt
  have HK1 := Lib.hid (hK.mono (by rw [hN]; exact b1))
  have HT1 := Lib.hid hT1
  have HB1 := Lib.hid b1
  have HL1 := Lib.hid r2
  have HS1 := Lib.hid hsz
  have HP1 := Lib.hid (print_any saneL _ _ HK1.out hT1 (by decide) sane_accs)
  rw [sane_good, sane_print] at HP1
  have HNN := Lib.hid hN
  clear r1 r2 r1b b1 hT1 hsz e0 hK
  unfold saneP tCells termC at HP1 HT1 HK1 HB1 HS1 HL1
  simp only [List.flatMap_cons, List.flatMap_nil, List.append_nil, List.cons_append, List.nil_append] at HP1 HT1 HK1 HB1 HS1 HL1
  go_enter Tryz.func12, Tryz.ntmps12
  go_wp2_with fail
  refine HP1.out.mono ?_
  rintro e w2 ⟨rfl, hb2⟩
  have HK2 := Lib.hid (HK1.out.mono hb2)
  have HT2 := Lib.hid (HT1.out.below hb2)
  have HL2 := Lib.hid (HL1.out.below hb2 HL1.out.lt)
  have HB2 := Lib.hid (HB1.out.trans (hb2.mono (Nat.le_of_lt HS1.out)))
  have hs2 : N < w2.heap.size := Nat.lt_of_lt_of_le HS1.out hb2.size
  clear hb2 HP1 HK1 HT1 HB1 HS1 HL1
  have HP2 := Lib.hid (parse_any (saneH ++ saneT) w2 HK2.out (by decide))
  rw [sane_parse] at HP2
  unfold strV
  go_wp2_with fail
  refine HP2.out.mono ?_
  rintro e w3 ⟨v4, L4, rfl, hL4, ho4, hb3⟩
  dsimp only at hL4
  have ht4 := ho4.terms
  rw [hL4] at ht4
  obtain ⟨A4, c4, rfl⟩ := ht4.slice
  have HT3 := Lib.hid (And.intro (HT2.out.below hb3) ht4)
  have HK3 := Lib.hid (HK2.out.mono hb3)
  have HB3 := Lib.hid (HB2.out.trans (hb3.mono (Nat.le_of_lt hs2)))
  have hs3 : N < w3.heap.size := Nat.lt_of_lt_of_le hs2 hb3.size
  have HL3 := Lib.hid (HL2.out.below hb3 HL2.out.lt)
  have HP3 := Lib.hid (parse_any saneBad w3 HK3.out (by decide))
  rw [sane_bad] at HP3
  clear hb3 ho4 ht4 hL4 HP2 HK2 HT2 HB2 HL2
  go_wp2_with fail
  refine HP3.out.mono ?_
  rintro e w4 ⟨v7, L7, rfl, hL7, ho7, hb4⟩
  obtain ⟨A7, n7, c7, rfl⟩ := ho7.slice3
  have HT4 := Lib.hid (And.intro (HT3.out.1.below hb4) (HT3.out.2.below hb4))
  have HK4 := Lib.hid (HK3.out.mono hb4)
  have HB4 := Lib.hid (HB3.out.trans (hb4.mono (Nat.le_of_lt hs3)))
  have hs4 : N < w4.heap.size := Nat.lt_of_lt_of_le hs3 hb4.size
  have HL4 := Lib.hid (HL3.out.below hb4 HL3.out.lt)
  have b5 : Below w4.heap.size w4 (w4.alloc (.cells #[.int .i64 0, .int .i64 0, .int .i64 0, .int .i64 0, .slice none 0 0] 28)) := (Below.refl _ _).alloc (Nat.le_refl _) _
  have HT5 := Lib.hid (And.intro (HT4.out.1.below b5) (HT4.out.2.below b5))
  have HK5 := Lib.hid (HK4.out.mono b5)
  have HB5 := Lib.hid (HB4.out.trans (b5.mono (Nat.le_of_lt hs4)))
  have HL5 := Lib.hid (HL4.out.below b5 HL4.out.lt)
  have hz5 : TermsAt (w4.alloc (.cells #[.int .i64 0, .int .i64 0, .int .i64 0, .int .i64 0, .slice none 0 0] 28)) (.slice (some ⟨w4.heap.size, 0, none⟩) 1 1) [zeroT] :=
    terms_of (L := [(zeroT, .slice none 0 0)]) (RowAt.new w4 28 #[.int .i64 0, .int .i64 0, .int .i64 0, .int .i64 0, .slice none 0 0]) (fun p hp => by simp at hp; subst hp; exact .inl ⟨rfl, none, 0, rfl⟩) 1
  have HP5 := Lib.hid (print_any [zeroT] _ _ HK5.out hz5 (by decide) (fun t ht => by simp at ht; subst ht; simp [zeroT]))
  rw [sane_zero.1, sane_zero.2] at HP5
  clear hb4 ho7 hL7 HP3 HK3 HT3 HB3 HL3 b5 hz5
  unfold strV errI at HP5
  go_wp2_with fail
  refine HP5.out.mono ?_
  rintro e w6 ⟨rfl, hb6⟩
  have HT6 := Lib.hid (And.intro (HT5.out.1.below hb6) (HT5.out.2.below hb6))
  have HK6 := Lib.hid (HK5.out.mono hb6)
  have HB6 := Lib.hid (HB5.out.trans (hb6.mono (by simp; omega)))
  have hs6 : N < w6.heap.size := by have := hb6.size; simp at this; omega
  have HL6 := Lib.hid (HL5.out.below hb6 HL5.out.lt)
  clear hb6 HP5 HK5 HT5 HB5 HL5
  have hst : (saneT == [112, 97, 115, 115, 32, 50, 48, 37, 32, 116, 111, 32, 49, 55, 10, 112, 97, 115, 115, 32, 53, 46, 50, 53, 37, 32, 116, 111, 32, 49, 55, 32, 97, 98, 111, 118, 101, 32, 53, 48, 48, 48, 48, 48, 48, 10, 116, 97, 120, 32, 48, 46, 48, 48, 48, 49, 37, 10, 114, 101, 115, 101, 114, 118, 101, 32, 49, 48, 48, 37, 32, 102, 111, 114, 32, 50, 52, 10, 99, 97, 112, 32, 48, 10, 114, 101, 99, 111, 117, 112, 32, 52, 32, 53, 10]) = true := by decide
  have HSM := Lib.hid (rSame_any saneL saneL _ _ w6 (by decide) (by decide) HT6.out.1 HT6.out.2 (fun t h => (sane_accs t h).1) (fun t h => (sane_accs t h).1))
  rw [sameTs_iff.2 rfl] at HSM
  have HLR : Hid (RowAt w6 (N + 1) 28 (tCells (saneP N)).toArray) := Lib.hid HL6.out
  go_wp2_with fail
  refine HSM.out.mono ?_
  rintro e w7 ⟨rfl, hb7⟩
  have HT7 := Lib.hid (And.intro (HT6.out.1.below hb7) (HT6.out.2.below hb7))
  have HK7 := Lib.hid (HK6.out.mono hb7)
  have HB7 := Lib.hid (HB6.out.trans (hb7.mono (Nat.le_of_lt hs6)))
  have hs7 : N < w7.heap.size := Nat.lt_of_lt_of_le hs6 hb7.size
  have HL7 := Lib.hid (HLR.out.below hb7 HLR.out.lt)
  have q0 : w7.cell? ⟨N + 1, 0, none⟩ = some (.int .i64 1) := HL7.out.cell 0
  have q1 : w7.cell? ⟨N + 1, 1, none⟩ = some (.int .i64 200000) := HL7.out.cell 1
  have q2 : w7.cell? ⟨N + 1, 2, none⟩ = some (.int .i64 17) := HL7.out.cell 2
  have q3 : w7.cell? ⟨N + 1, 3, none⟩ = some (.int .i64 0) := HL7.out.cell 3
  have q4 : w7.cell? ⟨N + 1, 4, none⟩ = some (.slice none 0 0) := HL7.out.cell 4
  have HV1 : Hid (Calls Tryz.prog 14 #[.agg #[.int .i64 1, .int .i64 200000, .int .i64 17, .int .i64 0, .slice none 0 0]] w7 fun e w' => e = .returned (.bool true) ∧ Below w7.heap.size w7 w') := Lib.hid (validC_any ⟨1, 200000, 17, 0, []⟩ (.slice none 0 0) w7 (by decide) (.inl ⟨rfl, none, 0, rfl⟩) (by simp))
  clear hb7 HSM HT6 HK6 HB6 HL6 HLR
  go_wp2_with fail
  refine HV1.out.mono ?_
  rintro e w8 ⟨rfl, hb8⟩
  have HT8 := Lib.hid (And.intro (HT7.out.1.below hb8) (HT7.out.2.below hb8))
  have HB8 := Lib.hid (HB7.out.trans (hb8.mono (Nat.le_of_lt hs7)))
  have hs8 : N < w8.heap.size := Nat.lt_of_lt_of_le hs7 hb8.size
  have HV2 : Hid (Calls Tryz.prog 14 #[.agg #[.int .i64 2, .int .i64 0, .int .i64 0, .int .i64 0, .slice none 0 0]] w8 fun e w' => e = .returned (.bool false) ∧ Below w8.heap.size w8 w') := Lib.hid (validC_any ⟨2, 0, 0, 0, []⟩ (.slice none 0 0) w8 (by decide) (.inl ⟨rfl, none, 0, rfl⟩) (by simp))
  clear hb8 HV1 HT7 HK7 HB7 HL7 q0 q1 q2 q3 q4
  go_wp2_with fail
  refine HV2.out.mono ?_
  rintro e w9 ⟨rfl, hb9⟩
  have HT9 := Lib.hid (And.intro (HT8.out.1.below hb9) (HT8.out.2.below hb9))
  have HB9 := Lib.hid (HB8.out.trans (hb9.mono (Nat.le_of_lt hs8)))
  have hs9 : N < w9.heap.size := Nat.lt_of_lt_of_le hs8 hb9.size
  have HS9 := Lib.hid (Same_any saneL saneL _ _ w9 (by decide) (by decide) HT9.out.1 HT9.out.2 (fun t h => (sane_accs t h).1) (fun t h => (sane_accs t h).1))
  rw [sameTs_iff.2 rfl] at HS9
  clear hb9 HV2 HT8 HB8
  go_wp2_with fail
  refine HS9.out.mono ?_
  rintro e w10 ⟨rfl, hb10⟩
  have HT10 := Lib.hid (HT9.out.1.below hb10)
  have HB10 := Lib.hid (HB9.out.trans (hb10.mono (Nat.le_of_lt hs9)))
  have hs10 : N < w10.heap.size := Nat.lt_of_lt_of_le hs9 hb10.size
  have HS10 : Hid (Calls Tryz.prog 18 #[.slice (some ⟨N + 1, 0, none⟩) 6 6, .slice none 0 0] w10 fun e w' => e = .returned (.bool false) ∧ Below w10.heap.size w10 w') := Lib.hid (Same_any saneL [] _ _ w10 (by decide) (by decide) HT10.out (.inl ⟨rfl, none, 0, rfl⟩) (fun t h => (sane_accs t h).1) (by simp))
  clear hb10 HS9 HT9 HB9
  go_wp2_with fail
  refine HS10.out.mono ?_
  rintro e w11 ⟨rfl, hb11⟩
  have HB11 := Lib.hid (HB10.out.trans (hb11.mono (Nat.le_of_lt hs10)))
  clear hb11
  go_wp2_with fail
  go_ret
  exact ⟨rfl, by rw [HNN.out]; exact HB11.out⟩
end Go.Proofs.YtfiabonacpepnaaGreatDoor
