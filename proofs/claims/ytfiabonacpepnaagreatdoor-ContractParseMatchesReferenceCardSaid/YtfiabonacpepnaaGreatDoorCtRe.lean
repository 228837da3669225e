/- The reference's Line of a recoup term, and of every valid term. -/
import Derived.Test.YtfiabonacpepnaaGreatDoorCtRc
namespace Go.Proofs.YtfiabonacpepnaaGreatDoor
open Go Go.RowKit Go.Lib Go.Shelf Go.Maps

/-- " a b .." -/
def tailA (l : List Int) : List UInt8 := l.flatMap fun a => 32 :: decI a
theorem tailA_take {l : List Int} {k : Nat} {a : Int} (h : l[k]? = some a) : tailA (l.take (k + 1)) = tailA (l.take k) ++ [32] ++ decI a := by
  unfold tailA
  rw [List.take_add_one, h, List.flatMap_append]
  simp
theorem tailA_len {l : List Int} (h : ∀ a ∈ l, 1 ≤ a ∧ a ≤ 1000) : (tailA l).length ≤ l.length * 5 := by
  induction l with
  | nil => simp [tailA]
  | cons a l ih =>
    have h1 := ih fun b hb => h b (by simp [hb])
    have h2 := h a (by simp)
    have h3 := dec_len 3 a.toNat (by omega)
    unfold tailA at h1 ⊢
    rw [List.flatMap_cons, List.length_append, List.length_cons, List.length_cons]
    unfold decI at h1 ⊢
    omega
theorem tailA_join (l : List Int) : kRecoup ++ tailA l = join (kRecoup :: l.map decI) [32] := by
  rw [join_cons]
  congr 1
  induction l with
  | nil => rfl
  | cons a l ih =>
    unfold tailA at ih ⊢
    rw [List.flatMap_cons, ih]
    simp [joinTail]
theorem line_kinds {t : TermV} (h : validT t = true) : lineT t =
    (if t.k = 1 then [112, 97, 115, 115, 32] ++ pctL t.n.toNat ++ [32, 116, 111, 32] ++ decDigits t.m.toNat ++ (if t.ab.toNat = 0 then [] else [32, 97, 98, 111, 118, 101, 32] ++ decDigits t.ab.toNat)
     else if t.k = 2 then kTaxS ++ pctL t.n.toNat
     else if t.k = 3 then [114, 101, 115, 101, 114, 118, 101, 32] ++ pctL t.n.toNat ++ [32, 102, 111, 114, 32] ++ decDigits t.m.toNat
     else if t.k = 4 then [99, 97, 112, 32] ++ decDigits t.n.toNat
     else kRecoup ++ tailA t.acc) := by
  unfold lineT wordsT
  rcases validT_cases h with h1 | h1 | h1 | h1 | h1
  · rw [if_pos h1.1, if_pos h1.1]
    by_cases h0 : 0 < t.ab
    · rw [if_pos h0, if_neg (by omega)]
      simp [join_cons, joinTail, kPass, kTo, kAbove, pctI, decI]
    · rw [if_neg h0, if_pos (by omega)]
      simp [join_cons, joinTail, kPass, kTo, pctI, decI]
  · rw [if_neg (by omega), if_pos h1.1, if_neg (by omega), if_pos h1.1]
    simp [join_cons, joinTail, kTax, kTaxS, pctI]
  · rw [if_neg (by omega), if_neg (by omega), if_pos h1.1, if_neg (by omega), if_neg (by omega), if_pos h1.1]
    simp [join_cons, joinTail, kReserve, kFor, pctI, decI]
  · rw [if_neg (by omega), if_neg (by omega), if_neg (by omega), if_pos h1.1, if_neg (by omega), if_neg (by omega), if_neg (by omega), if_pos h1.1]
    simp [join_cons, joinTail, kCap, decI]
  · rw [if_neg (by omega), if_neg (by omega), if_neg (by omega), if_neg (by omega), if_neg (by omega), if_neg (by omega), if_neg (by omega), if_neg (by omega)]
    exact (tailA_join t.acc).symm
set_option maxRecDepth 100000 in
set_option maxHeartbeats 4000000 in
theorem rline_5 (acc : List Int) (n m ab : Int) (va : Value) (w : World) (hv : IntsL w va acc) (hl : acc.length ≤ 10) (ha : ∀ a ∈ acc, 1 ≤ a ∧ a ≤ 1000) :
    Calls Tryz.prog 37 #[.agg #[.int .i64 5, .int .i64 n, .int .i64 m, .int .i64 ab, va]] w fun e w' => e = .returned (strV (kRecoup ++ tailA acc)) ∧ Below w.heap.size w w' := by
  obtain ⟨A, c, rfl⟩ := hv.slice
  have HTL : Hid (∀ k, (tailA (acc.take k)).length ≤ 50) := Lib.hid (fun k => by
    have h1 := tailA_len (l := acc.take k) (fun a h => ha a (List.mem_of_mem_take h))
    have h2 : (acc.take k).length ≤ acc.length := by rw [List.length_take]; omega
    omega)
  obtain ⟨x, hx⟩ : ∃ x, acc.length = x := ⟨_, rfl⟩
  have HX := Lib.hid hx
  rw [hx] at hl hv ⊢
  have b0 : Below w.heap.size w (w.alloc (.cells #[.int .i64 5, .int .i64 n, .int .i64 m, .int .i64 ab, .slice A x c] 28)) := (Below.refl _ _).alloc (Nat.le_refl _) _
  have r0 := RowAt.new w 28 #[.int .i64 5, .int .i64 n, .int .i64 m, .int .i64 ab, .slice A x c]
  obtain ⟨W1, hW1⟩ : ∃ z, w.alloc (.cells #[.int .i64 5, .int .i64 n, .int .i64 m, .int .i64 ab, .slice A x c] 28) = z := ⟨_, rfl⟩
  have HV := Lib.hid (hv.below b0)
  rw [hW1] at b0 r0 HV
  obtain ⟨N, hN⟩ : ∃ z, w.heap.size = z := ⟨_, rfl⟩
  rw [hN] at b0 r0
  have HR0 := Lib.hid r0
  have HB0 := Lib.hid b0
  have HW1 := Lib.hid hW1
  have HNN := Lib.hid hN
  have HA := Lib.hid ha
  have c0 : W1.cell? ⟨N, 0, none⟩ = some (.int .i64 5) := r0.cell 0
  clear hx hv b0 r0 hW1 ha
  unfold strV
  go_enter Tryz.func37, Tryz.ntmps37
  go_upto_region 1 with fail
  rw [HW1.out]
  clear hN
  go_wp2_with fail
  clear c0
  go_loopw [4, 5] (fun ov iv wr => ∃ k : Nat, iv = .int .i64 k ∧ k ≤ x ∧ ov = .string ⟨(kRecoup ++ tailA (acc.take k)).toArray⟩ ∧ Hid (Below W1.heap.size W1 wr)) (fun _ iv _ => x - (intOf iv).toNat)
  case atStart => exact ⟨0, rfl, Nat.zero_le _, rfl, Lib.hid (Below.refl _ _)⟩
  case round =>
    obtain ⟨k, rfl, hk, rfl, HB⟩ := hrel
    have c4 : wr.cell? ⟨N, 4, none⟩ = some (.slice A x c) := (HB.out.cell (p := ⟨N, 4, none⟩) HR0.out.lt).trans (HR0.out.cell 4)
    have hs1 : W1.heap.size ≤ wr.heap.size := HB.out.size
    by_cases hkx : k < x
    · obtain ⟨a, hak⟩ : ∃ a, acc[k]? = some a := ⟨_, List.getElem?_eq_getElem (by rw [HX.out]; exact hkx)⟩
      obtain ⟨b, o, rfl, hca⟩ : ∃ b o, A = some ⟨b, o, none⟩ ∧ wr.cell? ⟨b, o + k, none⟩ = some (.int .i64 a) := by
        rcases HV.out with ⟨hnil, _⟩ | ⟨b, o, c', he, hlt, hc⟩
        · rw [hnil] at hak; simp at hak
        · simp only [Value.slice.injEq] at he
          exact ⟨b, o, he.1, (HB.out.cell (p := ⟨b, o + k, none⟩) hlt).trans (hc k a hak)⟩
      have hab := HA.out a (List.mem_of_getElem? hak)
      obtain ⟨a, rfl⟩ := Int.eq_ofNat_of_zero_le (show 0 ≤ a by omega)
      have HDG := Lib.hid (rdigits_any a wr (by omega))
      have HNX := Lib.hid (tailA_take hak)
      have hdl : (decDigits a).length ≤ 4 := dec_len 3 a (by omega)
      have htl := HTL.out k
      rw [show decI ((a : Nat) : Int) = decDigits a from rfl] at HNX
      obtain ⟨D, hD⟩ : ∃ D, decDigits a = D := ⟨_, rfl⟩
      rw [hD] at HDG HNX hdl
      obtain ⟨O, hO⟩ : ∃ O, kRecoup ++ tailA (acc.take k) = O := ⟨_, rfl⟩
      have hol : O.length ≤ 60 := by rw [← hO, List.length_append]; have : kRecoup.length = 6 := rfl; omega
      have HO : Hid (kRecoup ++ tailA (acc.take (k + 1)) = O ++ [32] ++ D) := Lib.hid (by rw [HNX.out, ← hO]; simp)
      rw [hO]
      unfold strV at HDG
      clear hak hD hO htl hab
      go_wp2_with fail
      refine HDG.out.mono ?_
      rintro e w5 ⟨rfl, hb5⟩
      have HB5 := Lib.hid (HB.out.trans (hb5.mono hs1))
      clear hb5 c4 hca
      go_wp2_with fail
      go_roundw
      case rel => exact ⟨k + 1, by go_num, by omega, by rw [HO.out, ← ba_app, ← ba_app], HB5⟩
      case measure => simp [intOf]; omega
    · obtain rfl : k = x := by omega
      have hall : acc.take k = acc := List.take_of_length_le (by rw [HX.out]; exact Nat.le_refl _)
      rw [hall]
      go_wp2_with fail
      go_ret
      exact ⟨rfl, by rw [HNN.out]; exact HB0.out.trans (HB.out.mono (Nat.le_of_lt HR0.out.lt))⟩
theorem rline_any (t : TermV) (va : Value) (w : World) (hv : IntsL w va t.acc) (h : validT t = true) :
    Calls Tryz.prog 37 #[.agg (termC t va)] w fun e w' => e = .returned (strV (lineT t)) ∧ Below w.heap.size w w' := by
  have hlk := line_kinds h
  rw [hlk]
  have hc := validT_cases h
  obtain ⟨k, n, m, ab, acc⟩ := t
  dsimp only at hc hv ⊢
  clear hlk h
  rcases hc with ⟨rfl, a1, a2, a3, a4, a5, a6, a7⟩ | ⟨rfl, a1, a2, a3, a4, a5⟩ | ⟨rfl, a1, a2, a3, a4, a5, a6⟩ | ⟨rfl, a1, a2, a3, a4, a5⟩ | ⟨rfl, a1, a2, a3, a4, a5, a6, _⟩
  · obtain ⟨n, rfl⟩ := Int.eq_ofNat_of_zero_le (show 0 ≤ n by omega)
    obtain ⟨m, rfl⟩ := Int.eq_ofNat_of_zero_le (show 0 ≤ m by omega)
    obtain ⟨ab, rfl⟩ := Int.eq_ofNat_of_zero_le (show 0 ≤ ab by omega)
    rw [if_pos rfl]
    exact rline_1 n m ab va w (by omega) (by omega) (by omega)
  · obtain ⟨n, rfl⟩ := Int.eq_ofNat_of_zero_le (show 0 ≤ n by omega)
    rw [if_neg (by decide), if_pos rfl]
    exact rline_2 n m ab va w (by omega)
  · obtain ⟨n, rfl⟩ := Int.eq_ofNat_of_zero_le (show 0 ≤ n by omega)
    obtain ⟨m, rfl⟩ := Int.eq_ofNat_of_zero_le (show 0 ≤ m by omega)
    rw [if_neg (by decide), if_neg (by decide), if_pos rfl]
    exact rline_3 n m ab va w (by omega) (by omega)
  · obtain ⟨n, rfl⟩ := Int.eq_ofNat_of_zero_le (show 0 ≤ n by omega)
    rw [if_neg (by decide), if_neg (by decide), if_neg (by decide), if_pos rfl]
    exact rline_4 n m ab va w (by omega)
  · rw [if_neg (by decide), if_neg (by decide), if_neg (by decide), if_neg (by decide)]
    exact rline_5 acc n m ab va w hv (by omega) a6
end Go.Proofs.YtfiabonacpepnaaGreatDoor
