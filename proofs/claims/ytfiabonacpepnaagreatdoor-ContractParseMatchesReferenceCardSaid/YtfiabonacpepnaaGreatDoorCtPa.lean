/- ContractParsedAgain: the walk. -/
import Derived.Test.YtfiabonacpepnaaGreatDoorCtRt
namespace Go.Proofs.YtfiabonacpepnaaGreatDoor
open Go Go.RowKit Go.Lib Go.Shelf Go.Maps

/-- strings that can be read in memory -/
def StrsAt (w : World) (A : Option Addr) (ls : List (List UInt8)) : Prop :=
  ∀ (j : Nat) x, ls[j]? = some x → ∃ g, A = some ⟨g, 0, none⟩ ∧ g < w.heap.size ∧ w.cell? ⟨g, j, none⟩ = some (strV x)
theorem StrsAt.below {w w' : World} {A : Option Addr} {ls : List (List UInt8)} (h : StrsAt w A ls) (hb : Below w.heap.size w w') : StrsAt w' A ls := by
  intro j x hx
  obtain ⟨g, hA, hg, hc⟩ := h j x hx
  exact ⟨g, hA, Nat.lt_of_lt_of_le hg hb.size, (hb.cell (p := ⟨g, j, none⟩) hg).trans hc⟩
theorem OwnS.read {w : World} {base : Nat} {v : Value} {ls : List (List UInt8)} (h : OwnS w base v ls) : ∃ A c, v = .slice A ls.length c ∧ StrsAt w A ls := by
  rcases h.2 with ⟨rfl, hn⟩ | ⟨g, cap, cur, rfl, hb, hg, rest⟩
  · refine ⟨none, 0, by rw [hn], fun j x hx => ?_⟩
    rw [List.length_eq_zero_iff.1 hn] at hx
    simp at hx
  · refine ⟨_, _, rfl, fun j x hx => ⟨g, rfl, (Array.getElem?_eq_some_iff.1 hg).1, ?_⟩⟩
    have hj : j < ls.length := (List.getElem?_eq_some_iff.1 hx).1
    have h2 := World.ownsRow.cellAt h j (by omega)
    rw [h2, List.getElem?_map, hx]
    rfl
theorem list_of (r : ByteArray) : ∃ S : List UInt8, r = ⟨S.toArray⟩ := ⟨r.data.toList, by simp⟩
/-- s[:min(len(s), k)] -/
theorem cut_min (s : ByteArray) (k : Nat) (K : Int) (hK : K = (k : Int)) : ∃ S : List UInt8, S.length ≤ k ∧ Hid (s.extract 0 (min (s.size : Int) K).toNat = ⟨S.toArray⟩) := by
  subst hK
  have e : (min (s.size : Int) (k : Int)).toNat = min s.size k := by omega
  refine ⟨(s.extract 0 (min s.size k)).data.toList, ?_, Lib.hid (by rw [e])⟩
  have h : (s.extract 0 (min s.size k)).size ≤ k := by simp; omega
  simpa using h
theorem add_two (B l : List UInt8) : (⟨B.toArray⟩ : ByteArray) ++ ⟨l.toArray⟩ ++ ⟨#[10]⟩ = ⟨(if false = true then B else B ++ l ++ [10]).toArray⟩ := by
  have e := ba_app (B ++ l) [10]
  rw [ba_app B l]
  exact e
theorem keep_take {ls : List (List UInt8)} {k : Nat} {l : List UInt8} (h : ls[k]? = some l) : keepL (ls.take (k + 1)) = keepL (ls.take k) ++ (if ignoredL l = true then [] else [l]) := by
  rw [List.take_add_one, h]
  unfold keepL
  rw [List.filter_append]
  congr 1
  cases h2 : ignoredL l <;> simp [h2]
theorem linesL_app (a b : List (List UInt8)) : linesL (a ++ b) = linesL a ++ linesL b := by unfold linesL; rw [List.flatMap_append]
theorem keep_len : ∀ (ls : List (List UInt8)) (k : Nat), (linesL (keepL (ls.take k))).length ≤ (linesL ls).length := by
  intro ls
  induction ls with
  | nil => intro k; simp [keepL, linesL]
  | cons l r ih =>
    intro k
    cases k with
    | zero => simp [keepL, linesL]
    | succ k =>
      have h1 := ih k
      have e : keepL ((l :: r).take (k + 1)) = (if ignoredL l = true then [] else [l]) ++ keepL (r.take k) := by
        rw [List.take_succ_cons]
        unfold keepL
        rw [List.filter_cons]
        cases ignoredL l <;> simp
      rw [e, linesL_app, List.length_append]
      have e2 : (linesL (l :: r)).length = l.length + 1 + (linesL r).length := by unfold linesL; rw [List.flatMap_cons]; simp; omega
      have e3 : (linesL (if ignoredL l = true then [] else [l])).length ≤ l.length + 1 := by
        unfold linesL
        split <;> simp
      omega
theorem lines_total (s : List UInt8) : (linesL (splitL 10 s)).length = s.length + 1 := by
  have h := join_split 10 s
  obtain ⟨a, x, hax⟩ : ∃ a x, splitL 10 s = a ++ [x] := by
    have hne : splitL 10 s ≠ [] := splitL_ne 10 s
    exact ⟨_, _, (List.dropLast_concat_getLast hne).symm⟩
  rw [hax] at h ⊢
  rw [join_lines] at h
  rw [linesL_app, List.length_append, ← h, List.length_append]
  unfold linesL
  simp
  omega
theorem valid_accs {t : TermV} (h : validT t = true) : t.acc.length ≤ 1000000 ∧ ∀ a ∈ t.acc, -9223372036854775808 ≤ a ∧ a ≤ 9223372036854775807 := by
  rcases validT_cases h with ⟨_, _, _, h, _⟩ | ⟨_, _, _, h, _⟩ | ⟨_, _, _, h, _⟩ | ⟨_, _, _, _, _, h⟩ | ⟨_, _, _, _, _, h1, h2, _⟩
  · rw [h]; simp
  · rw [h]; simp
  · rw [h]; simp
  · rw [h]; simp
  · exact ⟨by omega, fun a ha => by have := h2 a ha; omega⟩
theorem good_accs {l : List TermV} (h : goodL l = true) : ∀ t ∈ l, t.acc.length ≤ 1000000 ∧ ∀ a ∈ t.acc, -9223372036854775808 ≤ a ∧ a ≤ 9223372036854775807 :=
  fun t ht => valid_accs (((good_iff l).1 h).2 t ht)
set_option maxRecDepth 100000 in
set_option maxHeartbeats 8000000 in
theorem parsedAgain_yes (sb : ByteArray) (w : World) (hK : KAt w) :
    Calls Tryz.prog 6 #[.string sb] w fun e w' => e = .returned (.bool true) ∧ Below w.heap.size w w' := by
  have er1 : errI true = 0 := rfl
  have er2 : errI false = 140 := rfl
  obtain ⟨S, hS, HRS⟩ := cut_min sb 2100 2100 rfl
  have h9 : 9 ≤ w.heap.size := hK.lt
  have HK := Lib.hid hK
  have HP := Lib.hid (fun W (h : KAt W) => parse_any S W h (by omega))
  have HPA : Hid (S.length ≤ 2000 → _) := Lib.hid (fun h => parsed_again (s := S) h)
  have HPF := Lib.hid (parse_false (s := S))
  have HPL : Hid (2000 < S.length → (parseV S).2.2 = false) := Lib.hid (fun h => by unfold parseV; rw [if_neg (by omega)])
  have HLT := Lib.hid (lines_total S)
  have HLA := Lib.hid (fun W => lines_any S W (by omega))
  have hPL20 : (parseV S).1.length ≤ 20 := by
    unfold parseV
    split
    · exact parse_len _ _ _ (by simp)
    · simp
  obtain ⟨PV, hPV⟩ : ∃ z, parseV S = z := ⟨_, rfl⟩
  rw [hPV] at HP HPA HPF HPL hPL20
  obtain ⟨ts, at_, ok⟩ := PV
  dsimp only at HP HPA HPF HPL hPL20
  clear hPV hK
  go_enter Tryz.func6, Tryz.ntmps6
  go_wp2_with fail
  refine (sane_any w HK.out).mono ?_
  rintro e w1 ⟨rfl, hb1⟩
  have HB1 := Lib.hid hb1
  have HK1 := Lib.hid (HK.out.mono hb1)
  have hs1 := hb1.size
  clear hb1
  unfold strV at HP
  go_upto_region 3 with fail
  rw [HRS.out]
  clear HRS
  go_wp2_with fail
  refine (HP.out w1 HK1.out).mono ?_
  rintro e w2 ⟨v2, L2, rfl, hL2, ho2, hb2⟩
  dsimp only at hL2 ⊢
  have ht2 := ho2.terms
  rw [hL2] at ht2
  obtain ⟨A2, c2, rfl⟩ := ht2.slice
  have HT2 := Lib.hid ht2
  have HB2 := Lib.hid (HB1.out.trans (hb2.mono hs1))
  have HK2 := Lib.hid (HK.out.mono HB2.out)
  have hs2 : w.heap.size ≤ w2.heap.size := HB2.out.size
  clear hb2 ho2 hL2 ht2
  cases ok
  · obtain ⟨h0, h1⟩ := HPF.out rfl
    subst h0
    rw [er2]
    by_cases hat : 1 ≤ at_
    · have d1 : decide ((1 : Int) ≤ (at_ : Int)) = true := by simp; omega
      clear h1
      go_wp2_with fail
      go_ret
      exact ⟨rfl, HB2.out⟩
    · have d1 : decide ((1 : Int) ≤ (at_ : Int)) = false := by simp; omega
      obtain rfl : at_ = 0 := by omega
      have d2 : decide ((2000 : Int) < (S.length : Int)) = true := by simp; omega
      clear h1
      go_wp2_with fail
      go_ret
      exact ⟨rfl, HB2.out⟩
  · rw [er1]
    have hS2 : S.length ≤ 2000 := by
      rcases Nat.lt_or_ge 2000 S.length with h | h
      · exact absurd (HPL.out h) (by simp)
      · exact h
    obtain ⟨hg, hpr, rfl⟩ := HPA.out hS2 rfl
    have HPR := Lib.hid (fun W v (h : KAt W) (h2 : TermsAt W v ts) => print_any ts v W h h2 (by omega) (good_accs hg))
    rw [hg, hpr] at HPR
    rw [show ((keepL (splitL 10 S)).flatMap fun l => l ++ [10]) = linesL (keepL (splitL 10 S)) from rfl] at HPR
    obtain ⟨ls, hls⟩ : ∃ z, splitL 10 S = z := ⟨_, rfl⟩
    rw [hls] at HPR HLT HLA
    have HKL := Lib.hid (keep_len ls)
    obtain ⟨n, hn⟩ : ∃ z, ls.length = z := ⟨_, rfl⟩
    have HN := Lib.hid hn
    have HSL : Hid (n ≤ 1000000 ∧ ∀ l ∈ ls, l.length ≤ 1000000) := Lib.hid (by
      have h := split_len 10 S
      rw [hls, hn] at h
      refine ⟨by omega, fun l hl => ?_⟩
      have := h.2 l hl
      omega)
    clear hg hpr hls hn
    unfold strV at HLA HPR
    go_wp2_with fail
    refine (HLA.out w2).mono ?_
    rintro e w3 ⟨v3, rfl, ho3, hb3⟩
    obtain ⟨A3, c3, rfl, hr3⟩ := ho3.read
    rw [HN.out]
    have HR3 := Lib.hid hr3
    have HT3 := Lib.hid (HT2.out.below hb3)
    have HB3 := Lib.hid (HB2.out.trans (hb3.mono hs2))
    have hs3 : w.heap.size ≤ w3.heap.size := HB3.out.size
    clear hb3 hr3 ho3
    have hn6 := HSL.out.1
    go_wp2_with fail
    go_loopw [7, 9] (fun ov iv wr => ∃ k : Nat, iv = .int .i64 k ∧ k ≤ n ∧ ov = .string ⟨(linesL (keepL (ls.take k))).toArray⟩ ∧ wr = w3) (fun _ iv _ => n - (intOf iv).toNat)
    case atStart => exact ⟨0, rfl, Nat.zero_le _, by simp [keepL, linesL], rfl⟩
    case round =>
      obtain ⟨k, rfl, hk, rfl, rfl⟩ := hrel
      by_cases hkn : k < n
      · obtain ⟨l, hlk⟩ : ∃ l, ls[k]? = some l := ⟨_, List.getElem?_eq_getElem (by rw [HN.out]; exact hkn)⟩
        obtain ⟨g, rfl, hgl, hcell⟩ := HR3.out k l hlk
        unfold strV at hcell
        have hll := HSL.out.2 l (List.mem_of_getElem? hlk)
        have HIG := Lib.hid (ignored_any l wr hll)
        have HKT := Lib.hid (keep_take hlk)
        obtain ⟨q, hq⟩ : ∃ q, ignoredL l = q := ⟨_, rfl⟩
        rw [hq] at HIG HKT
        obtain ⟨B, hB⟩ : ∃ B, linesL (keepL (ls.take k)) = B := ⟨_, rfl⟩
        have HBL : Hid (B.length ≤ 2001) := Lib.hid (by have := HKL.out k; have := HLT.out; rw [hB] at *; omega)
        rw [hB]
        have HNB : Hid (linesL (keepL (ls.take (k + 1))) = if q = true then B else B ++ l ++ [10]) := Lib.hid (by
          rw [HKT.out, linesL_app, hB]
          cases q
          · simp [linesL]
          · simp [linesL])
        unfold strV at HIG
        clear hlk hq hB
        cases q
        · have hBl : B.length ≤ 2001 := HBL.out
          go_wp2_with fail
          refine HIG.out.mono ?_
          rintro e w5 ⟨rfl, rfl⟩
          go_wp2_with fail
          go_roundw
          case rel => exact ⟨k + 1, by go_num, by omega, by rw [HNB.out, ← add_two], by first | rfl | trivial⟩
          case measure => simp [intOf]; omega
        · go_wp2_with fail
          refine HIG.out.mono ?_
          rintro e w5 ⟨rfl, rfl⟩
          go_wp2_with fail
          go_roundw
          case rel => exact ⟨k + 1, by go_num, by omega, by rw [HNB.out]; rfl, by first | rfl | trivial⟩
          case measure => simp [intOf]; omega
      · obtain rfl : k = n := by omega
        have hall : ls.take k = ls := List.take_of_length_le (by rw [HN.out]; exact Nat.le_refl _)
        rw [hall]
        obtain ⟨PP, hPP⟩ : ∃ P, linesL (keepL ls) = P := ⟨_, rfl⟩
        rw [hPP] at HPR
        rw [hPP]
        clear hall hPP
        go_wp2_with fail
        refine (HPR.out wr _ (HK.out.mono HB3.out) HT3.out).mono ?_
        rintro e w6 ⟨rfl, hb6⟩
        have HB6 := Lib.hid (HB3.out.trans (hb6.mono hs3))
        rw [er1]
        clear hb6
        go_wp2_with fail
        go_ret
        exact ⟨rfl, HB6.out⟩
end Go.Proofs.YtfiabonacpepnaaGreatDoor
