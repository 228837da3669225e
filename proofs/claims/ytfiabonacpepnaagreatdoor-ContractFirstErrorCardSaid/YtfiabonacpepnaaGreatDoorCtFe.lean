/- ContractFirstError: the walk. -/
import Derived.Test.YtfiabonacpepnaaGreatDoorCtPa
namespace Go.Proofs.YtfiabonacpepnaaGreatDoor
open Go Go.RowKit Go.Lib Go.Shelf Go.Maps

theorem linesL_take {ls : List (List UInt8)} {k : Nat} {l : List UInt8} (h : ls[k]? = some l) : linesL (ls.take (k + 1)) = linesL (ls.take k) ++ l ++ [10] := by
  rw [List.take_add_one, h, linesL_app]
  simp [linesL]
theorem linesL_take_len (ls : List (List UInt8)) (k : Nat) : (linesL (ls.take k)).length ≤ (linesL ls).length := by
  have h := congrArg List.length (linesL_app (ls.take k) (ls.drop k))
  rw [List.take_append_drop, List.length_append] at h
  omega
theorem add_two' (B l : List UInt8) : (⟨B.toArray⟩ : ByteArray) ++ ⟨l.toArray⟩ ++ ⟨#[10]⟩ = ⟨(B ++ l ++ [10]).toArray⟩ := add_two B l
set_option maxRecDepth 100000 in
set_option maxHeartbeats 8000000 in
theorem firstError_yes (sb : ByteArray) (w : World) (hK : KAt w) :
    Calls Tryz.prog 8 #[.string sb] w fun e w' => e = .returned (.bool true) ∧ Below w.heap.size w w' := by
  have er1 : errI true = 0 := rfl
  have er2 : errI false = 140 := rfl
  obtain ⟨S, hS, HRS⟩ := cut_min sb 2000 2000 rfl
  have h9 : 9 ≤ w.heap.size := hK.lt
  have HK := Lib.hid hK
  have HP := Lib.hid (fun W (h : KAt W) => parse_any S W h (by omega))
  have HFE := Lib.hid (fun h => first_error (s := S) hS h)
  have HOK := Lib.hid (fun h => (parsed_again (s := S) hS h).2.2)
  have HLT := Lib.hid (lines_total S)
  have HLA := Lib.hid (fun W => lines_any S W (by omega))
  unfold strV at HP HLA
  obtain ⟨PV, hPV⟩ : ∃ z, parseV S = z := ⟨_, rfl⟩
  rw [hPV] at HP HFE HOK
  obtain ⟨ts, at_, ok⟩ := PV
  dsimp only at HP HFE HOK
  clear hPV hK
  go_enter Tryz.func8, Tryz.ntmps8
  go_wp2_with fail
  refine (sane_any w HK.out).mono ?_
  rintro e w1 ⟨rfl, hb1⟩
  have HB1 := Lib.hid hb1
  have HK1 := Lib.hid (HK.out.mono hb1)
  have hs1 := hb1.size
  clear hb1
  go_upto_region 3 with fail
  rw [HRS.out]
  clear HRS
  go_wp2_with fail
  refine (HP.out w1 HK1.out).mono ?_
  rintro e w2 ⟨v2, L2, rfl, hL2, ho2, hb2⟩
  dsimp only at hL2 ⊢
  obtain ⟨A2, n2, c2, rfl⟩ := ho2.slice3
  have HB2 := Lib.hid (HB1.out.trans (hb2.mono hs1))
  have HK2 := Lib.hid (HK.out.mono HB2.out)
  have hs2 : w.heap.size ≤ w2.heap.size := HB2.out.size
  clear hb2 ho2 hL2
  cases ok
  · obtain ⟨j, l, he, hlj, hp1, hp2⟩ := HFE.out rfl
    simp only [Prod.mk.injEq, and_true] at he
    obtain ⟨rfl, rfl⟩ := he
    rw [er2]
    obtain ⟨ls, hls⟩ : ∃ z, splitL 10 S = z := ⟨_, rfl⟩
    rw [hls] at HLT HLA hlj hp1 hp2
    have HTL := Lib.hid (linesL_take_len ls)
    obtain ⟨n, hn⟩ : ∃ z, ls.length = z := ⟨_, rfl⟩
    have HN := Lib.hid hn
    have hjn : j < n := by rw [← hn]; exact (List.getElem?_eq_some_iff.1 hlj).1
    have HSL : Hid (n ≤ 1000000 ∧ ∀ l ∈ ls, l.length ≤ 1000000) := Lib.hid (by
      have h := split_len 10 S
      rw [hls, hn] at h
      refine ⟨by omega, fun l hl => ?_⟩
      have := h.2 l hl
      omega)
    have HQ1 := Lib.hid (fun W (h : KAt W) => parse_any (linesL (ls.take j)) W h (by have := HTL.out j; have := HLT.out; omega))
    have hlen2 : (linesL (ls.take j) ++ l).length ≤ 9223372036854775807 := by
      have h1 := HTL.out j
      have h2 := HLT.out
      have h3 := HSL.out.2 l (List.mem_of_getElem? hlj)
      rw [List.length_append]; omega
    have HQ2 := Lib.hid (fun W (h : KAt W) => parse_any (linesL (ls.take j) ++ l) W h hlen2)
    rw [hp2] at HQ2
    obtain ⟨P1, hP1⟩ : ∃ z, parseV (linesL (ls.take j)) = z := ⟨_, rfl⟩
    rw [hP1] at HQ1 hp1
    obtain ⟨t1, l1, o1⟩ := P1
    dsimp only at hp1 HQ1 HQ2
    subst hp1
    obtain ⟨BJ, hBJ⟩ : ∃ z, linesL (ls.take j) = z := ⟨_, rfl⟩
    have HBJ := Lib.hid hBJ
    rw [hBJ] at HQ1 HQ2
    have hbj : BJ.length ≤ 2001 := by have := HTL.out j; have := HLT.out; rw [hBJ] at *; omega
    have hll := HSL.out.2 l (List.mem_of_getElem? hlj)
    have HLJ := Lib.hid hlj
    unfold strV at HQ1 HQ2
    rw [← ba_app] at HQ2
    have hn6 := HSL.out.1
    have dj1 : decide (((j + 1 : Nat) : Int) < 1) = false := by simp; omega
    have dj2 : decide ((n : Int) < ((j + 1 : Nat) : Int)) = false := by simp; omega
    have dj3 : decide (n < j + 1) = false := by simp; omega
    have dj4 : decide ((n : Int) < (j : Int) + 1) = false := by simp; omega
    clear hls hn hlen2 hP1 hBJ hlj hp2
    go_wp2_with fail
    refine (HLA.out w2).mono ?_
    rintro e w3 ⟨v3, rfl, ho3, hb3⟩
    obtain ⟨A3, c3, rfl, hr3⟩ := ho3.read
    rw [HN.out]
    have HR3 := Lib.hid hr3
    have HB3 := Lib.hid (HB2.out.trans (hb3.mono hs2))
    have HK3 := Lib.hid (HK.out.mono HB3.out)
    have hs3 : w.heap.size ≤ w3.heap.size := HB3.out.size
    clear hb3 hr3 ho3
    go_wp2_with fail
    go_loopw [8, 9] (fun ov iv wr => ∃ k : Nat, iv = .int .i64 k ∧ k ≤ j ∧ ov = .string ⟨(linesL (ls.take k)).toArray⟩ ∧ wr = w3) (fun _ iv _ => n - (intOf iv).toNat)
    case atStart => exact ⟨0, rfl, Nat.zero_le _, by simp [linesL], rfl⟩
    case round =>
      obtain ⟨k, rfl, hk, rfl, rfl⟩ := hrel
      by_cases hkj : k < j
      · obtain ⟨x, hxk⟩ : ∃ x, ls[k]? = some x := ⟨_, List.getElem?_eq_getElem (by rw [HN.out]; omega)⟩
        obtain ⟨g, rfl, hgl, hcell⟩ := HR3.out k x hxk
        unfold strV at hcell
        have hxl := HSL.out.2 x (List.mem_of_getElem? hxk)
        have HNB := Lib.hid (linesL_take hxk)
        have hBl : (linesL (ls.take k)).length ≤ 2001 := by have := HTL.out k; have := HLT.out; omega
        obtain ⟨B, hB⟩ : ∃ B, linesL (ls.take k) = B := ⟨_, rfl⟩
        rw [hB] at HNB hBl ⊢
        have hkn : k < n := by omega
        clear hxk hB
        go_wp2_with fail
        go_roundw
        case rel => exact ⟨k + 1, by go_num, by omega, by rw [HNB.out, ← add_two'], by first | rfl | trivial⟩
        case measure => simp [intOf]; omega
      · obtain rfl : k = j := by omega
        obtain ⟨g, rfl, hgl, hcell⟩ := HR3.out k l HLJ.out
        unfold strV at hcell
        rw [HBJ.out]
        go_wp2_with fail
        refine (HQ1.out wr HK3.out).mono ?_
        rintro e w5 ⟨v5, L5, rfl, hL5, ho5, hb5⟩
        dsimp only
        obtain ⟨A5, n5, c5, rfl⟩ := ho5.slice3
        have hcell5 := (hb5.cell (p := ⟨g, k, none⟩) hgl).trans hcell
        have HB5 := Lib.hid (HB3.out.trans (hb5.mono hs3))
        have HK5 := Lib.hid (HK.out.mono HB5.out)
        have hs5 : w.heap.size ≤ w5.heap.size := HB5.out.size
        rw [er1]
        clear hb5 ho5 hL5 hcell
        go_wp2_with fail
        refine (HQ2.out w5 HK5.out).mono ?_
        rintro e w6 ⟨v6, L6, rfl, hL6, ho6, hb6⟩
        dsimp only
        obtain ⟨A6, n6, c6, rfl⟩ := ho6.slice3
        have HB6 := Lib.hid (HB5.out.trans (hb6.mono hs5))
        rw [er2]
        clear hb6 ho6 hL6
        go_wp2_with fail
        go_ret
        exact ⟨rfl, HB6.out⟩
  · have h0 := HOK.out rfl
    subst h0
    rw [er1]
    go_wp2_with fail
    go_ret
    exact ⟨rfl, HB2.out⟩
end Go.Proofs.YtfiabonacpepnaaGreatDoor
