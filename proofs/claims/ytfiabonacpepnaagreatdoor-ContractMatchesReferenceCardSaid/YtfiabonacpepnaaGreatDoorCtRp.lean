/- The reference's Print. -/
import Derived.Test.YtfiabonacpepnaaGreatDoorCtRe
import Derived.Test.YtfiabonacpepnaaGreatDoorTmK
namespace Go.Proofs.YtfiabonacpepnaaGreatDoor
open Go Go.RowKit Go.Lib Go.Shelf Go.Maps

theorem add_one_nl (B l : List UInt8) : (⟨B.toArray⟩ : ByteArray) ++ ⟨l.toArray⟩ ++ ⟨#[10]⟩ = ⟨(B ++ l ++ [10]).toArray⟩ := add_two B l
set_option maxRecDepth 100000 in
set_option maxHeartbeats 4000000 in
theorem rprint_any (l : List TermV) (v : Value) (w : World) (hv : TermsAt w v l) (hl : l.length ≤ 1000000) (hok : ∀ t ∈ l, t.acc.length ≤ 1000000 ∧ ∀ a ∈ t.acc, -9223372036854775808 ≤ a ∧ a ≤ 9223372036854775807) :
    Calls Tryz.prog 17 #[v] w fun e w' => e = .returned (.tuple #[strV (printV l), .int .i64 (errI (goodL l))]) ∧ Below w.heap.size w w' := by
  obtain ⟨A, c, rfl⟩ := hv.slice
  have er1 : errI true = 0 := rfl
  have er2 : errI false = 140 := rfl
  obtain ⟨n, hn⟩ : ∃ n, l.length = n := ⟨_, rfl⟩
  have HN := Lib.hid hn
  rw [hn] at hl hv ⊢
  have HV := Lib.hid hv
  have HOK := Lib.hid hok
  have HBAD : Hid (20 < n ∨ (∃ t ∈ l, validT t = false) → goodL l = false) := Lib.hid (fun h => by
    cases hg : goodL l with
    | false => rfl
    | true =>
      obtain ⟨h1, h2⟩ := (good_iff l).1 hg
      rcases h with h | ⟨t, ht, hf⟩
      · omega
      · rw [h2 t ht] at hf; cases hf)
  obtain ⟨PV, hPV⟩ : ∃ p, printV l = p := ⟨_, rfl⟩
  have HP1 : Hid (goodL l = true → PV = textT l) := Lib.hid (fun h => by rw [← hPV]; unfold printV; rw [if_pos h])
  have HP0 : Hid (goodL l = false → PV = []) := Lib.hid (fun h => by rw [← hPV]; unfold printV; rw [h]; rfl)
  rw [hPV]
  clear hn hv hok hPV
  unfold strV
  by_cases h20 : 20 < n
  · have hg := HBAD.out (.inl h20)
    have hp := HP0.out hg
    subst hp
    rw [hg, er2]
    have d0 : decide (20 < n) = true := by simp; omega
    have d1 : decide ((20 : Int) < (n : Int)) = true := by simp; omega
    clear hg
    go_enter Tryz.func17, Tryz.ntmps17
    go_wp2_with fail
    go_ret2
    exact ⟨rfl, Below.refl _ _⟩
  · have d0 : decide (20 < n) = false := by simp; omega
    have d1 : decide ((20 : Int) < (n : Int)) = false := by simp; omega
    have hn20 : n ≤ 20 := by omega
    clear h20
    obtain ⟨g, hg⟩ : ∃ g, goodL l = g := ⟨_, rfl⟩
    rw [hg] at HBAD HP1 HP0 ⊢
    have HG := Lib.hid hg
    clear hg
    go_enter Tryz.func17, Tryz.ntmps17
    go_wp2_with fail
    go_loopw [4, 5] (fun ov iv wr => ∃ k : Nat, iv = .int .i64 k ∧ k ≤ n ∧ ov = .string ⟨(textT (l.take k)).toArray⟩ ∧ Hid ((∀ t ∈ l.take k, validT t = true) ∧ Below w.heap.size w wr)) (fun _ iv _ => n - (intOf iv).toNat)
    case atStart => exact ⟨0, rfl, Nat.zero_le _, rfl, Lib.hid ⟨by simp, Below.refl _ _⟩⟩
    case round =>
      obtain ⟨k, rfl, hk, rfl, HR⟩ := hrel
      have HB := Lib.hid HR.out.2
      have hsr : w.heap.size ≤ wr.heap.size := HR.out.2.size
      by_cases hkn : k < n
      · obtain ⟨t, htk⟩ : ∃ t, l[k]? = some t := ⟨_, List.getElem?_eq_getElem (by rw [HN.out]; exact hkn)⟩
        obtain ⟨b, o, va, rfl, hlt, hi, hcells⟩ := (HV.out.below HB.out).get htk
        have hokt := HOK.out t (List.mem_of_getElem? htk)
        have HVR := Lib.hid (validR_any t va wr hokt.1 hi hokt.2)
        have HLD := Lib.hid hcells
        have HTT := Lib.hid (text_take htk)
        have HTK := Lib.hid (show l.take (k + 1) = l.take k ++ [t] by rw [List.take_add_one, htk]; rfl)
        have HMEM := Lib.hid (List.mem_of_getElem? htk)
        have HII := Lib.hid hi
        have htl : (textT (l.take k)).length ≤ 1220 := by
          have h1 := text_len HR.out.1
          have h2 : (l.take k).length ≤ k := List.length_take_le _ _
          omega
        obtain ⟨B, hB⟩ : ∃ B, textT (l.take k) = B := ⟨_, rfl⟩
        rw [hB] at HTT htl ⊢
        obtain ⟨q, hq⟩ : ∃ q, validT t = q := ⟨_, rfl⟩
        rw [hq] at HVR
        have HQ := Lib.hid hq
        clear hq hB htk hcells hi
        cases q
        · have hgg := HBAD.out (.inr ⟨t, HMEM.out, HQ.out⟩)
          have hp := HP0.out hgg
          subst hp
          subst hgg
          clear HR
          go_wp2_with ((with_reducible refine load_term (o := ⟨some 19, _, _, _, _, _⟩) (.tmp 18) b (o + k * 5) t va HLD.out ?_ ?_ ?_ ?_); rfl; rfl; rfl)
          refine HVR.out.mono ?_
          rintro e w5 ⟨rfl, hb5⟩
          have HB5 := Lib.hid (HB.out.trans (hb5.mono hsr))
          clear hb5
          go_wp2_with fail
          go_ret2
          exact ⟨rfl, HB5.out⟩
        · have hll := line_len HQ.out
          obtain ⟨LT, hLT⟩ : ∃ z, lineT t = z := ⟨_, rfl⟩
          have HLT := Lib.hid hLT
          rw [hLT] at hll HTT
          have HVAL := Lib.hid HR.out.1
          clear hLT HR
          go_wp2_with ((with_reducible refine load_term (o := ⟨some 19, _, _, _, _, _⟩) (.tmp 18) b (o + k * 5) t va HLD.out ?_ ?_ ?_ ?_); rfl; rfl; rfl)
          refine HVR.out.mono ?_
          rintro e w5 ⟨rfl, hb5⟩
          have HB5 := Lib.hid (HB.out.trans (hb5.mono hsr))
          have hs5 : w.heap.size ≤ w5.heap.size := HB5.out.size
          have HLD5 : Hid (∀ (j : Nat) x, (termC t va)[j]? = some x → w5.cell? ⟨b, o + k * 5 + j, none⟩ = some x) := Lib.hid (fun j x h => (hb5.cell (p := ⟨b, o + k * 5 + j, none⟩) hlt).trans (HLD.out j x h))
          have HLI := Lib.hid (rline_any t va w5 (HII.out.below hb5) HQ.out)
          rw [HLT.out] at HLI
          unfold strV at HLI
          clear hb5 HLD HVR
          go_wp2_with ((with_reducible refine load_term (o := ⟨some 27, _, _, _, _, _⟩) (.tmp 26) b (o + k * 5) t va HLD5.out ?_ ?_ ?_ ?_); rfl; rfl; rfl)
          refine HLI.out.mono ?_
          rintro e w6 ⟨rfl, hb6⟩
          have HB6 := Lib.hid (HB5.out.trans (hb6.mono hs5))
          clear hb6
          go_wp2_with fail
          go_roundw
          case rel => exact ⟨k + 1, by go_num, by omega, by rw [HTT.out, ← add_one_nl], Lib.hid ⟨by
            rw [HTK.out]
            intro u hu
            rcases List.mem_append.1 hu with h | h
            · exact HVAL.out u h
            · rw [List.mem_singleton.1 h]; exact HQ.out, HB6.out⟩⟩
          case measure => simp [intOf]; omega
      · obtain rfl : k = n := by omega
        have hall : l.take k = l := List.take_of_length_le (by rw [HN.out]; exact Nat.le_refl _)
        have hgg : g = true := by rw [← HG.out]; exact (good_iff l).2 ⟨by rw [HN.out]; exact hn20, by rw [← hall]; exact HR.out.1⟩
        have hp := HP1.out hgg
        subst hp
        subst hgg
        rw [hall]
        clear HR
        go_wp2_with fail
        go_ret2
        exact ⟨rfl, HB.out⟩
end Go.Proofs.YtfiabonacpepnaaGreatDoor
