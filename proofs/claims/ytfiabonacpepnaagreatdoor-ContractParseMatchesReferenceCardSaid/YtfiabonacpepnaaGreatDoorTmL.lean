/- accounts of the reference. -/
import Derived.Test.YtfiabonacpepnaaGreatDoorCtE
import Derived.BigQuiet
namespace Go.Proofs.YtfiabonacpepnaaGreatDoor
open Go Go.RowKit Go.Lib Go.Shelf Go.Maps

set_option maxHeartbeats 4000000 in
theorem accountsR_any (acc : List Int) (va : Value) (w : World) (hl : acc.length ≤ 1000000) (hv : IntsL w va acc) (_hab : ∀ a ∈ acc, -9223372036854775808 ≤ a ∧ a ≤ 9223372036854775807) :
    Calls Tryz.prog 32 #[va] w fun e w' => e = .returned (.bool (accOk acc)) ∧ Below w.heap.size w w' := by
  obtain ⟨AC, cc, rfl⟩ := hv.slice
  have HV := Lib.hid hv
  obtain ⟨m, hm⟩ : ∃ m, acc.length = m := ⟨_, rfl⟩
  rw [hm] at hl ⊢
  have HM := Lib.hid hm
  clear hv _hab hm
  by_cases h1 : 1 ≤ m
  · by_cases h2 : m ≤ 10
    · have d1 : decide ((m : Int) < 1) = false := by simp; omega
      have d2 : decide (10 < (m : Int)) = false := by simp; omega
      have HIN := Lib.hid (show inR (m : Int) 1 10 = true from inR_iff.2 (by omega))
      go_enter Tryz.func32, Tryz.ntmps32
      go_wp2_with fail
      go_loopw [3] (fun iv wr => ∃ k : Nat, k ≤ m ∧ iv = .int .i64 k ∧ Hid ((∀ x ∈ acc.take k, inR x 1 1000 = true) ∧ (acc.take k).Nodup ∧ Below w.heap.size w wr)) (fun i _ => m - (intOf i).toNat)
      case atStart => exact ⟨0, by omega, rfl, Lib.hid ⟨by simp, by simp, Below.refl _ _⟩⟩
      case round =>
        obtain ⟨k, hk, rfl, HR⟩ := hrel
        obtain ⟨ha, hd, hb⟩ := HR.out
        clear HR
        have HB := Lib.hid hb
        clear hb
        by_cases hk2 : k < m
        · obtain ⟨a, hak⟩ : ∃ a, acc[k]? = some a := ⟨_, List.getElem?_eq_getElem (by rw [HM.out]; exact hk2)⟩
          have hts : acc.take (k + 1) = acc.take k ++ [a] := by rw [List.take_add_one, hak]; rfl
          obtain ⟨ab, ao, hA, hca⟩ : ∃ b o, AC = some ⟨b, o, none⟩ ∧ ∀ W', Below w.heap.size w W' → ∀ (i : Nat) x, acc[i]? = some x → W'.cell? ⟨b, o + i, none⟩ = some (.int .i64 x) := by
            rcases HV.out with ⟨hnil, _⟩ | ⟨b, o, c, he, hlt, hc⟩
            · rw [hnil] at hak; simp at hak
            · simp only [Value.slice.injEq] at he
              exact ⟨b, o, he.1, fun W' h i x hx => (h.cell (p := ⟨b, o + i, none⟩) hlt).trans (hc i x hx)⟩
          subst hA
          have cak := hca wr HB.out k a hak
          have HCA := Lib.hid hca
          have W1 := Lib.hid (fun W => withinR_any a 1 1000 W)
          obtain ⟨r, hr⟩ : ∃ z, inR a 1 1000 = z := ⟨_, rfl⟩
          rw [hr] at W1
          have hmem : a ∈ acc := List.mem_of_getElem? hak
          have HAK := Lib.hid hak
          cases r
          · have hno : accOk acc = false := by
              unfold accOk
              have : acc.all (fun x => inR x 1 1000) = false := by rw [List.all_eq_false]; exact ⟨a, hmem, by simp [hr]⟩
              simp [this]
            have HNO := Lib.hid hno
            clear ha hd hak hts hr hmem hno hca
            go_wp2_with fail
            refine (W1.out _).mono ?_
            rintro e w' ⟨rfl, rfl⟩
            go_wp2_with fail
            go_ret
            exact ⟨by rw [HNO.out]; rfl, HB.out⟩
          · have HTS := Lib.hid hts
            have HA := Lib.hid ha
            have HD := Lib.hid hd
            have HRR := Lib.hid hr
            clear ha hd hak hts hr hmem hca
            go_wp2_with fail
            refine (W1.out _).mono ?_
            rintro e w' ⟨rfl, rfl⟩
            go_wp2_with fail
            go_loopw [5] (fun jv wr => ∃ j : Nat, j ≤ k ∧ jv = .int .i64 j ∧ Hid (a ∉ acc.take j ∧ Below w.heap.size w wr)) (fun i _ => k - (intOf i).toNat)
            case atStart => exact ⟨0, by omega, rfl, Lib.hid ⟨by simp, HB.out⟩⟩
            case round =>
              obtain ⟨j, hj, rfl, HJ⟩ := hrel
              obtain ⟨hna, hb2⟩ := HJ.out
              clear HJ
              have HB2 := Lib.hid hb2
              clear hb2
              by_cases hj2 : j < k
              · obtain ⟨z, hz⟩ : ∃ z, acc[j]? = some z := ⟨_, List.getElem?_eq_getElem (by rw [HM.out]; omega)⟩
                have cz := HCA.out wr HB2.out j z hz
                have cak2 := HCA.out wr HB2.out k a HAK.out
                have hjm : j < m := by omega
                have htj : acc.take (j + 1) = acc.take j ++ [z] := by rw [List.take_add_one, hz]; rfl
                by_cases hza : z = a
                · have q : (z == a) = true := by simpa using hza
                  have hno : accOk acc = false := by
                    unfold accOk
                    have : ¬ acc.Nodup := by
                      intro h
                      rw [← List.take_append_drop (k + 1) acc, HTS.out, List.nodup_append, List.nodup_append] at h
                      refine h.1.2.2 z ?_ a (by simp) hza
                      rw [List.mem_iff_getElem?]
                      exact ⟨j, by rw [List.getElem?_take, if_pos hj2]; exact hz⟩
                    simp [this]
                  have HNO := Lib.hid hno
                  clear hna hz htj hza hno
                  go_wp2_with fail
                  go_quiet (fail)
                  go_wp2_with fail
                  go_ret
                  exact ⟨by rw [HNO.out]; rfl, HB2.out.trans ⟨rfl, rfl, rfl, Nat.le_refl _, fun _ _ => rfl⟩⟩
                · have q : (z == a) = false := by simpa using hza
                  have HN := Lib.hid (show a ∉ acc.take (j + 1) from by
                    rw [htj, List.mem_append]
                    rintro (h | h)
                    · exact hna h
                    · exact hza (List.mem_singleton.1 h).symm)
                  clear hna hz htj hza
                  go_wp2_with fail
                  go_quiet (fail)
                  go_wp2_with fail
                  go_roundw
                  case rel => exact ⟨j + 1, by omega, by go_num, Lib.hid ⟨HN.out, HB2.out.trans ⟨rfl, rfl, rfl, Nat.le_refl _, fun _ _ => rfl⟩⟩⟩
                  case measure => simp [intOf]; omega
              · have hjk : j = k := by omega
                have HN := Lib.hid (show (∀ x ∈ acc.take (k + 1), inR x 1 1000 = true) ∧ (acc.take (k + 1)).Nodup from by
                  rw [hjk] at hna
                  rw [HTS.out]
                  refine ⟨fun x hx => ?_, ?_⟩
                  · rcases List.mem_append.1 hx with h | h
                    · exact HA.out x h
                    · rw [List.mem_singleton.1 h]; exact HRR.out
                  · rw [List.nodup_append]
                    refine ⟨HD.out, by simp, fun x hx y hy => ?_⟩
                    rw [List.mem_singleton.1 hy]
                    intro e
                    subst e
                    exact hna hx)
                clear hna hjk
                go_wp2_with fail
                go_roundw
                case rel => exact ⟨k + 1, by omega, by go_num, Lib.hid ⟨HN.out.1, HN.out.2, HB2.out⟩⟩
                case measure => simp [intOf]; omega
        · have hkm : k = m := by omega
          have hyes : accOk acc = true := by
            rw [hkm, ← HM.out, List.take_length] at ha hd
            unfold accOk
            rw [HM.out, HIN.out]
            have : acc.all (fun x => inR x 1 1000) = true := by rw [List.all_eq_true]; exact ha
            simp [this, hd]
          have HY := Lib.hid hyes
          clear ha hd hyes hkm
          go_wp2_with fail
          go_ret
          exact ⟨by rw [HY.out]; rfl, HB.out⟩
    · have d1 : decide ((m : Int) < 1) = false := by simp; omega
      have d2 : decide (10 < (m : Int)) = true := by simp; omega
      have HNO := Lib.hid (show accOk acc = false from by
        unfold accOk
        rw [HM.out, show inR (m : Int) 1 10 = false by unfold inR; simp; omega]
        simp)
      go_enter Tryz.func32, Tryz.ntmps32
      go_wp2_with fail
      go_ret
      exact ⟨by rw [HNO.out]; rfl, Below.refl _ _⟩
  · have d1 : decide ((m : Int) < 1) = true := by simp; omega
    have HNO := Lib.hid (show accOk acc = false from by
      unfold accOk
      rw [HM.out, show inR (m : Int) 1 10 = false by unfold inR; simp; omega]
      simp)
    go_enter Tryz.func32, Tryz.ntmps32
    go_wp2_with fail
    go_ret
    exact ⟨by rw [HNO.out]; rfl, Below.refl _ _⟩
end Go.Proofs.YtfiabonacpepnaaGreatDoor
