/- isAccounts and Valid of package contract. -/
import Derived.Test.YtfiabonacpepnaaGreatDoorCtE
namespace Go.Proofs.YtfiabonacpepnaaGreatDoor
open Go Go.RowKit Go.Lib Go.Shelf Go.Maps

/-- the set of the accounts seen -/
def SeenAt (w : World) (mb : Nat) (l : List Int) : Prop :=
  ∃ (n : Nat) (D : DataW Unit), n ≤ l.length ∧ w.ownsMap Tryz.prog 3 (plainElem Tryz.prog 4) mb n D ∧
    ∀ a, (-9223372036854775808 ≤ a ∧ a ≤ 9223372036854775807) → D.atKey (.int .i64 a) (.lit (.bool false)) = .lit (.bool (l.contains a))
set_option maxRecDepth 100000 in
theorem plainElem_bool_inv {v : Value} {z : DataW Unit × List MemPlace} {b : Bool} (h : plainElem Tryz.prog 4 v = some z) (hz : z.1 = .lit (.bool b)) : v = .bool b := by
  unfold plainElem at h
  rw [Tryz.underlying4] at h
  split at h
  all_goals first
    | (simp only [Option.some.injEq] at h; subst h; simp at hz; done)
    | (simp only [Option.some.injEq] at h; subst h; simp at hz; rw [hz])
    | (split at h <;> first | (simp only [Option.some.injEq] at h; subst h; simp at hz; done) | cases h)
    | cases h
set_option maxRecDepth 100000 in
theorem seen_look {w : World} {mb : Nat} {l : List Int} (h : SeenAt w mb l) {a : Int} (h1 : -9223372036854775808 ≤ a) (h2 : a ≤ 9223372036854775807) :
    (Instr.lookup 100 (.map (some mb)) (.int .i64 a) false).run Tryz.prog w = .ok (.bool (l.contains a)) w := by
  obtain ⟨n, D, hn, hm, hr⟩ := h
  obtain ⟨v, ps, hrun, hv⟩ := hm.lookup (int_keyed Tryz.underlying3) Tryz.underlying100 (show (zeroValue 4).run Tryz.prog w = .ok (.bool false) w by kernel_rfl) (plainElem_bool Tryz.underlying4 false) (keyOf_int_mk Tryz.underlying3 (wf_i64 h1 h2))
  rw [hrun, plainElem_bool_inv hv (hr a ⟨h1, h2⟩)]
set_option maxRecDepth 100000 in
theorem seen_put {w : World} {mb : Nat} {l : List Int} (h : SeenAt w mb l) (hl : l.length ≤ 1000000) {a : Int} (h1 : -9223372036854775808 ≤ a) (h2 : a ≤ 9223372036854775807) :
    ∃ w', (Instr.mapUpdate 100 (.map (some mb)) (.int .i64 a) (.bool true)).run Tryz.prog w = .ok () w' ∧ SeenAt w' mb (l ++ [a]) ∧ w.grownBy w' (some mb) := by
  obtain ⟨n, D, hn, hm, hr⟩ := h
  obtain ⟨w', hrun, hm', hg⟩ := hm.update (int_keyed Tryz.underlying3) Tryz.underlying100 (by unfold maxLen; omega) (keyOf_int_mk Tryz.underlying3 (wf_i64 h1 h2)) (plainElem_bool Tryz.underlying4 true)
  refine ⟨w', hrun, ⟨n + 1, _, by simp; omega, hm', fun b hb => ?_⟩, hg⟩
  by_cases e : b = a
  · subst e
    rw [atKey_put_same hm.isMap ((int_keyed Tryz.underlying3).key (keyOf_int_mk Tryz.underlying3 (wf_i64 h1 h2)))]
    simp
  · rw [atKey_put_other (by intro h; exact e (by simpa using h)), hr b hb]
    congr 2
    simp [e]

set_option maxHeartbeats 4000000 in
set_option maxRecDepth 100000 in
theorem isAccounts_any (acc : List Int) (va : Value) (w : World) (hl : acc.length ≤ 1000000) (hv : IntsL w va acc) (hab : ∀ a ∈ acc, -9223372036854775808 ≤ a ∧ a ≤ 9223372036854775807) :
    Calls Tryz.prog 30 #[va] w fun e w' => e = .returned (.bool (accOk acc)) ∧ Below w.heap.size w w' := by
  obtain ⟨AC, cc, rfl⟩ := hv.slice
  have HV := Lib.hid hv
  have HAB := Lib.hid hab
  obtain ⟨m, hm⟩ : ∃ m, acc.length = m := ⟨_, rfl⟩
  rw [hm] at hl ⊢
  have HM := Lib.hid hm
  have hmm := @run_makeMap Tryz.prog
  have S0 := Lib.hid (show SeenAt (w.alloc (.map #[] 0)) w.heap.size [] from ⟨0, _, by simp, World.ownsMap_made _ _ _ _, fun a _ => rfl⟩)
  have B0 := Lib.hid (show Below w.heap.size w (w.alloc (.map #[] 0)) from (Below.refl _ _).alloc (Nat.le_refl _) _)
  obtain ⟨mb, hmb⟩ : ∃ z, w.heap.size = z := ⟨_, rfl⟩
  obtain ⟨W, hW⟩ : ∃ z, w.alloc (.map #[] 0) = z := ⟨_, rfl⟩
  rw [hmb, hW] at S0 B0
  have WN := Lib.hid (fun W => withinC_any (m : Int) 1 10 W)
  obtain ⟨wn, hwn⟩ : ∃ z, inR (m : Int) 1 10 = z := ⟨_, rfl⟩
  rw [hwn] at WN
  have HWN := Lib.hid hwn
  rw [hmb]
  have HMB := Lib.hid hmb
  clear hv hab hm hwn
  go_enter Tryz.func30, Tryz.ntmps30
  go_wp2_with fail
  clear hW hmb
  go_loopw [9] (fun iv wr => ∃ k : Nat, k ≤ m ∧ iv = .int .i64 k ∧ Hid (SeenAt wr mb (acc.take k) ∧ (∀ x ∈ acc.take k, inR x 1 1000 = true) ∧ (acc.take k).Nodup ∧ Below mb w wr)) (fun i _ => m - (intOf i).toNat)
  case atStart => exact ⟨0, by omega, rfl, Lib.hid ⟨S0.out, by simp, by simp, B0.out⟩⟩
  case round =>
    obtain ⟨k, hk, rfl, HR⟩ := hrel
    obtain ⟨hs, ha, hd, hb⟩ := HR.out
    by_cases hk2 : k < m
    · obtain ⟨a, hak⟩ : ∃ a, acc[k]? = some a := ⟨_, List.getElem?_eq_getElem (by rw [HM.out]; exact hk2)⟩
      have hts : acc.take (k + 1) = acc.take k ++ [a] := by rw [List.take_add_one, hak]; rfl
      obtain ⟨ab, ao, hA, hca⟩ : ∃ b o, AC = some ⟨b, o, none⟩ ∧ wr.cell? ⟨b, o + k, none⟩ = some (.int .i64 a) := by
        rcases HV.out with ⟨hnil, _⟩ | ⟨b, o, c, he, hlt, hc⟩
        · rw [hnil] at hak; simp at hak
        · simp only [Value.slice.injEq] at he
          exact ⟨b, o, he.1, (hb.cell (p := ⟨b, o + k, none⟩) (by rw [← HMB.out]; exact hlt)).trans (hc k a hak)⟩
      subst hA
      have hba := HAB.out a (List.mem_of_getElem? hak)
      have hsl := seen_look hs hba.1 hba.2
      obtain ⟨w2, hup, hs2, hg2⟩ := seen_put hs (by rw [List.length_take]; omega) hba.1 hba.2
      have W1 := Lib.hid (fun W => withinC_any a 1 1000 W)
      obtain ⟨r, hr⟩ : ∃ z, inR a 1 1000 = z := ⟨_, rfl⟩
      rw [hr] at W1
      obtain ⟨c, hc⟩ : ∃ z, (acc.take k).contains a = z := ⟨_, rfl⟩
      rw [hc] at hsl
      have hmem : a ∈ acc := List.mem_of_getElem? hak
      cases r
      · have hno : accOk acc = false := by
          unfold accOk
          have : acc.all (fun x => inR x 1 1000) = false := by rw [List.all_eq_false]; exact ⟨a, hmem, by simp [hr]⟩
          simp [this]
        have HNO := Lib.hid hno
        have HB := Lib.hid hb
        clear hs ha hd hb hak hts hba hs2 hg2 hr hc hmem hno hup hsl
        go_wp2_with fail
        refine (W1.out _).mono ?_
        rintro e w' ⟨rfl, rfl⟩
        go_wp2_with fail
        go_ret
        exact ⟨by rw [HNO.out]; rfl, HB.out⟩
      · cases c
        · have hb2 : Below mb w w2 := hb.grown hg2 (by have := hb.size; rw [HMB.out] at this; exact this) (fun j e => by cases e; exact Nat.le_refl _)
          have HN := Lib.hid (show SeenAt w2 mb (acc.take (k + 1)) ∧ (∀ x ∈ acc.take (k + 1), inR x 1 1000 = true) ∧ (acc.take (k + 1)).Nodup ∧ Below mb w w2 from by
            rw [hts]
            refine ⟨hs2, fun x hx => ?_, ?_, hb2⟩
            · rcases List.mem_append.1 hx with h | h
              · exact ha x h
              · rw [List.mem_singleton.1 h]; exact hr
            · rw [List.nodup_append]
              refine ⟨hd, by simp, fun x hx y hy => ?_⟩
              rw [List.mem_singleton.1 hy]
              intro e
              subst e
              have : (acc.take k).contains x = true := by simpa using hx
              rw [this] at hc
              cases hc)
          clear hs ha hd hb hak hts hba hs2 hg2 hr hc hmem hb2
          go_wp2_with fail
          refine (W1.out _).mono ?_
          rintro e w' ⟨rfl, rfl⟩
          go_wp2_with fail
          go_roundw
          case rel => exact ⟨k + 1, by omega, by go_num, HN⟩
          case measure => simp [intOf]; omega
        · have hno : accOk acc = false := by
            unfold accOk
            have : ¬ acc.Nodup := by
              intro h
              rw [← List.take_append_drop (k + 1) acc, hts, List.nodup_append, List.nodup_append] at h
              exact h.1.2.2 a (by simpa using hc) a (by simp) rfl
            simp [this]
          have HNO := Lib.hid hno
          have HB := Lib.hid hb
          clear hs ha hd hb hak hts hba hs2 hg2 hr hc hmem hno hup
          go_wp2_with fail
          refine (W1.out _).mono ?_
          rintro e w' ⟨rfl, rfl⟩
          go_wp2_with fail
          go_ret
          exact ⟨by rw [HNO.out]; rfl, HB.out⟩
    · have hkm : k = m := by omega
      have hyes : accOk acc = wn := by
        rw [hkm, ← HM.out, List.take_length] at ha hd
        unfold accOk
        rw [HM.out, HWN.out]
        have : acc.all (fun x => inR x 1 1000) = true := by rw [List.all_eq_true]; exact ha
        simp [this, hd]
      have HY := Lib.hid hyes
      have HB := Lib.hid hb
      clear hs ha hd hb hyes hkm
      go_wp2_with fail
      refine (WN.out _).mono ?_
      rintro e w' ⟨rfl, rfl⟩
      go_wp2_with fail
      go_ret
      exact ⟨by rw [HY.out]; rfl, HB.out⟩
end Go.Proofs.YtfiabonacpepnaaGreatDoor
