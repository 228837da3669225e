/- ContractRoundTrip: the walk. -/
import Derived.Test.YtfiabonacpepnaaGreatDoorCtY
namespace Go.Proofs.YtfiabonacpepnaaGreatDoor
open Go Go.RowKit Go.Lib Go.Shelf Go.Maps

/-- the numbers of a term are of 64 bits -/
def Ok64 (t : TermV) : Prop := ∀ a ∈ t.acc, -9223372036854775808 ≤ a ∧ a ≤ 9223372036854775807
theorem few_len (l : List TermV) : (fewT l).length ≤ 25 := by unfold fewT; rw [List.length_map, List.length_take]; omega
theorem few_acc {l : List TermV} (h : ∀ t ∈ l, Ok64 t) : ∀ t ∈ fewT l, t.acc.length ≤ 1000000 ∧ ∀ a ∈ t.acc, -9223372036854775808 ≤ a ∧ a ≤ 9223372036854775807 := by
  intro t ht
  unfold fewT at ht
  obtain ⟨u, hu, rfl⟩ := List.mem_map.1 ht
  have hu' := h u (List.mem_of_mem_take hu)
  unfold cutT
  dsimp only
  exact ⟨by rw [List.length_take]; omega, fun a ha => hu' a (List.mem_of_mem_take ha)⟩
theorem all_take {l : List TermV} {k : Nat} {t : TermV} (h : l[k]? = some t) : (l.take (k + 1)).all validT = ((l.take k).all validT && validT t) := by
  rw [List.take_add_one, h]
  simp
/-- a guarded load that is wanted -/
theorem load_termg {ops : Array Oper} {rest : List Oper} {o : Oper} {a : Act} {w : World} {Q : Exit → Act → World → Prop} (x : Operand) (b off : Nat) (t : TermV) (va : Value) (hc : ∀ j v, (termC t va)[j]? = some v → w.cell? ⟨b, off + j, none⟩ = some v)
    (hw : Region.wanted o (yielded ops a.tmps) = true) (ho : o.op = .load 28 x) (hx : a.eval x = .pointer (some ⟨b, off, none⟩)) (h : wpList Tryz.prog ops Q rest (a.put o.dst (.agg (termC t va))) w) : wpList Tryz.prog ops Q (o :: rest) a w := by
  refine wpList_step fun K hK => ?_
  rw [if_pos hw]
  exact wp_load_at _ x ho b off hx (termC t va) _ hc Tryz.underlying28 rfl term_size (hK _ _ h)
theorem TermsIn.below {w w' : World} {v : Value} {l : List TermV} (h : TermsIn w v l) (hb : Below w.heap.size w w') : TermsIn w' v l := by
  rcases h with h0 | ⟨b, o, c, hv, hlt, hc⟩
  · exact .inl h0
  · refine .inr ⟨b, o, c, hv, Nat.lt_of_lt_of_le hlt hb.size, fun i t ht => ?_⟩
    obtain ⟨A, ca, h1, h2, h3⟩ := hc i t ht
    exact ⟨A, ca, h1.below hb, h2, fun j x hx => (hb.cell (p := ⟨b, o + i * 5 + j, none⟩) hlt).trans (h3 j x hx)⟩
set_option maxRecDepth 100000 in
set_option maxHeartbeats 8000000 in
theorem roundTrip_yes (A : Option Addr) (n c : Nat) (l : List TermV) (w : World) (hK : KAt w) (ht : TermsIn w (.slice A n c) l) (hn : l.length = n) (hl : n ≤ 140737488351232) (hok : ∀ t ∈ l, t.acc.length ≤ 9223372036854775807) (h64 : ∀ t ∈ l, Ok64 t) :
    Calls Tryz.prog 5 #[.slice A n c] w fun e w' => e = .returned (.bool true) ∧ Below w.heap.size w w' := by
  have er1 : errI true = 0 := rfl
  have er2 : errI false = 140 := rfl
  have HF := Lib.hid (fun W (hb : Below w.heap.size w W) (h : TermsIn W (.slice A n c) l) => few_any A n c l W h hn hl hok)
  have HT := Lib.hid ht
  have HK := Lib.hid hK
  obtain ⟨F, hF⟩ : ∃ F, fewT l = F := ⟨_, rfl⟩
  have hacc := few_acc h64
  have hlen := few_len l
  rw [hF] at hacc hlen HF
  have HACC := Lib.hid hacc
  obtain ⟨m, hm⟩ : ∃ m, F.length = m := ⟨_, rfl⟩
  have HM := Lib.hid hm
  rw [hm] at hlen
  have HRT := Lib.hid (fun (h : goodL F = true) => round_trip h)
  obtain ⟨G, hG⟩ : ∃ G, goodL F = G := ⟨_, rfl⟩
  obtain ⟨PF, hPF⟩ : ∃ P, printV F = P := ⟨_, rfl⟩
  have HPR := Lib.hid (fun W v (h : KAt W) (h2 : TermsAt W v F) => print_any F v W h h2 (by rw [hm]; omega) hacc)
  rw [hG, hPF] at HPR
  rw [hG, hPF] at HRT
  have HG := Lib.hid hG
  have HGV : Hid (G = (decide (m ≤ 20) && F.all validT)) := Lib.hid (by rw [← hG, ← hm]; rfl)
  have HPL : Hid (PF.length ≤ 9223372036854775807) := Lib.hid (by
    rw [← hPF]
    unfold printV
    split
    · rename_i hg
      have := text_len ((good_iff F).1 hg).2
      have := ((good_iff F).1 hg).1
      omega
    · simp)
  have HPE : Hid (G = false → PF = []) := Lib.hid (fun h => by rw [← hPF]; unfold printV; rw [hG, h]; rfl)
  have h9 : 9 ≤ w.heap.size := hK.lt
  clear hF hG hPF hm hacc ht hK hn hl hok h64
  go_enter Tryz.func5, Tryz.ntmps5
  go_wp2_with fail
  refine (sane_any w HK.out).mono ?_
  rintro e w1 ⟨rfl, hb1⟩
  have HB1 := Lib.hid hb1
  have hs1 := hb1.size
  clear hb1
  go_wp2_with fail
  refine (HF.out w1 HB1.out (HT.out.below HB1.out)).mono ?_
  rintro e w2 ⟨v2, L2, rfl, hL2, ho2, hb2⟩
  have ht2 := ho2.terms
  rw [hL2] at ht2
  obtain ⟨A2, c2, rfl⟩ := ht2.slice
  rw [HM.out] at ht2 ⊢
  have HT2 := Lib.hid ht2
  have HB2 := Lib.hid (HB1.out.trans (hb2.mono hs1))
  have HK2 := Lib.hid (HK.out.mono HB2.out)
  have hs2 : w.heap.size ≤ w2.heap.size := HB2.out.size
  clear hb2 ho2 hL2 ht2
  go_wp2_with fail
  refine (HPR.out w2 _ HK2.out HT2.out).mono ?_
  rintro e w3 ⟨rfl, hb3⟩
  have HT3 := Lib.hid (HT2.out.below hb3)
  have HB3 := Lib.hid (HB2.out.trans (hb3.mono hs2))
  have HK3 := Lib.hid (HK.out.mono HB3.out)
  have hs3 : w.heap.size ≤ w3.heap.size := HB3.out.size
  clear hb3
  unfold strV
  obtain ⟨d20, hd20⟩ : ∃ q, decide (m ≤ 20) = q := ⟨_, rfl⟩
  have hd20i : decide ((m : Int) ≤ 20) = d20 := by rw [← hd20]; exact decide_eq_decide.2 (by omega)
  have HD20 := Lib.hid hd20
  go_wp2_with fail
  clear hd20 hd20i
  go_loopw [6, 7] (fun gv iv wr => ∃ k : Nat, iv = .int .i64 k ∧ k ≤ m ∧ gv = .bool (d20 && (F.take k).all validT) ∧ Hid (Below w.heap.size w wr ∧ TermsAt wr (.slice A2 m c2) F)) (fun _ iv _ => m - (intOf iv).toNat)
  case atStart => exact ⟨0, rfl, Nat.zero_le _, by simp, Lib.hid ⟨HB3.out, HT3.out⟩⟩
  case round =>
    obtain ⟨k, rfl, hk, rfl, HR⟩ := hrel
    have HBr := Lib.hid HR.out.1
    have HTr := Lib.hid HR.out.2
    have hsr : w.heap.size ≤ wr.heap.size := HR.out.1.size
    clear HR
    by_cases hkm : k < m
    · obtain ⟨t, htk⟩ : ∃ t, F[k]? = some t := ⟨_, List.getElem?_eq_getElem (by rw [HM.out]; exact hkm)⟩
      obtain ⟨b, o, va, rfl, hlt, hi, hcells⟩ := HTr.out.get htk
      have hat := all_take htk
      have hact := HACC.out t (List.mem_of_getElem? htk)
      have HV := Lib.hid (validC_any t va wr hact.1 hi hact.2)
      have HLD := Lib.hid hcells
      obtain ⟨q, hq⟩ : ∃ q, (d20 && (F.take k).all validT) = q := ⟨_, rfl⟩
      have HQ : Hid ((d20 && (F.take (k + 1)).all validT) = (q && validT t)) := Lib.hid (by rw [hat, ← Bool.and_assoc, hq])
      rw [hq]
      obtain ⟨vt, hvt⟩ : ∃ z, validT t = z := ⟨_, rfl⟩
      rw [hvt] at HV HQ
      clear htk hcells hat hact hi hq hvt hlt
      cases q
      · go_wp2_with fail
        go_roundw
        case rel => exact ⟨k + 1, by go_num, by omega, by rw [HQ.out]; rfl, Lib.hid ⟨HBr.out, HTr.out⟩⟩
        case measure => simp [intOf]; omega
      · go_wp2_with ((with_reducible refine load_termg (o := ⟨some 33, _, _, _, _, _⟩) (.tmp 32) b (o + k * 5) t va HLD.out ?_ ?_ ?_ ?_); rfl; rfl; rfl)
        refine HV.out.mono ?_
        rintro e w5 ⟨rfl, hb5⟩
        have HB5 := Lib.hid (HBr.out.trans (hb5.mono hsr))
        have HT5 := Lib.hid (HTr.out.below hb5)
        clear hb5
        go_wp2_with fail
        go_roundw
        case rel => exact ⟨k + 1, by go_num, by omega, by rw [HQ.out]; rfl, Lib.hid ⟨HB5.out, HT5.out⟩⟩
        case measure => simp [intOf]; omega
    · obtain rfl : k = m := by omega
      have hall : F.take k = F := List.take_of_length_le (by rw [HM.out]; exact Nat.le_refl _)
      have hgg : (d20 && (F.take k).all validT) = G := by rw [hall, HGV.out, HD20.out]
      rw [hgg]
      clear hall hgg
      cases G
      · have hpe := HPE.out rfl
        subst hpe
        go_wp2_with fail
        go_ret
        exact ⟨rfl, HBr.out⟩
      · have hrt := HRT.out rfl
        have HP := Lib.hid (parse_any PF wr (HK.out.mono HBr.out) HPL.out)
        rw [hrt] at HP
        unfold strV at HP
        clear hrt
        go_wp2_with fail
        refine HP.out.mono ?_
        rintro e w6 ⟨v6, L6, rfl, hL6, ho6, hb6⟩
        dsimp only at hL6
        have ht6 := ho6.terms
        rw [hL6] at ht6
        obtain ⟨A6, c6, rfl⟩ := ht6.slice
        have HB6 := Lib.hid (HBr.out.trans (hb6.mono hsr))
        have hs6 : w.heap.size ≤ w6.heap.size := HB6.out.size
        have HSM := Lib.hid (rSame_any F F _ _ w6 (by rw [HM.out]; omega) (by rw [HM.out]; omega) (HTr.out.below hb6) ht6 (fun t h => (HACC.out t h).1) (fun t h => (HACC.out t h).1))
        rw [sameTs_iff.2 rfl] at HSM
        clear ho6 hL6 ht6 hb6
        go_wp2_with fail
        refine HSM.out.mono ?_
        rintro e w7 ⟨rfl, hb7⟩
        have HB7 := Lib.hid (HB6.out.trans (hb7.mono hs6))
        clear hb7
        go_wp2_with fail
        go_ret
        exact ⟨rfl, HB7.out⟩
end Go.Proofs.YtfiabonacpepnaaGreatDoor
