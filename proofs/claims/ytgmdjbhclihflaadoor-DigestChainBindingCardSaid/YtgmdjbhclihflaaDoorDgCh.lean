/- The reference's Same; two lists of records with the same head. -/
import Derived.Test.YtgmdjbhclihflaaDoorDgHd
namespace Go.Proofs.YtgmdjbhclihflaaDoor
open Go Go.RowKit Go.Lib Go.Shelf
attribute [local go_sem] Oper.semAt_some

/-- the longer list of hashed strings -/
def longF (a b : List (List UInt8)) : List (List UInt8) := if a.length < b.length then (headsF b).1 else (headsF a).1
theorem chain_binding : ∀ (a b : List (List UInt8)), a ≠ b → (headsF a).2 = (headsF b).2 → collB (headsF a).1 (headsF b).1 = true ∨ (a.length ≠ b.length ∧ ∃ z, (longF a b)[min a.length b.length]? = some z ∧ shaB z = hd0) := by
  refine snoc_ind ?_ ?_
  · intro b hab hh
    rcases List.eq_nil_or_concat b with rfl | ⟨b', t, rfl⟩
    · exact absurd rfl hab
    · right
      rw [List.concat_eq_append] at hh ⊢
      rw [headsF_snoc] at hh
      refine ⟨by simp, 2 :: ((headsF b').2 ++ t), ?_, hh.symm⟩
      unfold longF
      rw [if_pos (by simp), headsF_snoc]
      simp [hstep]
  · intro a s ih b hab hh
    rcases List.eq_nil_or_concat b with rfl | ⟨b', t, rfl⟩
    · right
      rw [headsF_snoc] at hh
      refine ⟨by simp, 2 :: ((headsF a).2 ++ s), ?_, hh⟩
      unfold longF
      rw [if_neg (by simp), headsF_snoc]
      simp [hstep]
    · rw [List.concat_eq_append] at hh hab ⊢
      rw [headsF_snoc, headsF_snoc] at hh ⊢
      by_cases hd : (2 :: ((headsF a).2 ++ s) : List UInt8) = 2 :: ((headsF b').2 ++ t)
      · have h1 : (headsF a).2 ++ s = (headsF b').2 ++ t := by simpa using hd
        have hl := (headsF_len a).2.trans (headsF_len b').2.symm
        have e1 := List.append_inj_left h1 hl
        have e2 := List.append_inj_right h1 hl
        subst e2
        rcases ih b' (fun e => hab (by rw [e])) e1 with h | ⟨h2, z, h3, h4⟩
        · left
          exact collB_tail h
        · right
          refine ⟨by simpa using h2, z, ?_, h4⟩
          have : longF (a ++ [s]) (b' ++ [s]) = (if a.length < b'.length then 2 :: ((headsF b').2 ++ s) else 2 :: ((headsF a).2 ++ s)) :: longF a b' := by
            unfold longF
            rw [headsF_snoc, headsF_snoc]
            by_cases hc : a.length < b'.length
            · rw [if_pos (by simpa using hc), if_pos hc, if_pos hc]; rfl
            · rw [if_neg (by simpa using hc), if_neg hc, if_neg hc]; rfl
          rw [this, List.length_append, List.length_append, List.length_singleton, Nat.add_min_add_right, List.getElem?_cons_succ]
          exact h3
      · left
        exact collB_head hd hh
theorem take_next {a : List (List UInt8)} {i : Nat} {x : List UInt8} (h : a[i]? = some x) : a.take (i + 1) = a.take i ++ [x] := by
  rw [List.take_add_one, h]; rfl
set_option maxRecDepth 100000 in
set_option maxHeartbeats 4000000 in
theorem same_any (va vb : Value) (a b : List (List UInt8)) (w : World) (ha : SlS w va a) (hb : SlS w vb b) (hn1 : a.length ≤ 10000) :
    Calls Tryd.prog 17 #[va, vb] w fun e w' => e = .returned (.bool (a == b)) ∧ Below w.heap.size w w' := by
  obtain ⟨A, c, rfl⟩ := ha.slice
  obtain ⟨A', c', rfl⟩ := hb.slice
  obtain ⟨R, hR⟩ : ∃ R, (a == b) = R := ⟨_, rfl⟩
  rw [hR]
  by_cases hlen : a.length = b.length
  · rw [← hlen]
    obtain ⟨n, hn⟩ : ∃ n, a.length = n := ⟨_, rfl⟩
    rw [← hlen] at hb
    rw [hn] at ha hb hn1 ⊢
    have HR := Lib.hid hR
    have HA := Lib.hid ha
    have HB := Lib.hid hb
    have HN := Lib.hid (And.intro hn (hlen.symm.trans hn))
    clear hR ha hb hn hlen
    go_enter Tryd.func17, Tryd.ntmps17
    go_wp2_with fail
    go_loopw [5] (fun v5 wr => ∃ i : Nat, v5 = .int .i64 i ∧ i ≤ n ∧ Hid (a.take i = b.take i ∧ Below w.heap.size w wr)) (fun v5 _ => n - (RowKit.intOf v5).toNat)
    case atStart => exact ⟨0, rfl, by omega, Lib.hid ⟨rfl, Below.refl _ _⟩⟩
    case round =>
      obtain ⟨i, rfl, hi, HS⟩ := hrel
      by_cases h1 : i < n
      · have h1d : decide (i < n) = true := by simp; omega
        obtain ⟨x, hx⟩ : ∃ x, a[i]? = some x := ⟨_, List.getElem?_eq_getElem (by rw [HN.out.1]; exact h1)⟩
        obtain ⟨y, hy⟩ : ∃ x, b[i]? = some x := ⟨_, List.getElem?_eq_getElem (by rw [HN.out.2]; exact h1)⟩
        obtain ⟨b1, o1, hA1, hlt1, hc1⟩ := HA.out.get hx
        obtain ⟨b2, o2, hA2, hlt2, hc2⟩ := HB.out.get hy
        subst hA1 hA2
        have cx := (HS.out.2.cell (p := ⟨b1, o1 + i, none⟩) hlt1).trans hc1
        have cy := (HS.out.2.cell (p := ⟨b2, o2 + i, none⟩) hlt2).trans hc2
        have HXY := Lib.hid (And.intro hx hy)
        clear hlt1 hlt2 hc1 hc2 hx hy
        by_cases hxy : x = y
        · subst hxy
          have HEND : Hid (a.take (i + 1) = b.take (i + 1)) := Lib.hid (by rw [take_next HXY.out.1, take_next HXY.out.2, HS.out.1])
          go_wp2_with fail
          go_quiet (fail)
          go_wp2_with fail
          go_roundw
          case rel => exact ⟨i + 1, by go_num, by omega, Lib.hid ⟨HEND.out, by have h := HS.out.2; exact ⟨h.os, h.tape, h.output, h.size, h.block⟩⟩⟩
          case measure => simp [RowKit.intOf]; omega
        · have hxyb : (x == y) = false := beq_eq_false_iff_ne.2 hxy
          have hRf : R = false := by
            rw [← HR.out]
            refine beq_eq_false_iff_ne.2 (fun e => hxy ?_)
            have h := HXY.out
            rw [e] at h
            exact Option.some.inj (h.1.symm.trans h.2)
          subst hRf
          go_wp2_with fail
          go_quiet (fail)
          go_wp2_with fail
          go_ret
          exact ⟨rfl, by have h := HS.out.2; exact ⟨h.os, h.tape, h.output, h.size, h.block⟩⟩
      · have h1d : decide (i < n) = false := by simp; omega
        have hRt : R = true := by
          rw [← HR.out, beq_iff_eq]
          have h := HS.out.1
          rwa [List.take_of_length_le (by rw [HN.out.1]; omega), List.take_of_length_le (by rw [HN.out.2]; omega)] at h
        subst hRt
        go_wp2_with fail
        go_ret
        exact ⟨rfl, HS.out.2⟩
  · have hRf : R = false := by rw [← hR]; exact beq_eq_false_iff_ne.2 (fun e => hlen (by rw [e]))
    subst hRf
    obtain ⟨n, hn⟩ : ∃ n, a.length = n := ⟨_, rfl⟩
    obtain ⟨m, hm⟩ : ∃ n, b.length = n := ⟨_, rfl⟩
    rw [hn] at hn1 hlen ⊢
    rw [hm] at hlen ⊢
    have hne : ((n : Int) == (m : Int)) = false := beq_eq_false_iff_ne.2 (by omega)
    have hne2 : (n == m) = false := beq_eq_false_iff_ne.2 hlen
    clear hR ha hb hn hm
    go_enter Tryd.func17, Tryd.ntmps17
    go_wp2_with fail
    go_ret
    exact ⟨rfl, Below.refl _ _⟩
end Go.Proofs.YtgmdjbhclihflaaDoor
