/- Same of package contract. -/
import Derived.Test.YtfiabonacpepnaaGreatDoorCtT
namespace Go.Proofs.YtfiabonacpepnaaGreatDoor
open Go Go.RowKit Go.Lib Go.Shelf Go.Maps

theorem equal_any (l m : List Int) (v u : Value) (w : World) (hv : IntsL w v l) (hu : IntsL w u m) (hl : l.length ≤ 9223372036854775807) (hm : m.length ≤ 9223372036854775807) :
    Calls Tryz.prog 67 #[v, u] w fun e w' => e = .returned (.bool (l == m)) ∧ Below w.heap.size w w' := by
  obtain ⟨A, c, rfl⟩ := hv.slice
  obtain ⟨B, d, rfl⟩ := hu.slice
  by_cases hn : l.length = m.length
  · by_cases h0 : l.length = 0
    · have hl0 := List.length_eq_zero_iff.1 h0
      have hm0 := List.length_eq_zero_iff.1 (hn.symm.trans h0)
      subst hl0 hm0
      refine (Tryz.slices_Equal_int_empty A B c 0 d w (by decide)).mono ?_
      rintro e w' ⟨he, hw⟩
      exact ⟨he, hw ▸ Below.refl _ _⟩
    · obtain ⟨b1, o1, rfl, hc1⟩ : ∃ b o, A = some ⟨b, o, none⟩ ∧ ∀ (i : Nat) x, l[i]? = some x → w.cell? ⟨b, o + i, none⟩ = some (.int .i64 x) := by
        rcases hv with ⟨h, _⟩ | ⟨b, o, c', he, _, hc⟩
        · rw [h] at h0; exact absurd rfl h0
        · cases he; exact ⟨b, o, rfl, hc⟩
      obtain ⟨b2, o2, rfl, hc2⟩ : ∃ b o, B = some ⟨b, o, none⟩ ∧ ∀ (i : Nat) x, m[i]? = some x → w.cell? ⟨b, o + i, none⟩ = some (.int .i64 x) := by
        rcases hu with ⟨h, _⟩ | ⟨b, o, c', he, _, hc⟩
        · rw [hn, h] at h0; exact absurd rfl h0
        · cases he; exact ⟨b, o, rfl, hc⟩
      refine (Tryz.slices_Equal_int b1 o1 l.length c b2 o2 m.length d l m w (Nat.le_refl _) (Nat.le_refl _) hl hm (fun j hj => hc1 j _ (by rw [List.getD_eq_getElem?_getD, List.getElem?_eq_getElem hj]; rfl)) (fun j hj => hc2 j _ (by rw [List.getD_eq_getElem?_getD, List.getElem?_eq_getElem hj]; rfl))).mono ?_
      rintro e w' ⟨he, q, hw⟩
      rw [List.take_length, List.take_length] at he
      exact ⟨he, hw ▸ below_drewN (Below.refl _ _) _⟩
  · refine (Tryz.slices_Equal_int_lens A B l.length c m.length d w hn).mono ?_
    rintro e w' ⟨he, hw⟩
    have : (l == m) = false := by rw [beq_eq_false_iff_ne]; intro e; exact hn (by rw [e])
    exact ⟨by rw [this]; exact he, hw ▸ Below.refl _ _⟩
def sameT (t u : TermV) : Bool := t.k == u.k && (t.n == u.n && (t.m == u.m && (t.ab == u.ab && t.acc == u.acc)))
theorem sameT_iff {t u : TermV} : sameT t u = true ↔ t = u := by
  obtain ⟨a, b, c, d, e⟩ := t
  obtain ⟨a', b', c', d', e'⟩ := u
  unfold sameT
  simp
def sameTs : List TermV → List TermV → Bool
  | [], [] => true
  | a :: l, b :: m => sameT a b && sameTs l m
  | _, _ => false
theorem sameTs_iff : ∀ {l m : List TermV}, sameTs l m = true ↔ l = m
  | [], [] => by simp [sameTs]
  | a :: l, [] => by simp [sameTs]
  | [], b :: m => by simp [sameTs]
  | a :: l, b :: m => by
    simp only [sameTs, Bool.and_eq_true, sameT_iff, List.cons.injEq]
    rw [sameTs_iff]
theorem sameTs_ne {l m : List TermV} (h : l.length ≠ m.length) : sameTs l m = false := by
  rw [Bool.eq_false_iff]
  intro e
  exact h (by rw [sameTs_iff.1 e])
set_option maxRecDepth 100000 in
set_option maxHeartbeats 4000000 in
theorem same_any (t u : TermV) (va vb : Value) (w : World) (hv : IntsL w va t.acc) (hu : IntsL w vb u.acc) (hl : t.acc.length ≤ 9223372036854775807) (hm : u.acc.length ≤ 9223372036854775807) :
    Calls Tryz.prog 39 #[.agg (termC t va), .agg (termC u vb)] w fun e w' => e = .returned (.bool (sameT t u)) ∧ Below w.heap.size w w' := by
  obtain ⟨k, n, m, a, l⟩ := t
  obtain ⟨k', n', m', a', l'⟩ := u
  dsimp only at hv hu hl hm
  have HEQ := Lib.hid (fun W (hb : Below w.heap.size w W) => equal_any l l' va vb W (hv.below hb) (hu.below hb) hl hm)
  obtain ⟨A, c, rfl⟩ := hv.slice
  obtain ⟨B, d, rfl⟩ := hu.slice
  have HST : Hid (sameT ⟨k, n, m, a, l⟩ ⟨k', n', m', a', l'⟩ = (k == k' && (n == n' && (m == m' && (a == a' && l == l'))))) := Lib.hid rfl
  have HB := Lib.hid (show Below w.heap.size w ((w.alloc (.cells (termC ⟨k, n, m, a, l⟩ (.slice A l.length c)) 28)).alloc (.cells (termC ⟨k', n', m', a', l'⟩ (.slice B l'.length d)) 28)) from ((Below.refl _ _).alloc (Nat.le_refl _) _).alloc (by simp) _)
  obtain ⟨S, hS⟩ : ∃ S, sameT ⟨k, n, m, a, l⟩ ⟨k', n', m', a', l'⟩ = S := ⟨_, rfl⟩
  rw [hS] at HST ⊢
  obtain ⟨c1, h1⟩ : ∃ q, (k == k') = q := ⟨_, rfl⟩
  obtain ⟨c2, h2⟩ : ∃ q, (n == n') = q := ⟨_, rfl⟩
  obtain ⟨c3, h3⟩ : ∃ q, (m == m') = q := ⟨_, rfl⟩
  obtain ⟨c4, h4⟩ : ∃ q, (a == a') = q := ⟨_, rfl⟩
  rw [h1, h2, h3, h4] at HST
  obtain ⟨nl, hnl⟩ : ∃ z, l.length = z := ⟨_, rfl⟩
  obtain ⟨nl', hnl'⟩ : ∃ z, l'.length = z := ⟨_, rfl⟩
  rw [hnl] at HEQ HB ⊢
  rw [hnl'] at HEQ HB ⊢
  obtain ⟨el, hel⟩ : ∃ z, (l == l') = z := ⟨_, rfl⟩
  rw [hel] at HEQ HST
  clear hv hu hS hnl hnl' hel
  unfold termC at HB ⊢
  dsimp only at HB ⊢
  cases c1 with
  | false =>
    go_enter Tryz.func39, Tryz.ntmps39
    go_wp2_with fail
    go_ret
    exact ⟨by rw [HST.out]; rfl, HB.out⟩
  | true =>
    cases c2 with
    | false =>
      go_enter Tryz.func39, Tryz.ntmps39
      go_wp2_with fail
      go_ret
      exact ⟨by rw [HST.out]; rfl, HB.out⟩
    | true =>
      cases c3 with
      | false =>
        go_enter Tryz.func39, Tryz.ntmps39
        go_wp2_with fail
        go_ret
        exact ⟨by rw [HST.out]; rfl, HB.out⟩
      | true =>
        cases c4 with
        | false =>
          go_enter Tryz.func39, Tryz.ntmps39
          go_wp2_with fail
          go_ret
          exact ⟨by rw [HST.out]; rfl, HB.out⟩
        | true =>
          go_enter Tryz.func39, Tryz.ntmps39
          go_wp2_with fail
          refine (HEQ.out _ HB.out).mono ?_
          rintro e w3 ⟨rfl, hb3⟩
          have HB3 := Lib.hid (HB.out.trans (hb3.mono HB.out.size))
          clear hb3
          go_wp2_with fail
          go_ret
          exact ⟨by rw [HST.out]; rfl, HB3.out⟩
theorem TermsAt.get {w : World} {A : Option Addr} {n c : Nat} {l : List TermV} (h : TermsAt w (.slice A n c) l) {j : Nat} {t : TermV} (hf : l[j]? = some t) :
    ∃ b o va, A = some ⟨b, o, none⟩ ∧ b < w.heap.size ∧ IntsL w va t.acc ∧ ∀ j2 x, (termC t va)[j2]? = some x → w.cell? ⟨b, o + j * 5 + j2, none⟩ = some x := by
  rcases h with ⟨h0, _⟩ | ⟨b, o, c', he, hlt, hc⟩
  · rw [h0] at hf; simp at hf
  · cases he
    obtain ⟨va, h1, h2⟩ := hc j t hf
    exact ⟨b, o, va, rfl, hlt, h1, h2⟩
theorem tdrop_at {l : List TermV} {j : Nat} {f : TermV} (h : l[j]? = some f) : l.drop j = f :: l.drop (j + 1) := by
  have hj := (List.getElem?_eq_some_iff.1 h).1
  rw [List.drop_eq_getElem_cons hj, (List.getElem?_eq_some_iff.1 h).2]
theorem store_term_at {ops : Array Oper} {rest : List Oper} {o : Oper} {a : Act} {w : World} {Q : Exit → Act → World → Prop} (x y : Operand) (N : Nat) (hN : w.heap.size = N) (t : TermV) (va : Value) (c : Array Value) (h1 : (termC t va).all (·.oneCell') = true)
    (hgd : o.guard = none) (ho : o.op = .store 28 x y) (hx : a.eval x = .pointer (some ⟨N, 0, none⟩)) (hy : a.eval y = .agg (termC t va)) (hs : c.size = 5)
    (h : wpList Tryz.prog ops Q rest (a.put o.dst undef) (w.alloc (.cells (termC t va) 28))) : wpList Tryz.prog ops Q (o :: rest) a (w.alloc (.cells c 28)) := by
  subst hN
  exact store_term x y t va c h1 hgd ho hx hy hs h
set_option maxRecDepth 100000 in
set_option maxHeartbeats 4000000 in
theorem equalFunc_any (la lb : List TermV) (va vb : Value) (w : World) (hn : la.length ≤ 1000000) (hm : lb.length ≤ 1000000) (ha : TermsAt w va la) (hb : TermsAt w vb lb) (hoa : ∀ t ∈ la, t.acc.length ≤ 1000000) (hob : ∀ t ∈ lb, t.acc.length ≤ 1000000) :
    Calls Tryz.prog 38 #[va, vb, .func (.func 39) #[] #[]] w fun e w' => e = .returned (.bool (sameTs la lb)) ∧ Below w.heap.size w w' := by
  have HA := Lib.hid ha
  have HB := Lib.hid hb
  have HOA := Lib.hid (And.intro hoa hob)
  obtain ⟨A, ca, rfl⟩ := ha.slice
  obtain ⟨B, cb, rfl⟩ := hb.slice
  obtain ⟨n, hna⟩ : ∃ z, la.length = z := ⟨_, rfl⟩
  obtain ⟨m, hmb⟩ : ∃ z, lb.length = z := ⟨_, rfl⟩
  rw [hna] at HA hn ⊢
  rw [hmb] at HB hm ⊢
  have HN := Lib.hid (And.intro hna hmb)
  clear ha hb hna hmb hoa hob
  by_cases hnm : n = m
  · subst hnm
    have hd : ((n : Int) != (n : Int)) = false := by simp
    go_enter Tryz.func38, Tryz.ntmps38
    go_wp2_with fail
    go_loopw [17] (fun v17 wr => ∃ j : Nat, v17 = .int .i64 j ∧ j ≤ n ∧ Hid (sameTs la lb = sameTs (la.drop j) (lb.drop j) ∧ Below w.heap.size w wr)) (fun v17 _ => n - (RowKit.intOf v17).toNat)
    case atStart => exact ⟨0, rfl, by omega, Lib.hid ⟨by simp, Below.refl _ _⟩⟩
    case round =>
      obtain ⟨j, rfl, hj, HS⟩ := hrel
      by_cases hj2 : j < n
      · have hjd : decide (j < n) = true := by simpa using hj2
        obtain ⟨f, hf⟩ : ∃ x, la[j]? = some x := ⟨_, List.getElem?_eq_getElem (by have := HN.out.1; omega)⟩
        obtain ⟨g, hg⟩ : ∃ x, lb[j]? = some x := ⟨_, List.getElem?_eq_getElem (by have := HN.out.2; omega)⟩
        obtain ⟨b, o, v1, rfl, hlt, hi1, hcell⟩ := (HA.out.below HS.out.2).get hf
        obtain ⟨b2, o2, v2, rfl, hlt2, hi2, hcell2⟩ := (HB.out.below HS.out.2).get hg
        have HFG := Lib.hid (And.intro hf hg)
        have HC1 := Lib.hid hcell
        have HO1 := Lib.hid (termC_one f hi1)
        have HO2 := Lib.hid (termC_one g hi2)
        have b1 : Below wr.heap.size wr (wr.alloc (.cells (termC f v1) 28)) := (Below.refl _ _).alloc (Nat.le_refl _) _
        have b12 : Below wr.heap.size wr ((wr.alloc (.cells (termC f v1) 28)).alloc (.cells (termC g v2) 28)) := b1.alloc b1.size _
        have HC2 : Hid (∀ j2 x, (termC g v2)[j2]? = some x → (wr.alloc (.cells (termC f v1) 28)).cell? ⟨b2, o2 + j * 5 + j2, none⟩ = some x) := Lib.hid (fun j2 x hx => (b1.cell (p := ⟨b2, o2 + j * 5 + j2, none⟩) hlt2).trans (hcell2 j2 x hx))
        have HR1 := Lib.hid ((RowAt.new wr 28 (termC f v1)).alloc (.cells (termC g v2) 28))
        have hr2 := RowAt.new (wr.alloc (.cells (termC f v1) 28)) 28 (termC g v2)
        have HN2 : Hid ((wr.alloc (.cells (termC f v1) 28)).heap.size = wr.heap.size + 1) := Lib.hid (by simp)
        rw [World.size_alloc] at hr2
        have HR2 := Lib.hid hr2
        have HSM := Lib.hid (same_any f g v1 v2 ((wr.alloc (.cells (termC f v1) 28)).alloc (.cells (termC g v2) 28)) (hi1.below b12) (hi2.below b12) (by have := HOA.out.1 f (List.mem_of_getElem? hf); omega) (by have := HOA.out.2 g (List.mem_of_getElem? hg); omega))
        have HBX := Lib.hid b12
        clear hf hg hcell hcell2 hlt hlt2 hi1 hi2 b1 b12 hr2
        obtain ⟨S, hS⟩ : ∃ S, sameT f g = S := ⟨_, rfl⟩
        rw [hS] at HSM
        have HSS := Lib.hid hS
        clear hS
        go_wp2_with (first | ((with_reducible refine load_term (o := ⟨some 21, _, _, _, _, _⟩) (.tmp 20) b (o + j * 5) f v1 HC1.out ?_ ?_ ?_ ?_); rfl; rfl; rfl) | ((with_reducible refine store_term (o := ⟨none, .store _ _ _, _, _, _, _⟩) (.tmp 8) (.tmp 21) f v1 _ HO1.out ?_ ?_ ?_ ?_ ?_ ?_); rfl; rfl; rfl; rfl; rfl) | ((with_reducible refine load_term (o := ⟨some 25, _, _, _, _, _⟩) (.tmp 24) b2 (o2 + j * 5) g v2 HC2.out ?_ ?_ ?_ ?_); rfl; rfl; rfl) | ((with_reducible refine store_term_at (o := ⟨none, .store _ _ _, _, _, _, _⟩) (.tmp 9) (.tmp 25) (wr.heap.size + 1) HN2.out g v2 _ HO2.out ?_ ?_ ?_ ?_ ?_ ?_); rfl; rfl; rfl; rfl; rfl) | ((with_reducible refine load_trow (o := ⟨some 27, _, _, _, _, _⟩) (.tmp 8) wr.heap.size (termC f v1) HR1.out rfl ?_ ?_ ?_ ?_); rfl; rfl; rfl) | ((with_reducible refine load_trow (o := ⟨some 28, _, _, _, _, _⟩) (.tmp 9) (wr.heap.size + 1) (termC g v2) HR2.out rfl ?_ ?_ ?_ ?_); rfl; rfl; rfl))
        refine HSM.out.mono ?_
        rintro e W5 ⟨rfl, hb5⟩
        have HB5 : Hid (Below w.heap.size w W5) := Lib.hid (HS.out.2.trans ((HBX.out.trans (hb5.mono HBX.out.size)).mono HS.out.2.size))
        clear hb5
        cases S
        · go_wp2_with fail
          go_ret
          refine ⟨?_, HB5.out⟩
          rw [HS.out.1, tdrop_at HFG.out.1, tdrop_at HFG.out.2]
          simp [sameTs, HSS.out]
        · go_wp2_with fail
          go_roundw
          case rel =>
            refine ⟨j + 1, by go_num, by omega, Lib.hid ⟨?_, HB5.out⟩⟩
            rw [HS.out.1, tdrop_at HFG.out.1, tdrop_at HFG.out.2]
            simp [sameTs, HSS.out]
          case measure => simp [RowKit.intOf]; omega
      · obtain rfl : j = n := by omega
        have hjd : decide (j < j) = false := by simp
        go_wp2_with fail
        go_ret
        refine ⟨?_, HS.out.2⟩
        rw [HS.out.1, List.drop_eq_nil_of_le (by have := HN.out.1; omega), List.drop_eq_nil_of_le (by have := HN.out.2; omega)]
        rfl
  · have hd : ((n : Int) != (m : Int)) = true := by simp; omega
    have hd2 : decide (n = m) = false := by simpa using hnm
    have HNM := Lib.hid hnm
    clear hnm
    go_enter Tryz.func38, Tryz.ntmps38
    go_wp2_with fail
    go_ret
    exact ⟨by rw [sameTs_ne (by rw [HN.out.1, HN.out.2]; exact HNM.out)]; rfl, Below.refl _ _⟩
theorem Same_any (la lb : List TermV) (va vb : Value) (w : World) (hn : la.length ≤ 1000000) (hm : lb.length ≤ 1000000) (ha : TermsAt w va la) (hb : TermsAt w vb lb) (hoa : ∀ t ∈ la, t.acc.length ≤ 1000000) (hob : ∀ t ∈ lb, t.acc.length ≤ 1000000) :
    Calls Tryz.prog 18 #[va, vb] w fun e w' => e = .returned (.bool (sameTs la lb)) ∧ Below w.heap.size w w' := by
  have H := Lib.hid (equalFunc_any la lb va vb w hn hm ha hb hoa hob)
  clear hn hm ha hb hoa hob
  go_enter Tryz.func18, Tryz.ntmps18
  go_wp2_with fail
  refine H.out.mono ?_
  rintro e w1 ⟨rfl, hb1⟩
  have HB := Lib.hid hb1
  clear hb1
  go_wp2_with fail
  go_ret
  exact ⟨rfl, HB.out⟩
end Go.Proofs.YtfiabonacpepnaaGreatDoor
