/- The reference's Proof and Extension. -/
import Derived.Test.YtgmdjbhclihflaaDoorDgTr
namespace Go.Proofs.YtgmdjbhclihflaaDoor
open Go Go.RowKit Go.Lib Go.Shelf
attribute [local go_sem] Oper.semAt_some

theorem own_oneR (w : World) (y : List UInt8) : OwnL 9 encS (w.alloc (.cells #[.string ⟨y.toArray⟩] 9)) w.heap.size (.slice (some ⟨w.heap.size, 0, none⟩) 1 1) [y] :=
  ⟨by simp, .inr ⟨w.heap.size, 1, #[.string ⟨y.toArray⟩], rfl, Nat.le_refl _, heap_alloc_last w _, Nat.le_refl _, by unfold maxLen; omega, by simp, by simp [encS]⟩⟩
theorem take_nextR {a : List (List UInt8)} {i : Nat} {x : List UInt8} (h : a[i]? = some x) : a.take (i + 1) = a.take i ++ [x] := by
  rw [List.take_add_one, h]; rfl
set_option maxRecDepth 100000 in
set_option maxHeartbeats 4000000 in
theorem same_anyR (va vb : Value) (a b : List (List UInt8)) (w : World) (ha : SlS w va a) (hb : SlS w vb b) (hn1 : a.length ≤ 10000) :
    Calls Tryd.prog 17 #[va, vb] w fun e w' => e = .returned (.bool (a == b)) ∧ Below w.heap.size w w' := by
  obtain ⟨A, c, rfl⟩ := ha.slice
  obtain ⟨A', c', rfl⟩ := hb.slice
  obtain ⟨R, hR⟩ : ∃ R, (a == b) = R := ⟨_, rfl⟩
  rw [hR]
  by_cases hlen : a.length = b.length
  · rw [← hlen]
    obtain ⟨n, hn⟩ : ∃ n, a.length = n := ⟨_, rfl⟩
    rw [← hlen] at hb
    rw [hn] at ha hb hn1 ⊢
    have HR := Lib.hid hR
    have HA := Lib.hid ha
    have HB := Lib.hid hb
    have HN := Lib.hid (And.intro hn (hlen.symm.trans hn))
    clear hR ha hb hn hlen
    go_enter Tryd.func17, Tryd.ntmps17
    go_wp2_with fail
    go_loopw [5] (fun v5 wr => ∃ i : Nat, v5 = .int .i64 i ∧ i ≤ n ∧ Hid (a.take i = b.take i ∧ Below w.heap.size w wr)) (fun v5 _ => n - (RowKit.intOf v5).toNat)
    case atStart => exact ⟨0, rfl, by omega, Lib.hid ⟨rfl, Below.refl _ _⟩⟩
    case round =>
      obtain ⟨i, rfl, hi, HS⟩ := hrel
      by_cases h1 : i < n
      · have h1d : decide (i < n) = true := by simp; omega
        obtain ⟨x, hx⟩ : ∃ x, a[i]? = some x := ⟨_, List.getElem?_eq_getElem (by rw [HN.out.1]; exact h1)⟩
        obtain ⟨y, hy⟩ : ∃ x, b[i]? = some x := ⟨_, List.getElem?_eq_getElem (by rw [HN.out.2]; exact h1)⟩
        obtain ⟨b1, o1, hA1, hlt1, hc1⟩ := HA.out.get hx
        obtain ⟨b2, o2, hA2, hlt2, hc2⟩ := HB.out.get hy
        subst hA1 hA2
        have cx := (HS.out.2.cell (p := ⟨b1, o1 + i, none⟩) hlt1).trans hc1
        have cy := (HS.out.2.cell (p := ⟨b2, o2 + i, none⟩) hlt2).trans hc2
        have HXY := Lib.hid (And.intro hx hy)
        clear hlt1 hlt2 hc1 hc2 hx hy
        by_cases hxy : x = y
        · subst hxy
          have HEND : Hid (a.take (i + 1) = b.take (i + 1)) := Lib.hid (by rw [take_nextR HXY.out.1, take_nextR HXY.out.2, HS.out.1])
          go_wp2_with fail
          go_quiet (fail)
          go_wp2_with fail
          go_roundw
          case rel => exact ⟨i + 1, by go_num, by omega, Lib.hid ⟨HEND.out, by have h := HS.out.2; exact ⟨h.os, h.tape, h.output, h.size, h.block⟩⟩⟩
          case measure => simp [RowKit.intOf]; omega
        · have hxyb : (x == y) = false := beq_eq_false_iff_ne.2 hxy
          have hRf : R = false := by
            rw [← HR.out]
            refine beq_eq_false_iff_ne.2 (fun e => hxy ?_)
            have h := HXY.out
            rw [e] at h
            exact Option.some.inj (h.1.symm.trans h.2)
          subst hRf
          go_wp2_with fail
          go_quiet (fail)
          go_wp2_with fail
          go_ret
          exact ⟨rfl, by have h := HS.out.2; exact ⟨h.os, h.tape, h.output, h.size, h.block⟩⟩
      · have h1d : decide (i < n) = false := by simp; omega
        have hRt : R = true := by
          rw [← HR.out, beq_iff_eq]
          have h := HS.out.1
          rwa [List.take_of_length_le (by rw [HN.out.1]; omega), List.take_of_length_le (by rw [HN.out.2]; omega)] at h
        subst hRt
        go_wp2_with fail
        go_ret
        exact ⟨rfl, HS.out.2⟩
  · have hRf : R = false := by rw [← hR]; exact beq_eq_false_iff_ne.2 (fun e => hlen (by rw [e]))
    subst hRf
    obtain ⟨n, hn⟩ : ∃ n, a.length = n := ⟨_, rfl⟩
    obtain ⟨m, hm⟩ : ∃ n, b.length = n := ⟨_, rfl⟩
    rw [hn] at hn1 hlen ⊢
    rw [hm] at hlen ⊢
    have hne : ((n : Int) == (m : Int)) = false := beq_eq_false_iff_ne.2 (by omega)
    have hne2 : (n == m) = false := beq_eq_false_iff_ne.2 hlen
    clear hR ha hb hn hm
    go_enter Tryd.func17, Tryd.ntmps17
    go_wp2_with fail
    go_ret
    exact ⟨rfl, Below.refl _ _⟩
theorem rproof_out (A : Option Addr) (n c : Nat) (i : Int) (w : World) (h : ¬(0 ≤ i ∧ i < n)) :
    Calls Tryd.prog 14 #[.slice A n c, .int .i64 i] w fun e w' => e = .returned (.tuple #[.slice none 0 0, .int .i64 2]) ∧ w = w' := by
  by_cases h1 : i < 0
  · have h1d : decide (i < 0) = true := decide_eq_true h1
    go_enter Tryd.func14, Tryd.ntmps14
    go_wp2_with fail
    go_ret2
    exact ⟨rfl, rfl⟩
  · have h2 : (n : Int) ≤ i := by omega
    have h1d : decide (i < 0) = false := decide_eq_false h1
    have h2d : decide ((n : Int) ≤ i) = true := decide_eq_true h2
    go_enter Tryd.func14, Tryd.ntmps14
    go_wp2_with fail
    go_ret2
    exact ⟨rfl, rfl⟩
set_option maxRecDepth 100000 in
set_option maxHeartbeats 4000000 in
theorem rproof_any : ∀ (f n i : Nat) (A : Option Addr) (c : Nat) (xs : List (List UInt8)) (w : World), n ≤ f → f ≤ 10000 → SlS w (.slice A n c) xs → xs.length = n → n ≤ c → i < n → (∀ x ∈ xs, x.length ≤ 10000) →
    Calls Tryd.prog 14 #[.slice A n c, .int .i64 i] w fun e w' => ∃ v, e = .returned (.tuple #[v, .int .i64 0]) ∧ OwnL 9 encS w' w.heap.size v (proofB xs i) ∧ Below w.heap.size w w' := by
  intro f
  induction f with
  | zero => intro n i A c xs w hf hf2 hv hn hc hi; omega
  | succ f ih =>
    intro n i A c xs w hf hf2 hv hn hc hi hx
    have hi0 : decide ((i : Int) < 0) = false := by simp
    have hin : decide (n ≤ i) = false := by simp; omega
    by_cases h1 : n = 1
    · subst h1
      rw [proofB_one (by omega)]
      clear ih hv hx
      go_enter Tryd.func14, Tryd.ntmps14
      go_wp2_with fail
      go_ret2
      exact ⟨_, rfl, OwnL.nil, Below.refl _ _⟩
    · obtain ⟨b, o, hA, k1, k2, ht, hd⟩ := cut_facts hv hn (by omega) (by omega)
      subst hA
      have hpl := proofB_lt (l := xs) (i := i) (by omega) (by omega)
      have hpg := proofB_ge (l := xs) (i := i) (by omega) (by omega)
      rw [hn] at hpl hpg
      have LL := Lib.hid (rleft_any n w (by omega) (by omega))
      obtain ⟨k, hk⟩ : ∃ k, leftN n = k := ⟨_, rfl⟩
      rw [hk] at hpl hpg LL k1 k2 ht hd
      have hn1 : ((n : Int) == 1) = false := by rw [beq_eq_false_iff_ne]; omega
      have kn : k ≤ n := by omega
      have kc : k ≤ c := by omega
      have ck : ¬ c = k := by omega
      clear hk
      by_cases hik : i < k
      · have hikd : decide (i < k) = true := by simp; omega
        have IH := Lib.hid (ih k i _ c (xs.take k) w (by omega) (by omega) (hv.take k (by omega)) ht (by omega) (by omega) (fun x hx' => hx x (List.mem_of_mem_take hx')))
        have hpe := hpl hik
        
        have HPL : Hid ((proofB (xs.take k) i).length ≤ 20000) := Lib.hid (by have := proofB_short2 (xs.take k) i (by omega); omega)
        obtain ⟨PL, hPL⟩ : ∃ z, proofB (xs.take k) i = z := ⟨_, rfl⟩
        have RT : Hid (∀ W, Below w.heap.size w W → Calls Tryd.prog 19 #[.slice (some ⟨b, o + k, none⟩) (n - k) (c - k)] W fun e w' => e = .returned (.string ⟨(rootB (xs.drop k)).toArray⟩) ∧ Below W.heap.size W w') := Lib.hid (fun W hb => rroot_any (n - k) (n - k) _ (c - k) (xs.drop k) W (Nat.le_refl _) (by omega) ((hv.below hb).drop k _) hd (by omega) (fun x hx' => hx x (List.mem_of_mem_drop hx')))
        obtain ⟨R, hR⟩ : ∃ z, rootB (xs.drop k) = z := ⟨_, rfl⟩
        rw [hPL] at IH hpe HPL
        rw [hR] at RT hpe
        rw [hpe]
        clear hPL hR hpe hpl hpg ht hd hv hx ih hik
        go_enter Tryd.func14, Tryd.ntmps14
        go_wp2_with fail
        refine LL.out.mono ?_
        rintro e w' ⟨rfl, rfl⟩
        go_wp2_with fail
        refine IH.out.mono ?_
        rintro e Y ⟨v1, rfl, ho1, hy⟩
        have HY := Lib.hid (And.intro ho1 hy)
        clear ho1 hy
        go_wp2_with fail
        refine (RT.out Y HY.out.2).mono ?_
        rintro e Z ⟨rfl, hz⟩
        have HZ := Lib.hid (And.intro (HY.out.1.below hz) (HY.out.2.trans (hz.mono HY.out.2.size)))
        clear hz
        go_wp2_with (first | ((with_reducible refine wpList_stop (o := ⟨some 42, _, _, _, _, _⟩) ?_)))
        unfold Stop
        refine wpList_append_one rfl (.tmp 36) (.tmp 41) 22 rfl Tryd.underlying22 string_info rfl (by decide) rfl (HZ.out.1.below ((Below.refl _ _).alloc (Nat.le_refl _) _)) Z.heap.size 1 R rfl rfl ?_ ?_ ?_ (fun v9 w9 hown hg9 => ?_)
        · rw [(RowAt.new Z 9 _).cell 0]; rfl
        · have := HPL.out; omega
        · have := HZ.out.2.size; simp; omega
        have hb9 : Below w.heap.size w w9 := (HZ.out.2.alloc HZ.out.2.size _).grown hg9 (by have := HZ.out.2.size; simp; omega) (fun j e => (HZ.out.1.lt j e).1)
        have HE := Lib.hid (And.intro hown hb9)
        clear hown hb9 hg9
        go_wp2_with fail
        go_ret2
        exact ⟨_, rfl, HE.out.1, HE.out.2⟩
      · have hikd : decide (i < k) = false := by simp; omega
        obtain ⟨ik, hikk⟩ : ∃ z, i - k = z := ⟨_, rfl⟩
        have e1 : IntKind.i64.wrap ((i : Int) - (k : Int)) = (ik : Int) := by rw [IntWalk.i64_in _ (by omega)]; omega
        have IH := Lib.hid (ih (n - k) ik _ (c - k) (xs.drop k) w (by omega) (by omega) (hv.drop k _) hd (by omega) (by omega) (fun x hx' => hx x (List.mem_of_mem_drop hx')))
        have hpe := hpg hik
        rw [hikk] at hpe
        have HPL : Hid ((proofB (xs.drop k) ik).length ≤ 20000) := Lib.hid (by have := proofB_short2 (xs.drop k) ik (by omega); omega)
        obtain ⟨PL, hPL⟩ : ∃ z, proofB (xs.drop k) ik = z := ⟨_, rfl⟩
        have RT : Hid (∀ W, Below w.heap.size w W → Calls Tryd.prog 19 #[.slice (some ⟨b, o, none⟩) k c] W fun e w' => e = .returned (.string ⟨(rootB (xs.take k)).toArray⟩) ∧ Below W.heap.size W w') := Lib.hid (fun W hb => rroot_any k k _ c (xs.take k) W (Nat.le_refl _) (by omega) ((hv.below hb).take k (by omega)) ht (by omega) (fun x hx' => hx x (List.mem_of_mem_take hx')))
        obtain ⟨R, hR⟩ : ∃ z, rootB (xs.take k) = z := ⟨_, rfl⟩
        rw [hPL] at IH hpe HPL
        rw [hR] at RT hpe
        rw [hpe]
        clear hPL hR hpe hpl hpg ht hd hv hx ih hikk hik
        go_enter Tryd.func14, Tryd.ntmps14
        go_wp2_with fail
        refine LL.out.mono ?_
        rintro e w' ⟨rfl, rfl⟩
        go_wp2_with fail
        refine IH.out.mono ?_
        rintro e Y ⟨v1, rfl, ho1, hy⟩
        have HY := Lib.hid (And.intro ho1 hy)
        clear ho1 hy
        go_wp2_with fail
        refine (RT.out Y HY.out.2).mono ?_
        rintro e Z ⟨rfl, hz⟩
        have HZ := Lib.hid (And.intro (HY.out.1.below hz) (HY.out.2.trans (hz.mono HY.out.2.size)))
        clear hz
        go_wp2_with (first | ((with_reducible refine wpList_stop (o := ⟨some 59, _, _, _, _, _⟩) ?_)))
        unfold Stop
        refine wpList_append_one rfl (.tmp 53) (.tmp 58) 22 rfl Tryd.underlying22 string_info rfl (by decide) rfl (HZ.out.1.below ((Below.refl _ _).alloc (Nat.le_refl _) _)) Z.heap.size 1 R rfl rfl ?_ ?_ ?_ (fun v9 w9 hown hg9 => ?_)
        · rw [(RowAt.new Z 9 _).cell 0]; rfl
        · have := HPL.out; omega
        · have := HZ.out.2.size; simp; omega
        have hb9 : Below w.heap.size w w9 := (HZ.out.2.alloc HZ.out.2.size _).grown hg9 (by have := HZ.out.2.size; simp; omega) (fun j e => (HZ.out.1.lt j e).1)
        have HE := Lib.hid (And.intro hown hb9)
        clear hown hb9 hg9
        go_wp2_with fail
        go_ret2
        exact ⟨_, rfl, HE.out.1, HE.out.2⟩
set_option maxRecDepth 100000 in
set_option maxHeartbeats 4000000 in
theorem rpart_any : ∀ (f n m : Nat) (wh : Bool) (A : Option Addr) (c : Nat) (xs : List (List UInt8)) (w : World), n ≤ f → f ≤ 10000 → SlS w (.slice A n c) xs → xs.length = n → n ≤ c → 1 ≤ m → m ≤ n → (∀ x ∈ xs, x.length ≤ 10000) →
    Calls Tryd.prog 40 #[.slice A n c, .int .i64 m, .bool wh] w fun e w' => ∃ v, e = .returned v ∧ OwnL 9 encS w' w.heap.size v (partB xs m wh) ∧ Below w.heap.size w w' := by
  intro f
  induction f with
  | zero => intro n m wh A c xs w hf hf2 hv hn hc hm; omega
  | succ f ih =>
    intro n m wh A c xs w hf hf2 hv hn hc hm1 hm hx
    by_cases h1 : m = n
    · subst h1
      rw [partB_end (by omega) (by omega)]
      cases wh with
      | true =>
        clear ih hv hx
        go_enter Tryd.func40, Tryd.ntmps40
        go_wp2_with fail
        go_ret
        exact ⟨_, rfl, OwnL.nil, Below.refl _ _⟩
      | false =>
        have RT := Lib.hid (rroot_any m m A c xs w (Nat.le_refl _) (by omega) hv hn hc hx)
        obtain ⟨R, hR⟩ : ∃ z, rootB xs = z := ⟨_, rfl⟩
        rw [hR] at RT ⊢
        clear ih hv hx hR
        go_enter Tryd.func40, Tryd.ntmps40
        go_wp2_with fail
        refine RT.out.mono ?_
        rintro e Y ⟨rfl, hy⟩
        have HY := Lib.hid hy
        clear hy
        go_wp2_with fail
        go_ret
        exact ⟨_, rfl, rebase (own_oneR Y R) HY.out.size, HY.out.alloc HY.out.size _⟩
    · obtain ⟨b, o, hA, k1, k2, ht, hd⟩ := cut_facts hv hn (by omega) (by omega)
      subst hA
      have hpl := partB_le (l := xs) (m := m) (wh := wh) (by omega) (by omega) hm1 (by omega)
      have hpg := partB_gt (l := xs) (m := m) (wh := wh) (by omega) (by omega) (by omega)
      rw [hn] at hpl hpg
      have LL := Lib.hid (rleft_any n w (by omega) (by omega))
      obtain ⟨k, hk⟩ : ∃ k, leftN n = k := ⟨_, rfl⟩
      rw [hk] at hpl hpg LL k1 k2 ht hd
      have hmn : ((m : Int) == (n : Int)) = false := by rw [beq_eq_false_iff_ne]; omega
      have hmn2 : (m == n) = false := beq_eq_false_iff_ne.2 h1
      have kn : k ≤ n := by omega
      have kc : k ≤ c := by omega
      have ck : ¬ c = k := by omega
      clear hk
      by_cases hmk : m ≤ k
      · have hmkd : decide (m ≤ k) = true := by simp; omega
        have hpe := hpl hmk
        
        have HPL : Hid ((partB (xs.take k) m wh).length ≤ 20000) := Lib.hid (by have := partB_short (xs.take k) m wh; omega)
        obtain ⟨PL, hPL⟩ : ∃ z, partB (xs.take k) m wh = z := ⟨_, rfl⟩
        have PT : Hid (∀ W, Below w.heap.size w W → Calls Tryd.prog 40 #[.slice (some ⟨b, o, none⟩) k c, .int .i64 m, .bool wh] W fun e w' => ∃ v, e = .returned v ∧ OwnL 9 encS w' w.heap.size v (partB (xs.take k) m wh) ∧ Below W.heap.size W w' ∧ Below w.heap.size w w') := Lib.hid (fun W hb => by
          refine (ih k m wh _ c (xs.take k) W (by omega) (by omega) ((hv.below hb).take k (by omega)) ht (by omega) (by omega) (by omega) (fun x hx' => hx x (List.mem_of_mem_take hx'))).mono ?_
          rintro e w' ⟨v, rfl, h1, h2⟩
          exact ⟨v, rfl, rebase h1 hb.size, h2, hb.trans (h2.mono hb.size)⟩)
        have RT : Hid (∀ W, Below w.heap.size w W → Calls Tryd.prog 19 #[.slice (some ⟨b, o + k, none⟩) (n - k) (c - k)] W fun e w' => e = .returned (.string ⟨(rootB (xs.drop k)).toArray⟩) ∧ Below W.heap.size W w' ∧ Below w.heap.size w w') := Lib.hid (fun W hb => (rroot_any (n - k) (n - k) _ (c - k) (xs.drop k) W (Nat.le_refl _) (by omega) ((hv.below hb).drop k _) hd (by omega) (fun x hx' => hx x (List.mem_of_mem_drop hx'))).mono (fun e w' hh => ⟨hh.1, hh.2, hb.trans (hh.2.mono hb.size)⟩))
        obtain ⟨R, hR⟩ : ∃ z, rootB (xs.drop k) = z := ⟨_, rfl⟩
        rw [hPL] at PT hpe HPL
        rw [hR] at RT hpe
        obtain ⟨F, hF⟩ : ∃ z, partB xs m wh = z := ⟨_, rfl⟩
        rw [hF] at hpe ⊢
        have HEQ := Lib.hid hpe.symm
        clear hPL hR hpe hpl hpg ht hd hv hx ih hF hmk
        go_enter Tryd.func40, Tryd.ntmps40
        go_wp2_with fail
        refine LL.out.mono ?_
        rintro e w' ⟨rfl, rfl⟩
        go_wp2_with fail
        refine wp_region_noPanic ?_
        refine wp_region_held_drew (S := fun W => Below w.heap.size w W) (by kernel_rfl) (Below.refl _ _).drew (fun hHeld => ?_)
        refine wpAnyH_take (i := 0) (oi := ⟨_, _, _, _, _, _⟩) (v := ?_) rfl (by kernel_rfl) (by kernel_rfl) (by kernel_rfl) (fun _ _ _ h => h) (Or.inl ⟨by rfl, ?_⟩) (by assumption) ?_
        rotate_left
        · intro w hSw
          go_simp
          all_goals with_reducible rfl
        simp only [Act.put, List.setIfInBounds_toArray, List.set_cons_zero, List.set_cons_succ]
        refine wpAnyH_take (i := 1) (oi := ⟨_, _, _, _, _, _⟩) (v := ?_) rfl (by kernel_rfl) (by kernel_rfl) (by kernel_rfl) (fun _ _ _ h => h) (Or.inl ⟨by rfl, ?_⟩) (by assumption) ?_
        rotate_left
        · intro w hSw
          go_simp
          all_goals with_reducible rfl
        simp only [Act.put, List.setIfInBounds_toArray, List.set_cons_zero, List.set_cons_succ]
        refine wpAnyH_take (i := 2) (oi := ⟨_, _, _, _, _, _⟩) (v := ?_) rfl (by kernel_rfl) (by kernel_rfl) (by kernel_rfl) (fun _ _ _ h => h) (Or.inl ⟨by rfl, ?_⟩) (by assumption) ?_
        rotate_left
        · intro w hSw
          go_simp
          all_goals with_reducible rfl
        simp only [Act.put, List.setIfInBounds_toArray, List.set_cons_zero, List.set_cons_succ]
        refine wpAnyH_take (i := 3) (oi := ⟨_, _, _, _, _, _⟩) (v := ?_) rfl (by kernel_rfl) (by kernel_rfl) (by kernel_rfl) (fun _ _ _ h => h) (Or.inl ⟨by rfl, ?_⟩) (by assumption) ?_
        rotate_left
        · intro w hSw
          go_simp
          all_goals with_reducible rfl
        simp only [Act.put, List.setIfInBounds_toArray, List.set_cons_zero, List.set_cons_succ]
        refine wpAnyH_take (i := 4) (oi := ⟨_, _, _, _, _, _⟩) (v := ?_) rfl (by kernel_rfl) (by kernel_rfl) (by kernel_rfl) (fun _ _ _ h => h) (Or.inl ⟨by rfl, ?_⟩) (by assumption) ?_
        rotate_left
        · intro w hSw
          go_simp
          all_goals with_reducible rfl
        simp only [Act.put, List.setIfInBounds_toArray, List.set_cons_zero, List.set_cons_succ]
        refine wpAnyH_take (i := 6) (oi := ⟨_, _, _, _, _, _⟩) (v := ?_) rfl (by kernel_rfl) (by kernel_rfl) (by kernel_rfl) (fun _ _ _ h => h) (Or.inl ⟨by rfl, ?_⟩) (by assumption) ?_
        rotate_left
        · intro w hSw
          go_simp
          all_goals with_reducible rfl
        simp only [Act.put, List.setIfInBounds_toArray, List.set_cons_zero, List.set_cons_succ]
        refine wpAnyH_take (i := 7) (oi := ⟨_, _, _, _, _, _⟩) (v := ?_) rfl (by kernel_rfl) (by kernel_rfl) (by kernel_rfl) (fun _ _ _ h => h) (Or.inl ⟨by rfl, ?_⟩) (by assumption) ?_
        rotate_left
        · intro w hSw
          go_simp
          all_goals with_reducible rfl
        simp only [Act.put, List.setIfInBounds_toArray, List.set_cons_zero, List.set_cons_succ]
        refine wpAnyH_take (i := 8) (oi := ⟨_, _, _, _, _, _⟩) (v := ?_) rfl (by kernel_rfl) (by kernel_rfl) (by kernel_rfl) (fun _ _ _ h => h) (Or.inl ⟨by rfl, ?_⟩) (by assumption) ?_
        rotate_left
        · intro w hSw
          go_simp
          all_goals with_reducible rfl
        simp only [Act.put, List.setIfInBounds_toArray, List.set_cons_zero, List.set_cons_succ]
        refine wpAnyH_ready (rs := [5]) (by kernel_rfl) (by simp) ?_
        refine AllReadyH.cons (o := ⟨_, _, _, _, _, _⟩) rfl (fun K hK => ?_) AllReadyH.nil
        go_simp
        refine (PT.out _ (Below.refl _ _).drew).mono ?_
        rintro e Y ⟨v1, rfl, ho1, hY, hYB⟩
        go_wp2_with fail
        refine hK.out _ _ hYB (fun _ => ?_)
        clear hK K
        try simp only [Act.put, List.setIfInBounds_toArray, List.set_cons_zero, List.set_cons_succ]
        refine wpAnyH_ready (rs := [9]) (by kernel_rfl) (by simp) ?_
        refine AllReadyH.cons (o := ⟨_, _, _, _, _, _⟩) rfl (fun K hK => ?_) AllReadyH.nil
        go_simp
        refine (RT.out _ hYB).mono ?_
        rintro e Z ⟨rfl, hZ, hZB⟩
        go_wp2_with fail
        refine hK.out _ _ hZB (fun _ => ?_)
        clear hK K
        try simp only [Act.put, List.setIfInBounds_toArray, List.set_cons_zero, List.set_cons_succ]
        refine wpAnyH_ready (rs := [10]) (by kernel_rfl) (by simp) ?_
        refine AllReadyH.cons (o := ⟨_, _, _, _, _, _⟩) rfl (fun K hK => ?_) AllReadyH.nil
        go_simp
        refine hK.out _ _ (hZB.alloc hZB.size _) (fun _ => ?_)
        clear hK K
        try simp only [Act.put, List.setIfInBounds_toArray, List.set_cons_zero, List.set_cons_succ]
        refine wpAnyH_ready (rs := [11]) (by kernel_rfl) (by simp) ?_
        refine AllReadyH.cons (o := ⟨_, _, _, _, _, _⟩) rfl (fun K hK => ?_) AllReadyH.nil
        refine step_append_one rfl (.tmp 27) (.tmp 32) 22 rfl Tryd.underlying22 string_info rfl (by decide) rfl ((ho1.below hZ).below ((Below.refl _ _).alloc (Nat.le_refl _) (.cells #[.string ⟨R.toArray⟩] 9))) (Z.heap.size) 1 R rfl rfl (by rw [(RowAt.new Z 9 _).cell 0]; rfl) (by have := HPL.out; omega) ((hZB.alloc hZB.size (.cells #[.string ⟨R.toArray⟩] 9)).size) ?_
        intro v9 w9 hown hg9
        have hb9 : Below w.heap.size w w9 := (hZB.alloc hZB.size (.cells #[.string ⟨R.toArray⟩] 9)).grown hg9 (hZB.alloc hZB.size (.cells #[.string ⟨R.toArray⟩] 9)).size (fun j e => (OwnL.lt ((ho1.below hZ).below ((Below.refl _ _).alloc (Nat.le_refl _) (.cells #[.string ⟨R.toArray⟩] 9))) j e).1)
        refine hK.out _ _ hb9 (fun _ => ?_)
        clear hK K
        try simp only [Act.put, List.setIfInBounds_toArray, List.set_cons_zero, List.set_cons_succ]
        refine wpAnyH_take (i := 12) (oi := ⟨_, _, _, _, _, _⟩) (v := ?_) rfl (by kernel_rfl) (by kernel_rfl) (by kernel_rfl) (fun _ _ _ h => h) (Or.inl ⟨by rfl, ?_⟩) (by assumption) ?_
        rotate_left
        · intro w hSw
          go_simp
          all_goals with_reducible rfl
        simp only [Act.put, List.setIfInBounds_toArray, List.set_cons_zero, List.set_cons_succ]
        refine wpAnyH_done (by kernel_rfl) ?_ _
        refine NoPanic.normal ?_
        rw [HEQ.out] at hown
        have HE := Lib.hid (And.intro hown hb9)
        clear hown hb9 hg9
        go_wp2_with fail
        go_ret
        exact ⟨_, rfl, HE.out.1, HE.out.2⟩
      · have hmkd : decide (m ≤ k) = false := by simp; omega
        obtain ⟨mk, hmkk⟩ : ∃ z, m - k = z := ⟨_, rfl⟩
        have e1 : IntKind.i64.wrap ((m : Int) - (k : Int)) = (mk : Int) := by rw [IntWalk.i64_in _ (by omega)]; omega
        have hpe := hpg hmk
        rw [hmkk] at hpe
        have HPL : Hid ((partB (xs.drop k) mk false).length ≤ 20000) := Lib.hid (by have := partB_short (xs.drop k) mk false; omega)
        obtain ⟨PL, hPL⟩ : ∃ z, partB (xs.drop k) mk false = z := ⟨_, rfl⟩
        have PT : Hid (∀ W, Below w.heap.size w W → Calls Tryd.prog 40 #[.slice (some ⟨b, o + k, none⟩) (n - k) (c - k), .int .i64 mk, .bool false] W fun e w' => ∃ v, e = .returned v ∧ OwnL 9 encS w' w.heap.size v (partB (xs.drop k) mk false) ∧ Below W.heap.size W w' ∧ Below w.heap.size w w') := Lib.hid (fun W hb => by
          refine (ih (n - k) mk false _ (c - k) (xs.drop k) W (by omega) (by omega) ((hv.below hb).drop k _) hd (by omega) (by omega) (by omega) (fun x hx' => hx x (List.mem_of_mem_drop hx'))).mono ?_
          rintro e w' ⟨v, rfl, h1, h2⟩
          exact ⟨v, rfl, rebase h1 hb.size, h2, hb.trans (h2.mono hb.size)⟩)
        have RT : Hid (∀ W, Below w.heap.size w W → Calls Tryd.prog 19 #[.slice (some ⟨b, o, none⟩) k c] W fun e w' => e = .returned (.string ⟨(rootB (xs.take k)).toArray⟩) ∧ Below W.heap.size W w' ∧ Below w.heap.size w w') := Lib.hid (fun W hb => (rroot_any k k _ c (xs.take k) W (Nat.le_refl _) (by omega) ((hv.below hb).take k (by omega)) ht (by omega) (fun x hx' => hx x (List.mem_of_mem_take hx'))).mono (fun e w' hh => ⟨hh.1, hh.2, hb.trans (hh.2.mono hb.size)⟩))
        obtain ⟨R, hR⟩ : ∃ z, rootB (xs.take k) = z := ⟨_, rfl⟩
        rw [hPL] at PT hpe HPL
        rw [hR] at RT hpe
        obtain ⟨F, hF⟩ : ∃ z, partB xs m wh = z := ⟨_, rfl⟩
        rw [hF] at hpe ⊢
        have HEQ := Lib.hid hpe.symm
        clear hPL hR hpe hpl hpg ht hd hv hx ih hF hmkk hmk
        go_enter Tryd.func40, Tryd.ntmps40
        go_wp2_with fail
        refine LL.out.mono ?_
        rintro e w' ⟨rfl, rfl⟩
        go_wp2_with fail
        refine wp_region_noPanic ?_
        refine wp_region_held_drew (S := fun W => Below w.heap.size w W) (by kernel_rfl) (Below.refl _ _).drew (fun hHeld => ?_)
        refine wpAnyH_take (i := 0) (oi := ⟨_, _, _, _, _, _⟩) (v := ?_) rfl (by kernel_rfl) (by kernel_rfl) (by kernel_rfl) (fun _ _ _ h => h) (Or.inl ⟨by rfl, ?_⟩) (by assumption) ?_
        rotate_left
        · intro w hSw
          go_simp
          all_goals with_reducible rfl
        simp only [Act.put, List.setIfInBounds_toArray, List.set_cons_zero, List.set_cons_succ]
        refine wpAnyH_take (i := 1) (oi := ⟨_, _, _, _, _, _⟩) (v := ?_) rfl (by kernel_rfl) (by kernel_rfl) (by kernel_rfl) (fun _ _ _ h => h) (Or.inl ⟨by rfl, ?_⟩) (by assumption) ?_
        rotate_left
        · intro w hSw
          go_simp
          all_goals with_reducible rfl
        simp only [Act.put, List.setIfInBounds_toArray, List.set_cons_zero, List.set_cons_succ]
        refine wpAnyH_take (i := 2) (oi := ⟨_, _, _, _, _, _⟩) (v := ?_) rfl (by kernel_rfl) (by kernel_rfl) (by kernel_rfl) (fun _ _ _ h => h) (Or.inl ⟨by rfl, ?_⟩) (by assumption) ?_
        rotate_left
        · intro w hSw
          go_simp
          all_goals with_reducible rfl
        simp only [Act.put, List.setIfInBounds_toArray, List.set_cons_zero, List.set_cons_succ]
        refine wpAnyH_take (i := 3) (oi := ⟨_, _, _, _, _, _⟩) (v := ?_) rfl (by kernel_rfl) (by kernel_rfl) (by kernel_rfl) (fun _ _ _ h => h) (Or.inl ⟨by rfl, ?_⟩) (by assumption) ?_
        rotate_left
        · intro w hSw
          go_simp
          all_goals with_reducible rfl
        simp only [Act.put, List.setIfInBounds_toArray, List.set_cons_zero, List.set_cons_succ]
        refine wpAnyH_take (i := 4) (oi := ⟨_, _, _, _, _, _⟩) (v := ?_) rfl (by kernel_rfl) (by kernel_rfl) (by kernel_rfl) (fun _ _ _ h => h) (Or.inl ⟨by rfl, ?_⟩) (by assumption) ?_
        rotate_left
        · intro w hSw
          go_simp
          all_goals with_reducible rfl
        simp only [Act.put, List.setIfInBounds_toArray, List.set_cons_zero, List.set_cons_succ]
        refine wpAnyH_take (i := 5) (oi := ⟨_, _, _, _, _, _⟩) (v := ?_) rfl (by kernel_rfl) (by kernel_rfl) (by kernel_rfl) (fun _ _ _ h => h) (Or.inl ⟨by rfl, ?_⟩) (by assumption) ?_
        rotate_left
        · intro w hSw
          go_simp
          all_goals with_reducible rfl
        simp only [Act.put, List.setIfInBounds_toArray, List.set_cons_zero, List.set_cons_succ]
        refine wpAnyH_take (i := 7) (oi := ⟨_, _, _, _, _, _⟩) (v := ?_) rfl (by kernel_rfl) (by kernel_rfl) (by kernel_rfl) (fun _ _ _ h => h) (Or.inl ⟨by rfl, ?_⟩) (by assumption) ?_
        rotate_left
        · intro w hSw
          go_simp
          all_goals with_reducible rfl
        simp only [Act.put, List.setIfInBounds_toArray, List.set_cons_zero, List.set_cons_succ]
        refine wpAnyH_take (i := 8) (oi := ⟨_, _, _, _, _, _⟩) (v := ?_) rfl (by kernel_rfl) (by kernel_rfl) (by kernel_rfl) (fun _ _ _ h => h) (Or.inl ⟨by rfl, ?_⟩) (by assumption) ?_
        rotate_left
        · intro w hSw
          go_simp
          all_goals with_reducible rfl
        simp only [Act.put, List.setIfInBounds_toArray, List.set_cons_zero, List.set_cons_succ]
        refine wpAnyH_take (i := 9) (oi := ⟨_, _, _, _, _, _⟩) (v := ?_) rfl (by kernel_rfl) (by kernel_rfl) (by kernel_rfl) (fun _ _ _ h => h) (Or.inl ⟨by rfl, ?_⟩) (by assumption) ?_
        rotate_left
        · intro w hSw
          go_simp
          all_goals with_reducible rfl
        simp only [Act.put, List.setIfInBounds_toArray, List.set_cons_zero, List.set_cons_succ]
        refine wpAnyH_ready (rs := [6]) (by kernel_rfl) (by simp) ?_
        refine AllReadyH.cons (o := ⟨_, _, _, _, _, _⟩) rfl (fun K hK => ?_) AllReadyH.nil
        go_simp
        refine (PT.out _ (Below.refl _ _).drew).mono ?_
        rintro e Y ⟨v1, rfl, ho1, hY, hYB⟩
        go_wp2_with fail
        refine hK.out _ _ hYB (fun _ => ?_)
        clear hK K
        try simp only [Act.put, List.setIfInBounds_toArray, List.set_cons_zero, List.set_cons_succ]
        refine wpAnyH_ready (rs := [10]) (by kernel_rfl) (by simp) ?_
        refine AllReadyH.cons (o := ⟨_, _, _, _, _, _⟩) rfl (fun K hK => ?_) AllReadyH.nil
        go_simp
        refine (RT.out _ hYB).mono ?_
        rintro e Z ⟨rfl, hZ, hZB⟩
        go_wp2_with fail
        refine hK.out _ _ hZB (fun _ => ?_)
        clear hK K
        try simp only [Act.put, List.setIfInBounds_toArray, List.set_cons_zero, List.set_cons_succ]
        refine wpAnyH_ready (rs := [11]) (by kernel_rfl) (by simp) ?_
        refine AllReadyH.cons (o := ⟨_, _, _, _, _, _⟩) rfl (fun K hK => ?_) AllReadyH.nil
        go_simp
        refine hK.out _ _ (hZB.alloc hZB.size _) (fun _ => ?_)
        clear hK K
        try simp only [Act.put, List.setIfInBounds_toArray, List.set_cons_zero, List.set_cons_succ]
        refine wpAnyH_ready (rs := [12]) (by kernel_rfl) (by simp) ?_
        refine AllReadyH.cons (o := ⟨_, _, _, _, _, _⟩) rfl (fun K hK => ?_) AllReadyH.nil
        refine step_append_one rfl (.tmp 40) (.tmp 45) 22 rfl Tryd.underlying22 string_info rfl (by decide) rfl ((ho1.below hZ).below ((Below.refl _ _).alloc (Nat.le_refl _) (.cells #[.string ⟨R.toArray⟩] 9))) (Z.heap.size) 1 R rfl rfl (by rw [(RowAt.new Z 9 _).cell 0]; rfl) (by have := HPL.out; omega) ((hZB.alloc hZB.size (.cells #[.string ⟨R.toArray⟩] 9)).size) ?_
        intro v9 w9 hown hg9
        have hb9 : Below w.heap.size w w9 := (hZB.alloc hZB.size (.cells #[.string ⟨R.toArray⟩] 9)).grown hg9 (hZB.alloc hZB.size (.cells #[.string ⟨R.toArray⟩] 9)).size (fun j e => (OwnL.lt ((ho1.below hZ).below ((Below.refl _ _).alloc (Nat.le_refl _) (.cells #[.string ⟨R.toArray⟩] 9))) j e).1)
        refine hK.out _ _ hb9 (fun _ => ?_)
        clear hK K
        try simp only [Act.put, List.setIfInBounds_toArray, List.set_cons_zero, List.set_cons_succ]
        refine wpAnyH_take (i := 13) (oi := ⟨_, _, _, _, _, _⟩) (v := ?_) rfl (by kernel_rfl) (by kernel_rfl) (by kernel_rfl) (fun _ _ _ h => h) (Or.inl ⟨by rfl, ?_⟩) (by assumption) ?_
        rotate_left
        · intro w hSw
          go_simp
          all_goals with_reducible rfl
        simp only [Act.put, List.setIfInBounds_toArray, List.set_cons_zero, List.set_cons_succ]
        refine wpAnyH_done (by kernel_rfl) ?_ _
        refine NoPanic.normal ?_
        rw [HEQ.out] at hown
        have HE := Lib.hid (And.intro hown hb9)
        clear hown hb9 hg9
        go_wp2_with fail
        go_ret
        exact ⟨_, rfl, HE.out.1, HE.out.2⟩
end Go.Proofs.YtgmdjbhclihflaaDoor
