/- The law's sides. -/
import Derived.Test.YtgmdjbhclihflaaDoorDgWy
namespace Go.Proofs.YtgmdjbhclihflaaDoor
open Go Go.RowKit Go.Lib Go.Shelf
attribute [local go_sem] Oper.semAt_some

theorem sidesL_cnt : ∀ (rp : List (List UInt8)) (old : List UInt8) (m n : Nat) (wh : Bool), (sidesL rp old m n wh).1.length ≤ rp.length := by
  intro rp
  induction rp with
  | nil => intro old m n wh; simp [sidesL]
  | cons x r ih =>
    intro old m n wh
    by_cases h1 : n ≤ m
    · rw [sidesL_end h1]; simp
    · by_cases hi : m ≤ leftN n
      · rw [sidesL_le h1 hi]; have := ih old m (leftN n) wh; simp; omega
      · rw [sidesL_gt h1 hi]; have := ih old (m - leftN n) (n - leftN n) false; simp; omega
theorem sls_nil (w : World) : SlS w (.slice none 0 0) [] := .inl ⟨rfl, none, 0, rfl⟩
set_option maxRecDepth 100000 in
set_option maxHeartbeats 4000000 in
theorem sides_old (m n : Nat) (old : List UInt8) (wh : Bool) (A : Option Addr) (q c : Nat) (w : World) (h : (n ≤ m ∧ wh = true) ∨ q = 0) :
    Calls Tryd.prog 25 #[.string ⟨old.toArray⟩, .int .i64 m, .int .i64 n, .slice A q c, .bool wh] w fun e w' => e = .returned (.tuple #[.slice none 0 0, .string ⟨old.toArray⟩]) ∧ w = w' := by
  by_cases h1 : n ≤ m
  · have h1d : decide (n ≤ m) = true := by simp; omega
    cases wh with
    | true =>
      clear h
      go_enter Tryd.func25, Tryd.ntmps25
      go_wp2_with fail
      go_ret2
      exact ⟨rfl, rfl⟩
    | false =>
      have hq0 : q = 0 := by simpa using h
      subst hq0
      clear h
      go_enter Tryd.func25, Tryd.ntmps25
      go_wp2_with fail
      go_ret2
      exact ⟨rfl, rfl⟩
  · have h1d : decide (n ≤ m) = false := by simp; omega
    have hq0 : q = 0 := by omega
    subst hq0
    clear h
    cases wh with
    | true =>
      go_enter Tryd.func25, Tryd.ntmps25
      go_wp2_with fail
      go_ret2
      exact ⟨rfl, rfl⟩
    | false =>
      go_enter Tryd.func25, Tryd.ntmps25
      go_wp2_with fail
      go_ret2
      exact ⟨rfl, rfl⟩
set_option maxRecDepth 100000 in
set_option maxHeartbeats 4000000 in
theorem sides_first (m n : Nat) (old x : List UInt8) (b o q c : Nat) (w : World) (h : n ≤ m) (hq : 1 ≤ q) (hq2 : q ≤ 1000) (hx : w.cell? ⟨b, o, none⟩ = some (.string ⟨x.toArray⟩)) :
    Calls Tryd.prog 25 #[.string ⟨old.toArray⟩, .int .i64 m, .int .i64 n, .slice (some ⟨b, o, none⟩) q c, .bool false] w fun e w' => e = .returned (.tuple #[.slice none 0 0, .string ⟨x.toArray⟩]) ∧ ∃ k, w.drewN k = w' := by
  have h1d : decide (n ≤ m) = true := by simp; omega
  have hn0 : ((q : Int) == 0) = false := by rw [beq_eq_false_iff_ne]; omega
  have hq0 : (0 : Int) < (q : Int) := by omega
  have hq1 : 0 < q := by omega
  go_enter Tryd.func25, Tryd.ntmps25
  go_wp2_with fail
  go_quiet (fail)
  go_wp2_with fail
  go_ret2
  exact ⟨rfl, _, rfl⟩
set_option maxRecDepth 100000 in
set_option maxHeartbeats 4000000 in
theorem sides_any : ∀ (q m n : Nat) (old : List UInt8) (wh : Bool) (A : Option Addr) (c : Nat) (pr : List (List UInt8)) (w : World), SlS w (.slice A q c) pr → pr.length = q → q ≤ c → q ≤ 1000 → 1 ≤ m → n ≤ 9223372036854775807 → m ≤ 9223372036854775807 → old.length ≤ 10000 → (∀ x ∈ pr, x.length ≤ 10000) → KAt w →
    Calls Tryd.prog 25 #[.string ⟨old.toArray⟩, .int .i64 m, .int .i64 n, .slice A q c, .bool wh] w fun e w' => ∃ v, e = .returned (.tuple #[v, .string ⟨(sidesL pr.reverse old m n wh).2.toArray⟩]) ∧ SlS w' v (sidesL pr.reverse old m n wh).1 ∧ Below w.heap.size w w' := by
  intro q
  induction q with
  | zero =>
    intro m n old wh A c pr w hv hq hc hq2 hm1 hn hm ho hx hK
    have hp0 : pr = [] := List.length_eq_zero_iff.1 hq
    subst hp0
    refine (sides_old m n old wh A 0 c w (.inr rfl)).mono ?_
    rintro e w' ⟨rfl, rfl⟩
    exact ⟨_, rfl, sls_nil _, Below.refl _ _⟩
  | succ q ih =>
    intro m n old wh A c pr w hv hq hc hq2 hm1 hn hm ho hx hK
    by_cases h1 : n ≤ m
    · obtain ⟨x, hxq, hrev⟩ := rev_snoc hq
      rw [hrev, sidesL_end h1]
      cases wh with
      | true =>
        refine (sides_old m n old true A (q + 1) c w (.inl ⟨h1, rfl⟩)).mono ?_
        rintro e w' ⟨rfl, rfl⟩
        exact ⟨_, rfl, sls_nil _, Below.refl _ _⟩
      | false =>
        obtain ⟨y, hy⟩ : ∃ y, pr[0]? = some y := ⟨_, List.getElem?_eq_getElem (by omega)⟩
        obtain ⟨b, o, rfl, hlt, hcx⟩ := hv.get hy
        have hlast : (x :: (pr.take q).reverse).getLast (by simp) = y := by
          have h := List.getLast_eq_iff_getLast?_eq_some (xs := x :: (pr.take q).reverse) (a := y) (by simp)
          rw [h, ← hrev, List.getLast?_reverse, List.head?_eq_getElem?, hy]
        refine (sides_first m n old y b o (q + 1) c w h1 (by omega) hq2 hcx).mono ?_
        rintro e w' ⟨rfl, k, rfl⟩
        refine ⟨_, by rw [hlast]; rfl, sls_nil _, (by have h := Below.refl w.heap.size w; exact ⟨h.os, h.tape, h.output, h.size, h.block⟩)⟩
    · obtain ⟨x, hxq, hrev⟩ := rev_snoc hq
      rw [hrev]
      obtain ⟨b1, b2, b3⟩ := leftN_bd (show 2 ≤ n by omega) hn
      have hw1 := fun hi => sidesL_le (x := x) (r := (pr.take q).reverse) (old := old) (m := m) (wh := wh) h1 hi
      have hw2 := fun hi => sidesL_gt (x := x) (r := (pr.take q).reverse) (old := old) (m := m) (wh := wh) h1 hi
      have LL := Lib.hid (lleft_any n w (by omega) hn)
      obtain ⟨k, hk⟩ : ∃ k, leftN n = k := ⟨_, rfl⟩
      rw [hk] at b1 b2 b3 hw1 hw2 LL
      clear hk
      obtain ⟨bb, o, hA, hlt, hcx⟩ := hv.get hxq
      subst hA
      have hvt := hv.take q (by omega)
      have hpl : (pr.take q).length = q := by rw [List.length_take]; omega
      have hxl : x.length ≤ 10000 := hx x (List.mem_of_getElem? hxq)
      have hx' : ∀ z ∈ pr.take q, z.length ≤ 10000 := fun z hz => hx z (List.mem_of_mem_take hz)
      have h1d : decide (n ≤ m) = false := by simp; omega
      obtain ⟨p, hp⟩ : ∃ p, q + 1 = p := ⟨_, rfl⟩
      rw [hp] at hv hq hc hq2 ⊢
      have hn0 : ((p : Int) == 0) = false := by rw [beq_eq_false_iff_ne]; omega
      have e1 : IntKind.i64.wrap ((p : Int) - 1) = (q : Int) := by rw [IntWalk.i64_in _ (by omega)]; omega
      have qc : q ≤ c := by omega
      have hqn : (q : Int) < (p : Int) := by omega
      have hqn2 : q < p := by omega
      clear hlt
      have HP := Lib.hid hp
      clear hp
      by_cases hik : m ≤ k
      · have IH := Lib.hid (ih m k old wh (some ⟨bb, o, none⟩) c (pr.take q) w hvt hpl (by omega) (by omega) (by omega) (by omega) (by omega) ho hx' hK)
        rw [hw1 hik]
        have hvl : (sidesL (pr.take q).reverse old m k wh).2.length ≤ 10000 := sidesL_len _ _ _ _ _ 10000 (by omega) ho (fun z hz => hx' z (List.mem_reverse.1 hz))
        have hrl : (sidesL (pr.take q).reverse old m k wh).1.length ≤ q + 1 := by have := sidesL_cnt (pr.take q).reverse old m k wh; rw [List.length_reverse, hpl] at this; omega
        obtain ⟨V, hV⟩ : ∃ z, (sidesL (pr.take q).reverse old m k wh).2 = z := ⟨_, rfl⟩
        obtain ⟨L, hL⟩ : ∃ z, (sidesL (pr.take q).reverse old m k wh).1 = z := ⟨_, rfl⟩
        rw [hV, hL] at IH
        rw [hV] at hvl
        rw [hL] at hrl
        rw [hV, hL]
        obtain ⟨R, hR⟩ : ∃ z, nodeB V x = z := ⟨_, rfl⟩
        have NB : Hid (∀ W, Below w.heap.size w W → Calls Tryd.prog 29 #[.string ⟨V.toArray⟩, .string ⟨x.toArray⟩] W fun e w' => e = .returned (.string ⟨R.toArray⟩) ∧ Below W.heap.size W w') := Lib.hid (fun W hb => by
          rw [← hR]; exact node_any V x W (by omega) (by omega) (hK.below hb))
        rw [hR]
        have happ1 := append_list [1] V
        have happ2 := append_list (1 :: V) x
        have hcat : ¬ 9223372036854775807 < 1 + V.length := by omega
        have hcat2 : ¬ 9223372036854775807 < V.length + 1 + x.length := by omega
        have hikd : decide (m ≤ k) = true := by simp; omega
        have HR := Lib.hid hrl
        clear hw1 hw2 ih hV hL hR hv hvt hx hx' hK hxq hrev hpl hq hrl
        go_enter Tryd.func25, Tryd.ntmps25
        go_wp2_with fail
        refine LL.out.mono ?_
        rintro e w' ⟨rfl, rfl⟩
        go_wp2_with fail
        refine IH.out.mono ?_
        rintro e Y ⟨v, rfl, hsv, hy⟩
        have HY := Lib.hid (And.intro hsv hy)
        clear hsv hy
        go_wp2_with (first | ((with_reducible refine wpList_stop (o := ⟨some 68, _, _, _, _, _⟩) ?_)))
        unfold Stop
        refine wpList_append_strs (.tmp 66) (.tmp 67) Y.heap.size [(1 :: (V ++ x))] L _ _ (own_oneL _ _) (HY.out.1.below ((Below.refl _ _).alloc (Nat.le_refl _) _)) (by have := HR.out; simp; omega) (by simp) rfl rfl rfl rfl (fun v3 W3 ho3 hg3 => ?_)
        have b3 : Below Y.heap.size Y W3 := ((Below.refl Y.heap.size Y).alloc (Nat.le_refl _) _).grown hg3 (by simp) (fun j e => by simp [Value.ownBlock] at e; omega)
        have H3 := Lib.hid (And.intro ho3.sls (HY.out.2.trans (b3.mono HY.out.2.size)))
        clear ho3 hg3 b3
        go_wp2_with fail
        refine (NB.out W3 H3.out.2).mono ?_
        rintro e Z ⟨rfl, hz⟩
        have HZ := Lib.hid hz
        clear hz
        go_wp2_with fail
        go_ret2
        exact ⟨_, rfl, H3.out.1.below HZ.out, H3.out.2.trans (HZ.out.mono H3.out.2.size)⟩
      · have IH := Lib.hid (ih (m - k) (n - k) old false (some ⟨bb, o, none⟩) c (pr.take q) w hvt hpl (by omega) (by omega) (by omega) (by omega) (by omega) ho hx' hK)
        rw [hw2 hik]
        have e2 : IntKind.i64.wrap ((n : Int) - (k : Int)) = ((n - k : Nat) : Int) := by rw [IntWalk.i64_in _ (by omega)]; omega
        have e3 : IntKind.i64.wrap ((m : Int) - (k : Int)) = ((m - k : Nat) : Int) := by rw [IntWalk.i64_in _ (by omega)]; omega
        obtain ⟨nk, hnk⟩ : ∃ z, n - k = z := ⟨_, rfl⟩
        obtain ⟨mk, hmk2⟩ : ∃ z, m - k = z := ⟨_, rfl⟩
        rw [hnk] at IH e2
        rw [hmk2] at IH e3
        rw [hnk, hmk2]
        clear hnk hmk2
        have hvl : (sidesL (pr.take q).reverse old mk nk false).2.length ≤ 10000 := sidesL_len _ _ _ _ _ 10000 (by omega) ho (fun z hz => hx' z (List.mem_reverse.1 hz))
        have hrl : (sidesL (pr.take q).reverse old mk nk false).1.length ≤ q + 1 := by have := sidesL_cnt (pr.take q).reverse old mk nk false; rw [List.length_reverse, hpl] at this; omega
        obtain ⟨V, hV⟩ : ∃ z, (sidesL (pr.take q).reverse old mk nk false).2 = z := ⟨_, rfl⟩
        obtain ⟨L, hL⟩ : ∃ z, (sidesL (pr.take q).reverse old mk nk false).1 = z := ⟨_, rfl⟩
        rw [hV, hL] at IH
        rw [hV] at hvl
        rw [hL] at hrl
        rw [hV, hL]
        obtain ⟨R, hR⟩ : ∃ z, nodeB x V = z := ⟨_, rfl⟩
        have NB : Hid (∀ W, Below w.heap.size w W → Calls Tryd.prog 29 #[.string ⟨x.toArray⟩, .string ⟨V.toArray⟩] W fun e w' => e = .returned (.string ⟨R.toArray⟩) ∧ Below W.heap.size W w') := Lib.hid (fun W hb => by
          rw [← hR]; exact node_any x V W (by omega) (by omega) (hK.below hb))
        rw [hR]
        have happ1 := append_list [1] x
        have happ2 := append_list (1 :: x) V
        have hcat : ¬ 9223372036854775807 < 1 + x.length := by omega
        have hcat2 : ¬ 9223372036854775807 < x.length + 1 + V.length := by omega
        have hikd : decide (m ≤ k) = false := by simp; omega
        have HR := Lib.hid hrl
        clear hw1 hw2 ih hV hL hR hv hvt hx hx' hK hxq hrev hpl hq hrl
        go_enter Tryd.func25, Tryd.ntmps25
        go_wp2_with fail
        refine LL.out.mono ?_
        rintro e w' ⟨rfl, rfl⟩
        go_wp2_with fail
        refine IH.out.mono ?_
        rintro e Y ⟨v, rfl, hsv, hy⟩
        have HY := Lib.hid (And.intro hsv hy)
        clear hsv hy
        go_wp2_with (first | ((with_reducible refine wpList_stop (o := ⟨some 90, _, _, _, _, _⟩) ?_)))
        unfold Stop
        refine wpList_append_strs (.tmp 88) (.tmp 89) Y.heap.size [(1 :: (x ++ V))] L _ _ (own_oneL _ _) (HY.out.1.below ((Below.refl _ _).alloc (Nat.le_refl _) _)) (by have := HR.out; simp; omega) (by simp) rfl rfl rfl rfl (fun v3 W3 ho3 hg3 => ?_)
        have b3 : Below Y.heap.size Y W3 := ((Below.refl Y.heap.size Y).alloc (Nat.le_refl _) _).grown hg3 (by simp) (fun j e => by simp [Value.ownBlock] at e; omega)
        have H3 := Lib.hid (And.intro ho3.sls (HY.out.2.trans (b3.mono HY.out.2.size)))
        clear ho3 hg3 b3
        go_wp2_with fail
        refine (NB.out W3 H3.out.2).mono ?_
        rintro e Z ⟨rfl, hz⟩
        have HZ := Lib.hid hz
        clear hz
        go_wp2_with fail
        go_ret2
        exact ⟨_, rfl, H3.out.1.below HZ.out, H3.out.2.trans (HZ.out.mono H3.out.2.size)⟩
end Go.Proofs.YtgmdjbhclihflaaDoor
