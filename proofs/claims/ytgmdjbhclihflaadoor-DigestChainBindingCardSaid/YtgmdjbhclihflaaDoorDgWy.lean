/- The law's way. -/
import Derived.Test.YtgmdjbhclihflaaDoorDgCo
namespace Go.Proofs.YtgmdjbhclihflaaDoor
open Go Go.RowKit Go.Lib Go.Shelf
attribute [local go_sem] Oper.semAt_some

theorem own_oneL (w : World) (y : List UInt8) : OwnL 9 encS (w.alloc (.cells #[.string ⟨y.toArray⟩] 9)) w.heap.size (.slice (some ⟨w.heap.size, 0, none⟩) 1 1) [y] :=
  ⟨by simp, .inr ⟨w.heap.size, 1, #[.string ⟨y.toArray⟩], rfl, Nat.le_refl _, heap_alloc_last w _, Nat.le_refl _, by unfold maxLen; omega, by simp, by simp [encS]⟩⟩
theorem rev_snoc {pr : List (List UInt8)} {q : Nat} (h : pr.length = q + 1) : ∃ x, pr[q]? = some x ∧ pr.reverse = x :: (pr.take q).reverse := by
  obtain ⟨x, hx⟩ : ∃ x, pr[q]? = some x := ⟨_, List.getElem?_eq_getElem (by omega)⟩
  exact ⟨x, hx, rev_take pr hx h⟩
theorem wayL_cnt : ∀ (rp : List (List UInt8)) (n i : Nat) (s : List UInt8), (wayL rp n i s).1.length ≤ rp.length + 1 := by
  intro rp
  induction rp with
  | nil => intro n i s; simp [wayL]
  | cons x r ih =>
    intro n i s
    by_cases h1 : n ≤ 1
    · rw [wayL_one (.inl h1)]; simp
    · by_cases hi : i < leftN n
      · rw [wayL_lt h1 hi]; have := ih (leftN n) i s; simp; omega
      · rw [wayL_ge h1 hi]; have := ih (n - leftN n) (i - leftN n) s; simp; omega
set_option maxRecDepth 100000 in
set_option maxHeartbeats 4000000 in
theorem way_one (n i : Nat) (s : List UInt8) (A : Option Addr) (q c : Nat) (w : World) (h : n ≤ 1 ∨ q = 0) (hs : s.length ≤ 10000) (hK : KAt w) :
    Calls Tryd.prog 23 #[.int .i64 n, .int .i64 i, .string ⟨s.toArray⟩, .slice A q c] w fun e w' => ∃ v, e = .returned (.tuple #[v, .string ⟨(leafB s).toArray⟩]) ∧ SlS w' v [0 :: s] ∧ Below w.heap.size w w' := by
  obtain ⟨R, hR⟩ : ∃ R, leafB s = R := ⟨_, rfl⟩
  rw [hR]
  have LF : Hid (∀ W, Below w.heap.size w W → Calls Tryd.prog 26 #[.string ⟨s.toArray⟩] W fun e w' => e = .returned (.string ⟨R.toArray⟩) ∧ Below W.heap.size W w') := Lib.hid (fun W hb => by
    rw [← hR]; exact leaf_any s W (by omega) (hK.below hb))
  have happ := append_list [0] s
  have hcat : ¬ 9223372036854775807 < 1 + s.length := by omega
  have OW := Lib.hid (own_oneL w (0 :: s)).sls
  have BW : Hid (Below w.heap.size w (w.alloc (.cells #[.string ⟨(0 :: s).toArray⟩] 9))) := Lib.hid ((Below.refl _ _).alloc (Nat.le_refl _) _)
  clear hR hK
  by_cases h1 : n ≤ 1
  · have h1d : decide (n ≤ 1) = true := by simp; omega
    clear h
    go_enter Tryd.func23, Tryd.ntmps23
    go_wp2_with fail
    refine (LF.out _ BW.out).mono ?_
    rintro e Y ⟨rfl, hy⟩
    have HY := Lib.hid hy
    clear hy
    go_wp2_with fail
    go_ret2
    exact ⟨_, rfl, OW.out.below HY.out, BW.out.trans (HY.out.mono BW.out.size)⟩
  · have h1d : decide (n ≤ 1) = false := by simp; omega
    have hq0 : q = 0 := by omega
    subst hq0
    clear h
    go_enter Tryd.func23, Tryd.ntmps23
    go_wp2_with fail
    refine (LF.out _ BW.out).mono ?_
    rintro e Y ⟨rfl, hy⟩
    have HY := Lib.hid hy
    clear hy
    go_wp2_with fail
    go_ret2
    exact ⟨_, rfl, OW.out.below HY.out, BW.out.trans (HY.out.mono BW.out.size)⟩
set_option maxRecDepth 100000 in
set_option maxHeartbeats 4000000 in
theorem way_any : ∀ (q n i : Nat) (s : List UInt8) (A : Option Addr) (c : Nat) (pr : List (List UInt8)) (w : World), SlS w (.slice A q c) pr → pr.length = q → q ≤ c → q ≤ 1000 → n ≤ 9223372036854775807 → i ≤ 9223372036854775807 → s.length ≤ 10000 → (∀ x ∈ pr, x.length ≤ 10000) → KAt w →
    Calls Tryd.prog 23 #[.int .i64 n, .int .i64 i, .string ⟨s.toArray⟩, .slice A q c] w fun e w' => ∃ v, e = .returned (.tuple #[v, .string ⟨(wayL pr.reverse n i s).2.toArray⟩]) ∧ SlS w' v (wayL pr.reverse n i s).1 ∧ Below w.heap.size w w' := by
  intro q
  induction q with
  | zero =>
    intro n i s A c pr w hv hq hc hq2 hn hi hs hx hK
    have hp0 : pr = [] := List.length_eq_zero_iff.1 hq
    subst hp0
    exact way_one n i s A 0 c w (.inr rfl) hs hK
  | succ q ih =>
    intro n i s A c pr w hv hq hc hq2 hn hi hs hx hK
    by_cases h1 : n ≤ 1
    · rw [wayL_one (.inl h1)]
      exact way_one n i s A (q + 1) c w (.inl h1) hs hK
    · obtain ⟨x, hxq, hrev⟩ := rev_snoc hq
      rw [hrev]
      obtain ⟨b1, b2, b3⟩ := leftN_bd (show 2 ≤ n by omega) hn
      have hw1 := fun hi => wayL_lt (x := x) (r := (pr.take q).reverse) (s := s) (i := i) h1 hi
      have hw2 := fun hi => wayL_ge (x := x) (r := (pr.take q).reverse) (s := s) (i := i) h1 hi
      have LL := Lib.hid (lleft_any n w (by omega) hn)
      obtain ⟨k, hk⟩ : ∃ k, leftN n = k := ⟨_, rfl⟩
      rw [hk] at b1 b2 b3 hw1 hw2 LL
      clear hk
      obtain ⟨bb, o, hA, hlt, hcx⟩ := hv.get hxq
      subst hA
      have hvt := hv.take q (by omega)
      have hpl : (pr.take q).length = q := by rw [List.length_take]; omega
      have hxl : x.length ≤ 10000 := hx x (List.mem_of_getElem? hxq)
      have hx' : ∀ z ∈ pr.take q, z.length ≤ 10000 := fun z hz => hx z (List.mem_of_mem_take hz)
      have h1d : decide (n ≤ 1) = false := by simp; omega
      obtain ⟨p, hp⟩ : ∃ p, q + 1 = p := ⟨_, rfl⟩
      rw [hp] at hv hq hc hq2 ⊢
      have hn0 : ((p : Int) == 0) = false := by rw [beq_eq_false_iff_ne]; omega
      have e1 : IntKind.i64.wrap ((p : Int) - 1) = (q : Int) := by rw [IntWalk.i64_in _ (by omega)]; omega
      have qc : q ≤ c := by omega
      have hqn : (q : Int) < (p : Int) := by omega
      have hqn2 : q < p := by omega
      clear hlt
      have HP := Lib.hid hp
      clear hp
      by_cases hik : i < k
      · have IH := Lib.hid (ih k i s (some ⟨bb, o, none⟩) c (pr.take q) w hvt hpl (by omega) (by omega) (by omega) (by omega) hs hx' hK)
        rw [hw1 hik]
        have hvl : (wayL (pr.take q).reverse k i s).2.length = 32 := wayL_len _ _ _ _
        have hrl : (wayL (pr.take q).reverse k i s).1.length ≤ q + 1 := by have := wayL_cnt (pr.take q).reverse k i s; rw [List.length_reverse, hpl] at this; exact this
        obtain ⟨V, hV⟩ : ∃ z, (wayL (pr.take q).reverse k i s).2 = z := ⟨_, rfl⟩
        obtain ⟨L, hL⟩ : ∃ z, (wayL (pr.take q).reverse k i s).1 = z := ⟨_, rfl⟩
        rw [hV, hL] at IH
        rw [hV] at hvl
        rw [hL] at hrl
        rw [hV, hL]
        obtain ⟨R, hR⟩ : ∃ z, nodeB V x = z := ⟨_, rfl⟩
        have NB : Hid (∀ W, Below w.heap.size w W → Calls Tryd.prog 29 #[.string ⟨V.toArray⟩, .string ⟨x.toArray⟩] W fun e w' => e = .returned (.string ⟨R.toArray⟩) ∧ Below W.heap.size W w') := Lib.hid (fun W hb => by
          rw [← hR]; exact node_any V x W (by omega) (by omega) (hK.below hb))
        rw [hR]
        have happ1 := append_list [1] V
        have happ2 := append_list (1 :: V) x
        have hcat : ¬ 9223372036854775807 < 1 + V.length := by omega
        have hcat2 : ¬ 9223372036854775807 < V.length + 1 + x.length := by omega
        have hikd : decide (i < k) = true := by simp; omega
        have HR := Lib.hid hrl
        clear hw1 hw2 ih hV hL hR hv hvt hx hx' hK hxq hrev hpl hi hq hrl
        go_enter Tryd.func23, Tryd.ntmps23
        go_wp2_with fail
        refine LL.out.mono ?_
        rintro e w' ⟨rfl, rfl⟩
        go_wp2_with fail
        refine IH.out.mono ?_
        rintro e Y ⟨v, rfl, hsv, hy⟩
        have HY := Lib.hid (And.intro hsv hy)
        clear hsv hy
        go_wp2_with (first | ((with_reducible refine wpList_stop (o := ⟨some 59, _, _, _, _, _⟩) ?_)))
        unfold Stop
        obtain ⟨y, hyy⟩ : ∃ z, (1 :: (V ++ x)) = z := ⟨_, rfl⟩
        have by1 : Below Y.heap.size Y (Y.alloc (.cells #[.string ⟨y.toArray⟩] 9)) := (Below.refl _ _).alloc (Nat.le_refl _) _
        refine wpList_append_strs (.tmp 57) (.tmp 58) Y.heap.size [(1 :: (V ++ x))] L _ _ (own_oneL _ _) (HY.out.1.below ((Below.refl _ _).alloc (Nat.le_refl _) _)) (by have := HR.out; simp; omega) (by simp) rfl rfl rfl rfl (fun v3 W3 ho3 hg3 => ?_)
        have b3 : Below Y.heap.size Y W3 := ((Below.refl Y.heap.size Y).alloc (Nat.le_refl _) _).grown hg3 (by simp) (fun j e => by simp [Value.ownBlock] at e; omega)
        have H3 := Lib.hid (And.intro ho3.sls (HY.out.2.trans (b3.mono HY.out.2.size)))
        clear ho3 hg3 b3 by1 hyy
        go_wp2_with fail
        refine (NB.out W3 H3.out.2).mono ?_
        rintro e Z ⟨rfl, hz⟩
        have HZ := Lib.hid hz
        clear hz
        go_wp2_with fail
        go_ret2
        exact ⟨_, rfl, H3.out.1.below HZ.out, H3.out.2.trans (HZ.out.mono H3.out.2.size)⟩
      · have IH := Lib.hid (ih (n - k) (i - k) s (some ⟨bb, o, none⟩) c (pr.take q) w hvt hpl (by omega) (by omega) (by omega) (by omega) hs hx' hK)
        rw [hw2 hik]
        have e2 : IntKind.i64.wrap ((n : Int) - (k : Int)) = ((n - k : Nat) : Int) := by rw [IntWalk.i64_in _ (by omega)]; omega
        have e3 : IntKind.i64.wrap ((i : Int) - (k : Int)) = ((i - k : Nat) : Int) := by rw [IntWalk.i64_in _ (by omega)]; omega
        obtain ⟨nk, hnk⟩ : ∃ z, n - k = z := ⟨_, rfl⟩
        obtain ⟨ik, hik2⟩ : ∃ z, i - k = z := ⟨_, rfl⟩
        rw [hnk] at IH e2
        rw [hik2] at IH e3
        rw [hnk, hik2]
        clear hnk hik2
        have hvl : (wayL (pr.take q).reverse nk ik s).2.length = 32 := wayL_len _ _ _ _
        have hrl : (wayL (pr.take q).reverse nk ik s).1.length ≤ q + 1 := by have := wayL_cnt (pr.take q).reverse nk ik s; rw [List.length_reverse, hpl] at this; exact this
        obtain ⟨V, hV⟩ : ∃ z, (wayL (pr.take q).reverse nk ik s).2 = z := ⟨_, rfl⟩
        obtain ⟨L, hL⟩ : ∃ z, (wayL (pr.take q).reverse nk ik s).1 = z := ⟨_, rfl⟩
        rw [hV, hL] at IH
        rw [hV] at hvl
        rw [hL] at hrl
        rw [hV, hL]
        obtain ⟨R, hR⟩ : ∃ z, nodeB x V = z := ⟨_, rfl⟩
        have NB : Hid (∀ W, Below w.heap.size w W → Calls Tryd.prog 29 #[.string ⟨x.toArray⟩, .string ⟨V.toArray⟩] W fun e w' => e = .returned (.string ⟨R.toArray⟩) ∧ Below W.heap.size W w') := Lib.hid (fun W hb => by
          rw [← hR]; exact node_any x V W (by omega) (by omega) (hK.below hb))
        rw [hR]
        have happ1 := append_list [1] x
        have happ2 := append_list (1 :: x) V
        have hcat : ¬ 9223372036854775807 < 1 + x.length := by omega
        have hcat2 : ¬ 9223372036854775807 < x.length + 1 + V.length := by omega
        have hikd : decide (i < k) = false := by simp; omega
        have HR := Lib.hid hrl
        clear hw1 hw2 ih hV hL hR hv hvt hx hx' hK hxq hrev hpl hi hq hrl
        go_enter Tryd.func23, Tryd.ntmps23
        go_wp2_with fail
        refine LL.out.mono ?_
        rintro e w' ⟨rfl, rfl⟩
        go_wp2_with fail
        refine IH.out.mono ?_
        rintro e Y ⟨v, rfl, hsv, hy⟩
        have HY := Lib.hid (And.intro hsv hy)
        clear hsv hy
        go_wp2_with (first | ((with_reducible refine wpList_stop (o := ⟨some 81, _, _, _, _, _⟩) ?_)))
        unfold Stop
        obtain ⟨y, hyy⟩ : ∃ z, (1 :: (x ++ V)) = z := ⟨_, rfl⟩
        have by1 : Below Y.heap.size Y (Y.alloc (.cells #[.string ⟨y.toArray⟩] 9)) := (Below.refl _ _).alloc (Nat.le_refl _) _
        refine wpList_append_strs (.tmp 79) (.tmp 80) Y.heap.size [(1 :: (x ++ V))] L _ _ (own_oneL _ _) (HY.out.1.below ((Below.refl _ _).alloc (Nat.le_refl _) _)) (by have := HR.out; simp; omega) (by simp) rfl rfl rfl rfl (fun v3 W3 ho3 hg3 => ?_)
        have b3 : Below Y.heap.size Y W3 := ((Below.refl Y.heap.size Y).alloc (Nat.le_refl _) _).grown hg3 (by simp) (fun j e => by simp [Value.ownBlock] at e; omega)
        have H3 := Lib.hid (And.intro ho3.sls (HY.out.2.trans (b3.mono HY.out.2.size)))
        clear ho3 hg3 b3 by1 hyy
        go_wp2_with fail
        refine (NB.out W3 H3.out.2).mono ?_
        rintro e Z ⟨rfl, hz⟩
        have HZ := Lib.hid hz
        clear hz
        go_wp2_with fail
        go_ret2
        exact ⟨_, rfl, H3.out.1.below HZ.out, H3.out.2.trans (HZ.out.mono H3.out.2.size)⟩
end Go.Proofs.YtgmdjbhclihflaaDoor
