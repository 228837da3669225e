/- DigestSplit. -/
import Derived.Test.YtgmdjbhclihflaaDoorDgLe
namespace Go.Proofs.YtgmdjbhclihflaaDoor
open Go Go.RowKit Go.Lib Go.Shelf
attribute [local go_sem] Oper.semAt_some

theorem ext_any (A : Option Addr) (n c : Nat) (j : Nat) (xs : List (List UInt8)) (w : World) (hv : SlS w (.slice A n c) xs) (hxn : xs.length = n) (hnc : n ≤ c) (hn : n ≤ 5000) (hj : j ≤ n) (hx : ∀ x ∈ xs, x.length ≤ 10000) (hK : KAt w) :
    Calls Tryd.prog 15 #[.slice A n c, .int .i64 j] w fun e w' => ∃ A' n' c', e = .returned (.tuple #[.slice A' n' c', .int .i64 0]) ∧ n' ≤ c' ∧ SlS w' (.slice A' n' c') (extB xs j) ∧ (extB xs j).length = n' ∧ Below w.heap.size w w' := by
  by_cases h0 : j = 0
  · subst h0
    refine (ext_zero A n c w).mono ?_
    rintro e w' ⟨rfl, rfl⟩
    exact ⟨none, 0, 0, rfl, Nat.le_refl _, .inl ⟨rfl, _, _, rfl⟩, rfl, Below.refl _ _⟩
  · exact ext_in A n c j xs w hv hxn hnc hn (by omega) hj hx hK
/-- the extension that was made is accepted -/
theorem vext_made (l : List (List UInt8)) (m : Nat) (A : Option Addr) (q c : Nat) (w : World) (hl : l.length ≤ 5000) (hm : m ≤ l.length) (hv : SlS w (.slice A q c) (extB l m)) (hq : (extB l m).length = q) (hqc : q ≤ c) (hb : q ≤ 5000) (hK : KAt w) :
    Calls Tryd.prog 22 #[.string ⟨(rootB (l.take m)).toArray⟩, .int .i64 m, .string ⟨(rootB l).toArray⟩, .int .i64 l.length, .slice A q c] w fun e w' => e = .returned (.bool true) ∧ Below w.heap.size w w' := by
  have ha := extB_digs l m
  have h1 := rootB_len (l.take m)
  have h2 := rootB_len l
  by_cases h0 : m = 0
  · subst h0
    refine (vext_zero (rootB (l.take 0)) (rootB l) l.length A q c _ w hv hq hb ha h1 h2 hK).mono ?_
    rintro e w' ⟨rfl, hx⟩
    refine ⟨?_, hx⟩
    rw [show extB l 0 = [] from rfl, show rootB (l.take 0) = shaB [] from by rw [List.take_zero]; rfl]
    simp
  · by_cases hmn : m = l.length
    · subst hmn
      have hv2 := extB_ver (l := l) (m := l.length) (by omega) (by omega) (Nat.le_refl _)
      refine (vext_eq (rootB (l.take l.length)) (rootB l) l.length (by omega) A q c _ w hv hq hb ha h1 h2).mono ?_
      rintro e w' ⟨rfl, rfl⟩
      refine ⟨?_, Below.refl _ _⟩
      obtain ⟨f, hf⟩ : ∃ f, l.length = f + 1 := ⟨l.length - 1, by omega⟩
      have he : extB l l.length = [] := by
        unfold extB
        rw [if_neg h0, hf, partL, if_pos (by omega), if_pos rfl]
        rfl
      rw [he, List.take_length]
      simp
    · refine (vext_in (rootB (l.take m)) (rootB l) m l.length (by omega) (by omega) (by omega) A q c _ w hv hq hqc hb ha h1 h2 hK).mono ?_
      rintro e w' ⟨rfl, hx⟩
      refine ⟨?_, hx⟩
      rw [extB_ver (by omega) (by omega) hm]
      simp
theorem partL_short : ∀ (f : Nat) (l : List (List UInt8)) (m : Nat) (wh : Bool), (partL f l m wh).length ≤ f := by
  intro f
  induction f with
  | zero => intro l m wh; simp [partL]
  | succ f ih =>
    intro l m wh
    rw [partL]
    split
    · split <;> simp
    · split <;> exact Nat.succ_le_succ (ih _ _ _)
theorem extB_short (l : List (List UInt8)) (m : Nat) (h : l.length ≤ 5000) : (extB l m).length ≤ 5000 := by
  unfold extB
  split
  · simp
  · rw [List.length_reverse]; have := partL_short l.length l m true; omega
set_option maxRecDepth 100000 in
set_option maxHeartbeats 4000000 in
theorem split_yes (v : Value) (xs : List (List UInt8)) (s : List UInt8) (w : World) (hv : SlS w v xs) (hn : xs.length ≤ 9223372036854775807) (hK : KAt w) :
    Calls Tryd.prog 8 #[v, .string ⟨s.toArray⟩] w fun e w' => e = .returned (.bool true) ∧ Below w.heap.size w w' := by
  have HK := Lib.hid hK
  have HV := Lib.hid hv
  have SN := Lib.hid (sane_any w hK)
  have FW := Lib.hid (fun W (hb : Below w.heap.size w W) => few_any v xs 40 W (hv.below hb) hn (by omega))
  clear hK hv
  obtain ⟨l, hl⟩ : ∃ l, (xs.take 40).map (·.take 60) = l := ⟨_, rfl⟩
  rw [hl] at FW
  have hll : l.length ≤ 40 := by rw [← hl, List.length_map, List.length_take]; omega
  have hlx : ∀ x ∈ l, x.length ≤ 60 := by
    rw [← hl]; intro x hx; obtain ⟨y, _, rfl⟩ := List.mem_map.1 hx; rw [List.length_take]; omega
  have HLX := Lib.hid hlx
  obtain ⟨m, r, hm1, hm2, hr, hex, hrl, hmin⟩ := cut_ex ⟨s.toArray⟩ 60 60 rfl
  obtain ⟨y, hy⟩ : ∃ y, s.take 60 = y := ⟨_, rfl⟩
  have hr' : r = ⟨y.toArray⟩ := by rw [← hy, ← hrl]
  subst hr'
  have hm3 : m ≤ s.length := hm2
  have hmin' : min ((s.length : Nat) : Int) 60 = (m : Int) := by
    have h : (if (60 : Int) < ((s.length : Nat) : Int) then (60 : Int) else ((s.length : Nat) : Int)) = (m : Int) := hmin
    rw [← h]
    split <;> omega
  have HYL : Hid (y.length ≤ 60) := Lib.hid (by rw [← hy, List.length_take]; omega)
  clear hl hlx hrl hr hy hm1 hm2
  go_enter Tryd.func8, Tryd.ntmps8
  go_wp2_with fail
  refine SN.out.mono ?_
  rintro e W1 ⟨rfl, hb1⟩
  have H1 := Lib.hid hb1
  have F1 := Lib.hid (FW.out W1 hb1)
  clear hb1
  go_wp2_with fail
  refine F1.out.mono ?_
  rintro e W2 ⟨v2, rfl, ho2, hb2⟩
  obtain ⟨A2, c2, hv2, hc2⟩ := ho2.slice
  obtain ⟨n, hnl⟩ : ∃ n, l.length = n := ⟨_, rfl⟩
  rw [hnl] at hv2 hc2 hll
  subst hv2
  have H2 := Lib.hid (And.intro ho2.sls (And.intro (H1.out.trans (hb2.mono H1.out.size)) (And.intro hnl hc2)))
  clear ho2 hb2 hnl
  go_wp2_with (first | ((with_reducible refine wpList_stop (o := ⟨some 18, _, _, _, _, _⟩) ?_)))
  unfold Stop
  refine wpList_build_zero Tryd.underlying22 string_info rfl rfl ?_
  go_wp2_with (first | ((with_reducible refine wpList_stop (o := ⟨some 20, _, _, _, _, _⟩) ?_)))
  unfold Stop
  have bz : Below W2.heap.size W2 (W2.alloc (.cells #[] 9)) := (Below.refl _ _).alloc (Nat.le_refl _) _
  refine wpList_append_strs (.tmp 18) (.tmp 19) W2.heap.size [] l _ _ (own_zeroL _ _ _) (H2.out.1.below bz) (by have := H2.out.2.2.1; simp; omega) (by simp) rfl rfl rfl rfl (fun v3 W3 ho3 hg3 => ?_)
  have b3 : Below W2.heap.size W2 W3 := bz.grown hg3 bz.size (fun j e => by simp [Value.ownBlock] at e; omega)
  rw [List.nil_append] at ho3
  have H3 := Lib.hid (And.intro ho3 b3)
  clear ho3 hg3 bz b3
  go_wp2_with (first | ((with_reducible refine wpList_stop (o := ⟨some 23, _, _, _, _, _⟩) ?_)))
  unfold Stop
  have bs : Below W3.heap.size W3 (W3.alloc (.cells #[.string ⟨y.toArray⟩] 9)) := (Below.refl _ _).alloc (Nat.le_refl _) _
  have o3 := H3.out.1.below bs
  refine wpList_append_one rfl (.tmp 20) (.tmp 22) 22 rfl Tryd.underlying22 string_info rfl (by decide) rfl o3 W3.heap.size 1 y rfl rfl ?_ ?_ ?_ (fun v4 W4 ho4 hg4 => ?_)
  · rw [(RowAt.new W3 9 _).cell 0]; rfl
  · have := H2.out.2.2.1; omega
  · exact Nat.le_trans H3.out.2.size bs.size
  have b4 : Below W2.heap.size W2 W4 := (H3.out.2.trans (bs.mono H3.out.2.size)).grown hg4 (Nat.le_trans H3.out.2.size bs.size) (fun j e => (o3.lt j e).1)
  obtain ⟨A4, c4, hv4, hc4⟩ := ho4.slice
  have hmo : (l ++ [y]).length = n + 1 := by rw [List.length_append, H2.out.2.2.1]; rfl
  rw [hmo] at hv4 hc4
  obtain ⟨n1, hn1⟩ : ∃ z, n + 1 = z := ⟨_, rfl⟩
  rw [hn1] at hv4 hc4 hmo
  subst hv4
  obtain ⟨mo, hmoe⟩ : ∃ z, l ++ [y] = z := ⟨_, rfl⟩
  rw [hmoe] at ho4 hmo
  have HMO := Lib.hid (And.intro hmoe (And.intro hmo (And.intro hn1 hc4)))
  have HMX : Hid (∀ x ∈ mo, x.length ≤ 10000) := Lib.hid (by
    rw [← hmoe]; intro x hx
    rcases List.mem_append.1 hx with hx | hx
    · have := HLX.out x hx; omega
    · rw [List.mem_singleton.1 hx]; have := HYL.out; omega)
  have hb4 := H2.out.2.1.trans (b4.mono H2.out.2.1.size)
  have H4 := Lib.hid (And.intro (H2.out.1.below b4) (And.intro ho4.sls hb4))
  have HW : Hid (∀ W, Below W4.heap.size W4 W → SlS W (.slice A2 n c2) l ∧ SlS W (.slice A4 n1 c4) mo ∧ KAt W ∧ Below w.heap.size w W) := Lib.hid (fun W hb =>
    ⟨H4.out.1.below hb, H4.out.2.1.below hb, HK.out.below (H4.out.2.2.trans (hb.mono H4.out.2.2.size)), H4.out.2.2.trans (hb.mono H4.out.2.2.size)⟩)
  have EX := Lib.hid (ext_any A4 n1 c4 n mo W4 H4.out.2.1 hmo hc4 (by omega) (by omega) HMX.out (HK.out.below hb4))
  have RL : Hid (∀ W, Below W4.heap.size W4 W → Calls Tryd.prog 18 #[.slice A2 n c2] W fun e w' => e = .returned (.string ⟨(rootB l).toArray⟩) ∧ Below W.heap.size W w') := Lib.hid (fun W hb =>
    root_any _ l W (HW.out W hb).1 (by have := H2.out.2.2.1; omega) (fun x hx => by have := HLX.out x hx; omega) (HW.out W hb).2.2.1)
  have RM : Hid (∀ W, Below W4.heap.size W4 W → Calls Tryd.prog 18 #[.slice A4 n1 c4] W fun e w' => e = .returned (.string ⟨(rootB mo).toArray⟩) ∧ Below W.heap.size W w') := Lib.hid (fun W hb =>
    root_any _ mo W (HW.out W hb).2.1 (by have := HMO.out; omega) HMX.out (HW.out W hb).2.2.1)
  have HTK : Hid (mo.take n = l) := Lib.hid (by rw [← hmoe, List.take_left' H2.out.2.2.1])
  clear ho4 hg4 bs o3 b4 hmo hn1 hmoe hb4 hc4
  go_wp2_with fail
  refine EX.out.mono ?_
  rintro e W5 ⟨A5, q5, c5, rfl, hc5, hs5, hq5, hb5⟩
  have H5 := Lib.hid (And.intro hb5 (And.intro hc5 (And.intro hs5 hq5)))
  have VE : Hid (∀ W, Below W5.heap.size W5 W → Calls Tryd.prog 22 #[.string ⟨(rootB l).toArray⟩, .int .i64 n, .string ⟨(rootB mo).toArray⟩, .int .i64 n1, .slice A5 q5 c5] W fun e w' => e = .returned (.bool true) ∧ Below W.heap.size W w') := Lib.hid (fun W hb => by
    have h := vext_made mo n A5 q5 c5 W (by have := HMO.out; omega) (by have := HMO.out; omega) (H5.out.2.2.1.below hb) H5.out.2.2.2 H5.out.2.1 (by
      have := H5.out.2.2.2
      have h1 : (extB mo n).length ≤ 5000 := extB_short mo n (by have := HMO.out; omega)
      omega) (HW.out W (H5.out.1.trans (hb.mono H5.out.1.size))).2.2.1
    rwa [HTK.out, HMO.out.2.1] at h)
  clear hb5 hc5 hs5 hq5
  obtain ⟨rl, hrl⟩ : ∃ z, rootB l = z := ⟨_, rfl⟩
  obtain ⟨rm, hrm⟩ : ∃ z, rootB mo = z := ⟨_, rfl⟩
  rw [hrl] at RL VE
  rw [hrm] at RM VE
  have HRL := Lib.hid (And.intro hrl hrm)
  clear hrl hrm
  go_wp2_with fail
  refine (RL.out W5 H5.out.1).mono ?_
  rintro e W6 ⟨rfl, hb6⟩
  have H6 := Lib.hid (And.intro hb6 (H5.out.1.trans (hb6.mono H5.out.1.size)))
  clear hb6
  go_wp2_with fail
  refine (RM.out W6 H6.out.2).mono ?_
  rintro e W7 ⟨rfl, hb7⟩
  have H7 := Lib.hid (And.intro (H6.out.1.trans (hb7.mono H6.out.1.size)) (H6.out.2.trans (hb7.mono H6.out.2.size)))
  clear hb7
  go_wp2_with fail
  refine (VE.out W7 H7.out.1).mono ?_
  rintro e W8 ⟨rfl, hb8⟩
  have H8 := Lib.hid (H7.out.2.trans (hb8.mono H7.out.2.size))
  clear hb8
  by_cases hn0 : n = 0
  · subst hn0
    have hl0 : l = [] := List.length_eq_zero_iff.1 H2.out.2.2.1
    have e1 : rm = leafB y := by rw [← HRL.out.2, ← HMO.out.1, hl0, List.nil_append, rootB_one]
    have e2 : rl = shaB [] := by rw [← HRL.out.1, hl0]; rfl
    have LF : Hid (∀ W, Below W4.heap.size W4 W → Calls Tryd.prog 26 #[.string ⟨y.toArray⟩] W fun e w' => e = .returned (.string ⟨rm.toArray⟩) ∧ Below W.heap.size W w') := Lib.hid (fun W hb => by
      rw [e1]; exact leaf_any y W (by have := HYL.out; omega) (HW.out W hb).2.2.1)
    have SM : Hid (∀ W, Below W4.heap.size W4 W → Calls Tryd.prog 27 #[.string ⟨#[]⟩] W fun e w' => e = .returned (.string ⟨rl.toArray⟩) ∧ Below W.heap.size W w') := Lib.hid (fun W hb => by
      rw [e2]; exact sum_any [] W (by simp) (HW.out W hb).2.2.1)
    clear hl0 e1 e2
    go_wp2_with fail
    refine (RM.out W8 H8.out).mono ?_
    rintro e Y1 ⟨rfl, hy⟩
    have K1 := Lib.hid (H8.out.trans (hy.mono H8.out.size))
    clear hy
    go_wp2_with fail
    refine (LF.out Y1 K1.out).mono ?_
    rintro e Y2 ⟨rfl, hy⟩
    have K2 := Lib.hid (K1.out.trans (hy.mono K1.out.size))
    clear hy
    go_wp2_with fail
    refine (RL.out Y2 K2.out).mono ?_
    rintro e Y3 ⟨rfl, hy⟩
    have K3 := Lib.hid (K2.out.trans (hy.mono K2.out.size))
    clear hy
    go_wp2_with fail
    refine (SM.out Y3 K3.out).mono ?_
    rintro e Y4 ⟨rfl, hy⟩
    have K4 := Lib.hid (K3.out.trans (hy.mono K3.out.size))
    clear hy
    go_wp2_with fail
    go_ret
    exact ⟨rfl, (HW.out Y4 K4.out).2.2.2⟩
  · have hn0i : ((n : Int) == 0) = false := by rw [beq_eq_false_iff_ne]; omega
    have hn2 : 2 ≤ n1 := by have := HMO.out; omega
    obtain ⟨k, hk⟩ : ∃ k, leftN n1 = k := ⟨_, rfl⟩
    have LL := Lib.hid (lleft_any n1 W8 hn2 (by have := HMO.out; omega))
    obtain ⟨k1, k2, k3⟩ := leftN_bd hn2 (by have := HMO.out; omega)
    rw [hk] at LL k1 k2 k3
    have HKL := Lib.hid hk
    clear hk
    go_wp2_with fail
    refine LL.out.mono ?_
    rintro e w' ⟨rfl, rfl⟩
    obtain ⟨b, o, hA4⟩ : ∃ b o, A4 = some ⟨b, o, none⟩ := by
      obtain ⟨b, o, h, _⟩ := H4.out.2.1.get (i := 0) (x := mo[0]'(by have := HMO.out; omega)) (List.getElem?_eq_getElem _)
      exact ⟨b, o, h⟩
    subst hA4
    have kc : k ≤ c4 := by have := HMO.out; omega
    have kn : k ≤ n1 := by omega
    have nc : n1 ≤ c4 := HMO.out.2.2.2
    have hsp := rootB_split (l := mo) (by have := HMO.out; omega) (by have := HMO.out; omega)
    rw [HMO.out.2.1, HKL.out, HRL.out.2] at hsp
    have RA : Hid (∀ W, Below W4.heap.size W4 W → Calls Tryd.prog 18 #[.slice (some ⟨b, o, none⟩) k c4] W fun e w' => e = .returned (.string ⟨(rootB (mo.take k)).toArray⟩) ∧ Below W.heap.size W w') := Lib.hid (fun W hb =>
      root_any _ _ W ((HW.out W hb).2.1.take k kn) (by have := HMO.out; simp; omega) (fun x hx => HMX.out x (List.mem_of_mem_take hx)) (HW.out W hb).2.2.1)
    have RB : Hid (∀ W, Below W4.heap.size W4 W → Calls Tryd.prog 18 #[.slice (some ⟨b, o + k, none⟩) (n1 - k) (c4 - k)] W fun e w' => e = .returned (.string ⟨(rootB (mo.drop k)).toArray⟩) ∧ Below W.heap.size W w') := Lib.hid (fun W hb =>
      root_any _ _ W ((HW.out W hb).2.1.drop k _) (by have := HMO.out; simp; omega) (fun x hx => HMX.out x (List.mem_of_mem_drop hx)) (HW.out W hb).2.2.1)
    have NB : Hid (∀ W, Below W4.heap.size W4 W → Calls Tryd.prog 29 #[.string ⟨(rootB (mo.take k)).toArray⟩, .string ⟨(rootB (mo.drop k)).toArray⟩] W fun e w' => e = .returned (.string ⟨rm.toArray⟩) ∧ Below W.heap.size W w') := Lib.hid (fun W hb => by
      rw [hsp]; exact node_any _ _ W (by rw [rootB_len]; omega) (by rw [rootB_len]; omega) (HW.out W hb).2.2.1)
    clear hsp
    obtain ⟨ra, hra⟩ : ∃ z, rootB (mo.take k) = z := ⟨_, rfl⟩
    obtain ⟨rb, hrb⟩ : ∃ z, rootB (mo.drop k) = z := ⟨_, rfl⟩
    rw [hra] at RA NB
    rw [hrb] at RB NB
    clear hra hrb
    have hB := H8.out
    have up : ∀ {F : Nat} {args : Array Value} {x : Value} {W : World}, Below W4.heap.size W4 W → (Calls Tryd.prog F args W fun e w' => e = .returned x ∧ Below W.heap.size W w') → Calls Tryd.prog F args W fun e w' => e = .returned x ∧ Below W4.heap.size W4 w' := fun hb h => h.mono (fun e w' hh => ⟨hh.1, hb.trans (hh.2.mono hb.size)⟩)
    have RM2 := Lib.hid (fun W (hb : Below W4.heap.size W4 W) => up hb (RM.out W hb))
    have RA2 := Lib.hid (fun W (hb : Below W4.heap.size W4 W) => up hb (RA.out W hb))
    have RB2 := Lib.hid (fun W (hb : Below W4.heap.size W4 W) => up hb (RB.out W hb))
    have NB2 := Lib.hid (fun W (hb : Below W4.heap.size W4 W) => up hb (NB.out W hb))
    clear up RM RA RB NB RL VE FW
    go_wp2_with fail
    go_region_held3 (fun W => Below W4.heap.size W4 W) (first | assumption | exact Below.drew (by assumption)) (first
      | (go_at_call 18; (first | (with_reducible refine (RM2.out _ ?_).mono ?_) | (with_reducible refine (RA2.out _ ?_).mono ?_) | (with_reducible refine (RB2.out _ ?_).mono ?_)); (first | with_reducible assumption); rintro e Y ⟨rfl, hy⟩)
      | (go_at_call 29; (with_reducible refine (NB2.out _ ?_).mono ?_); (first | with_reducible assumption); rintro e Y ⟨rfl, hy⟩))
    go_wp2_with fail
    go_ret
    exact ⟨rfl, (HW.out _ (by first | assumption | exact Below.drew (by assumption))).2.2.2⟩
end Go.Proofs.YtgmdjbhclihflaaDoor
