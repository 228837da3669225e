/- Extension. -/
import Derived.Test.YtgmdjbhclihflaaDoorDgP
namespace Go.Proofs.YtgmdjbhclihflaaDoor
open Go Go.RowKit Go.Lib Go.Shelf
attribute [local go_sem] Oper.semAt_some

/-- the roots of the other parts, from the root on -/
def partL : Nat → List (List UInt8) → Nat → Bool → List (List UInt8)
  | 0, _, _, _ => []
  | f + 1, l, m, whole => if l.length ≤ m then (if whole then [] else [rootB l]) else if m ≤ leftN l.length then rootB (l.drop (leftN l.length)) :: partL f (l.take (leftN l.length)) m whole else rootB (l.take (leftN l.length)) :: partL f (l.drop (leftN l.length)) (m - leftN l.length) false
def extB (l : List (List UInt8)) (m : Nat) : List (List UInt8) := if m = 0 then [] else (partL l.length l m true).reverse
structure ExAt (w wr : World) (A : Option Addr) (c n m : Nat) (v6 : Value) (whole : Bool) (D l acc : List (List UInt8)) (f : Nat) : Prop where
  len : l.length = n
  cap : n ≤ c
  pos : 1 ≤ m
  le : m ≤ n
  fuel : n ≤ f
  big : n ≤ 10000
  sls : SlS w (.slice A n c) l
  out : OwnL 9 encS wr w.heap.size v6 acc
  below : Below w.heap.size w wr
  eq : acc ++ partL f l m whole = D
  cut : ∀ x ∈ l, x.length ≤ 10000
  short : acc.length + n ≤ 10000
theorem ExAt.down {w wr w1 w2 : World} {A A' : Option Addr} {c c' n n' i i' : Nat} {v6 v7 : Value} {wh wh' : Bool} {D l l' acc : List (List UInt8)} {f : Nat} {d : List UInt8}
    (h : ExAt w wr A c n i v6 wh D l acc f) (hb : Below wr.heap.size wr w1) (hw1 : OwnL 9 encS w1 w.heap.size v6 acc) (ho : OwnL 9 encS w2 w.heap.size v7 (acc ++ [d])) (hg : w1.grownBy w2 v6.ownBlock)
    (hd : partL f l i wh = d :: partL (f - 1) l' i' wh') (hl : l'.length = n') (hlt : n' < n) (hc : n' ≤ c') (hp : 1 ≤ i') (hi : i' ≤ n') (hs : SlS w (.slice A' n' c') l') (hsub : ∀ x ∈ l', x ∈ l) :
    ExAt w w2 A' c' n' i' v7 wh' D l' (acc ++ [d]) (f - 1) := by
  refine ⟨hl, hc, hp, hi, by have := h.fuel; omega, by have := h.big; omega, hs, ho, ?_, ?_, fun x hx => h.cut x (hsub x hx), ?_⟩
  · exact (h.below.trans (hb.mono h.below.size)).grown hg (Nat.le_trans h.below.size hb.size) (fun j e => (hw1.lt j e).1)
  · rw [← h.eq, hd]; simp
  · have := h.short; simp; omega
theorem ext_out (A : Option Addr) (n c : Nat) (i : Int) (w : World) (h : ¬(0 ≤ i ∧ i ≤ n)) :
    Calls Tryd.prog 15 #[.slice A n c, .int .i64 i] w fun e w' => e = .returned (.tuple #[.slice none 0 0, .int .i64 2]) ∧ w = w' := by
  go_enter Tryd.func15, Tryd.ntmps15
  by_cases h1 : i < 0
  · have h1d : decide (i < 0) = true := decide_eq_true h1
    go_wp2_with fail
    go_ret2
    exact ⟨rfl, rfl⟩
  · have h2 : (n : Int) < i := by omega
    have h1d : decide (i < 0) = false := decide_eq_false h1
    have h2d : decide ((n : Int) < i) = true := decide_eq_true h2
    go_wp2_with fail
    go_ret2
    exact ⟨rfl, rfl⟩
theorem ext_zero (A : Option Addr) (n c : Nat) (w : World) :
    Calls Tryd.prog 15 #[.slice A n c, .int .i64 0] w fun e w' => e = .returned (.tuple #[.slice none 0 0, .int .i64 0]) ∧ w = w' := by
  go_enter Tryd.func15, Tryd.ntmps15
  have h2 : decide ((n : Int) < 0) = false := by simp
  go_wp2_with fail
  go_ret2
  exact ⟨rfl, rfl⟩
set_option maxRecDepth 100000 in
set_option maxHeartbeats 4000000 in
theorem ext_in (A : Option Addr) (n c : Nat) (j : Nat) (xs : List (List UInt8)) (w : World) (hv : SlS w (.slice A n c) xs) (hxn : xs.length = n) (hnc : n ≤ c) (hn : n ≤ 5000) (hj1 : 1 ≤ j) (hj : j ≤ n) (hx : ∀ x ∈ xs, x.length ≤ 10000) (hK : KAt w) :
    Calls Tryd.prog 15 #[.slice A n c, .int .i64 j] w fun e w' => ∃ A' n' c', e = .returned (.tuple #[.slice A' n' c', .int .i64 0]) ∧ n' ≤ c' ∧ SlS w' (.slice A' n' c') (extB xs j) ∧ (extB xs j).length = n' ∧ Below w.heap.size w w' := by
  obtain ⟨D, hD⟩ : ∃ D, partL n xs j true = D := ⟨_, rfl⟩
  have hpd : extB xs j = D.reverse := by rw [← hD, ← hxn]; unfold extB; rw [if_neg (by omega)]
  rw [hpd]
  have HP : Hid (ExAt w w A c n j (.slice none 0 0) true D xs [] n) := Lib.hid ⟨hxn, hnc, by omega, by omega, Nat.le_refl _, by omega, hv, OwnL.nil, Below.refl _ _, hD, hx, by simp; omega⟩
  have HK := Lib.hid hK
  clear hv hx hK hxn hpd hD hn
  go_enter Tryd.func15, Tryd.ntmps15
  have h1 : decide ((j : Int) < 0) = false := by simp
  have h2 : decide (n < j) = false := by simp; omega
  have h3 : decide ((j : Int) = 0) = false := by simp; omega
  have h4 : ((j : Int) == 0) = false := by rw [beq_eq_false_iff_ne]; omega
  go_wp2_with fail
  go_loopw [0, 1, 6, 7] (fun v0 v1 v6 v7 wr => ∃ (A : Option Addr) (c n i f : Nat) (wh : Bool) (l acc : List (List UInt8)), v0 = .slice A n c ∧ v1 = .int .i64 i ∧ v7 = .bool wh ∧ Hid (ExAt w wr A c n i v6 wh D l acc f)) (fun v0 _ _ _ _ => lenV v0)
  case atStart => exact ⟨_, _, _, _, _, _, _, _, rfl, rfl, rfl, HP⟩
  case round =>
    obtain ⟨A, c, n, i, f, wh, l, acc, rfl, rfl, rfl, HS⟩ := hrel
    clear HP h1 h2 h3 h4 hj hj1 hnc
    obtain ⟨v6, hv6⟩ : ∃ z, z = u6 := ⟨_, rfl⟩
    subst hv6
    have hpos := HS.out.pos
    have hcap := HS.out.cap
    have hbig := HS.out.big
    have hle := HS.out.le
    by_cases hn1 : i < n
    · have hn2 : 2 ≤ n := by omega
      obtain ⟨k, hk⟩ : ∃ k, leftN n = k := ⟨_, rfl⟩
      obtain ⟨hk1, hk2, hk3⟩ := leftN_bd hn2 (by omega)
      have LF := Lib.hid (left_any n wr hn2 (by omega))
      rw [hk] at hk1 hk2 hk3 LF
      have HKK := Lib.hid hk
      clear hk
      go_wp2_with fail
      refine LF.out.mono ?_
      rintro e w' ⟨rfl, rfl⟩
      obtain ⟨b, o, hA⟩ : ∃ b o, A = some ⟨b, o, none⟩ := by
        obtain ⟨b, o, h, _⟩ := HS.out.sls.get (i := 0) (x := l[0]'(by rw [HS.out.len]; omega)) (List.getElem?_eq_getElem _)
        exact ⟨b, o, h⟩
      subst hA
      have kc : k ≤ c := by omega
      have kn : k ≤ n := by omega
      by_cases hik : i ≤ k
      · have hiki : decide (k < i) = false := by simp; omega
        go_wp2_with fail
        go_quiet (fail)
        go_wp2_with fail
        have RT := root_any (.slice (some ⟨b, o + k, none⟩) (n - k) (c - k)) (l.drop k) (wr.drewN nq) ((HS.out.sls.drop k (c - k)).below (HS.out.below.trans ((below_drewN (Below.refl _ _) nq).mono HS.out.below.size))) (by have := HS.out.len; simp; omega) (fun x hx => HS.out.cut x (List.mem_of_mem_drop hx)) (HK.out.below (HS.out.below.trans ((below_drewN (Below.refl _ _) nq).mono HS.out.below.size)))
        obtain ⟨d, hd⟩ : ∃ d, rootB (l.drop k) = d := ⟨_, rfl⟩
        rw [show joinS (stackS (l.drop k)) = d from hd] at RT
        refine RT.mono ?_
        rintro e w1 ⟨rfl, hx1⟩
        have bw1 : Below wr.heap.size wr w1 := (below_drewN (Below.refl _ _) nq).trans (hx1.mono (below_drewN (Below.refl wr.heap.size wr) nq).size)
        have HB1 := Lib.hid bw1
        have HDD := Lib.hid hd
        clear RT hx1 bw1 hd
        go_wp2_with (first | ((with_reducible refine wpList_stop (o := ⟨some 48, _, _, _, _, _⟩) ?_)))
        unfold Stop
        have b2 : Below wr.heap.size wr (w1.alloc (.cells #[.string ⟨d.toArray⟩] 9)) := HB1.out.alloc HB1.out.size _
        have o1 := HS.out.out.below b2
        refine wpList_append_one rfl (.tmp 44) (.tmp 47) 22 rfl Tryd.underlying22 string_info rfl (by decide) rfl o1 w1.heap.size 1 d rfl rfl ?_ ?_ ?_ (fun v3 w3 hown hg => ?_)
        · rw [(RowAt.new w1 9 _).cell 0]; rfl
        · have := HS.out.short; omega
        · exact Nat.le_trans HS.out.below.size b2.size
        have hdd : partL f l i wh = d :: partL (f - 1) (l.take k) (i) wh := by
          obtain ⟨f', rfl⟩ : ∃ f', f = f' + 1 := ⟨f - 1, by have := HS.out.fuel; omega⟩
          rw [partL, if_neg (by rw [HS.out.len]; omega), HS.out.len, HKK.out, if_pos hik, HDD.out]
          rfl
        have HN : Hid (ExAt w w3 (some ⟨b, o, none⟩) (c) (k) (i) v3 wh D (l.take k) (acc ++ [d]) (f - 1)) := Lib.hid (HS.out.down b2 o1 (by simpa using hown) hg hdd (by have := HS.out.len; simp; omega) (by omega) (by omega) (by omega) (by omega) (HS.out.sls.take k kn) (fun x hx => List.mem_of_mem_take hx))
        clear hown hg hdd o1 b2
        go_wp2_with fail
        go_roundw
        case rel => exact ⟨_, _, _, _, _, _, _, _, rfl, rfl, rfl, HN⟩
        case measure => simp [lenV]; omega
      · have hiki : decide (k < i) = true := by simp; omega
        have hsub : IntKind.i64.wrap ((i : Int) - (k : Int)) = ((i - k : Nat) : Int) := by rw [IntWalk.i64_in _ (by omega)]; omega
        go_wp2_with fail
        go_quiet (fail)
        go_wp2_with fail
        have RT := root_any (.slice (some ⟨b, o, none⟩) k c) (l.take k) (wr.drewN nq) ((HS.out.sls.take k kn).below (HS.out.below.trans ((below_drewN (Below.refl _ _) nq).mono HS.out.below.size))) (by have := HS.out.len; simp; omega) (fun x hx => HS.out.cut x (List.mem_of_mem_take hx)) (HK.out.below (HS.out.below.trans ((below_drewN (Below.refl _ _) nq).mono HS.out.below.size)))
        obtain ⟨d, hd⟩ : ∃ d, rootB (l.take k) = d := ⟨_, rfl⟩
        rw [show joinS (stackS (l.take k)) = d from hd] at RT
        refine RT.mono ?_
        rintro e w1 ⟨rfl, hx1⟩
        have bw1 : Below wr.heap.size wr w1 := (below_drewN (Below.refl _ _) nq).trans (hx1.mono (below_drewN (Below.refl wr.heap.size wr) nq).size)
        have HB1 := Lib.hid bw1
        have HDD := Lib.hid hd
        clear RT hx1 bw1 hd
        go_wp2_with (first | ((with_reducible refine wpList_stop (o := ⟨some 48, _, _, _, _, _⟩) ?_)))
        unfold Stop
        have b2 : Below wr.heap.size wr (w1.alloc (.cells #[.string ⟨d.toArray⟩] 9)) := HB1.out.alloc HB1.out.size _
        have o1 := HS.out.out.below b2
        refine wpList_append_one rfl (.tmp 44) (.tmp 47) 22 rfl Tryd.underlying22 string_info rfl (by decide) rfl o1 w1.heap.size 1 d rfl rfl ?_ ?_ ?_ (fun v3 w3 hown hg => ?_)
        · rw [(RowAt.new w1 9 _).cell 0]; rfl
        · have := HS.out.short; omega
        · exact Nat.le_trans HS.out.below.size b2.size
        have hdd : partL f l i wh = d :: partL (f - 1) (l.drop k) (i - k) false := by
          obtain ⟨f', rfl⟩ : ∃ f', f = f' + 1 := ⟨f - 1, by have := HS.out.fuel; omega⟩
          rw [partL, if_neg (by rw [HS.out.len]; omega), HS.out.len, HKK.out, if_neg hik, HDD.out]
          rfl
        have HN : Hid (ExAt w w3 (some ⟨b, o + k, none⟩) (c - k) (n - k) (i - k) v3 false D (l.drop k) (acc ++ [d]) (f - 1)) := Lib.hid (HS.out.down b2 o1 (by simpa using hown) hg hdd (by have := HS.out.len; simp; omega) (by omega) (by omega) (by omega) (by omega) (HS.out.sls.drop k (c - k)) (fun x hx => List.mem_of_mem_drop hx))
        clear hown hg hdd o1 b2
        go_wp2_with fail
        go_roundw
        case rel => exact ⟨_, _, _, _, _, _, _, _, rfl, by go_num, rfl, HN⟩
        case measure => simp [lenV]; omega
    · have hin : i = n := by omega
      subst hin
      have heq := HS.out.eq
      obtain ⟨f', hf'⟩ : ∃ f', f = f' + 1 := ⟨f - 1, by have := HS.out.fuel; omega⟩
      rw [hf', partL, if_pos (by rw [HS.out.len]; exact Nat.le_refl _)] at heq
      cases wh with
      | true =>
        rw [if_pos rfl, List.append_nil] at heq
        obtain ⟨A6, c6, hv6, hc6⟩ := HS.out.out.slice
        have hsh := HS.out.short
        obtain ⟨m, hm⟩ : ∃ m, acc.length = m := ⟨_, rfl⟩
        rw [hm] at hv6 hc6 hsh
        subst hv6
        have RV := Lib.hid (rev_any _ _ _ wr HS.out.out (by omega))
        have HE := Lib.hid (And.intro heq hm)
        clear heq hm hsh hf'
        go_wp2_with fail
        refine RV.out.mono ?_
        rintro e w1 ⟨rfl, hs1, hg1⟩
        have HF := Lib.hid (And.intro hs1 hg1)
        clear hs1 hg1
        go_wp2_with fail
        go_ret2
        rw [← HE.out.1]
        refine ⟨_, _, _, rfl, hc6, HF.out.1, by rw [List.length_reverse, HE.out.2], HS.out.below.grown HF.out.2 HS.out.below.size (fun j e => (HS.out.out.lt j e).1)⟩
      | false =>
        rw [if_neg (by simp)] at heq
        have RT := root_any (.slice A i c) l wr (HS.out.sls.below HS.out.below) (by have := HS.out.len; omega) HS.out.cut (HK.out.below HS.out.below)
        obtain ⟨d, hd⟩ : ∃ d, rootB l = d := ⟨_, rfl⟩
        rw [show joinS (stackS l) = d from hd] at RT
        rw [hd] at heq
        have RT := Lib.hid RT
        have HEQ := Lib.hid heq
        clear hd heq hf'
        go_wp2_with fail
        refine RT.out.mono ?_
        rintro e w1 ⟨rfl, hx1⟩
        have HB1 := Lib.hid hx1
        clear RT hx1
        go_wp2_with (first | ((with_reducible refine wpList_stop (o := ⟨some 56, _, _, _, _, _⟩) ?_)))
        unfold Stop
        have b2 : Below wr.heap.size wr (w1.alloc (.cells #[.string ⟨d.toArray⟩] 9)) := HB1.out.alloc HB1.out.size _
        have o1 := HS.out.out.below b2
        refine wpList_append_one rfl (.tmp 52) (.tmp 55) 22 rfl Tryd.underlying22 string_info rfl (by decide) rfl o1 w1.heap.size 1 d rfl rfl ?_ ?_ ?_ (fun v3 w3 hown hg => ?_)
        · rw [(RowAt.new w1 9 _).cell 0]; rfl
        · have := HS.out.short; omega
        · exact Nat.le_trans HS.out.below.size b2.size
        have hb3 : Below w.heap.size w w3 := (HS.out.below.trans (b2.mono HS.out.below.size)).grown hg (Nat.le_trans HS.out.below.size b2.size) (fun j e => (o1.lt j e).1)
        have ho3 : OwnL 9 encS w3 w.heap.size v3 (acc ++ [d]) := by simpa using hown
        rw [HEQ.out] at ho3
        obtain ⟨A6, c6, hv6, hc6⟩ := ho3.slice
        obtain ⟨m, hm⟩ : ∃ m, D.length = m := ⟨_, rfl⟩
        have hsh : m ≤ 10000 := by rw [← hm, ← HEQ.out]; have := HS.out.short; simp; omega
        rw [hm] at hv6 hc6
        subst hv6
        have RV := Lib.hid (rev_any _ _ _ w3 ho3 (by omega))
        have HE := Lib.hid (And.intro ho3 (And.intro hm hb3))
        clear hown hg o1 b2 hb3 ho3 hm hsh
        go_wp2_with fail
        refine RV.out.mono ?_
        rintro e w4 ⟨rfl, hs1, hg1⟩
        have HF := Lib.hid (And.intro hs1 hg1)
        clear hs1 hg1
        go_wp2_with fail
        go_ret2
        refine ⟨_, _, _, rfl, hc6, HF.out.1, by rw [List.length_reverse, HE.out.2.1], HE.out.2.2.grown HF.out.2 HE.out.2.2.size (fun j e => (HE.out.1.lt j e).1)⟩
end Go.Proofs.YtgmdjbhclihflaaDoor
