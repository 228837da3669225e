/- Proof. -/
import Derived.Test.YtgmdjbhclihflaaDoorDgO
import Derived.WalkMore
namespace Go.Proofs.YtgmdjbhclihflaaDoor
open Go Go.RowKit Go.Lib Go.Shelf
attribute [local go_sem] Oper.semAt_some

def lenV : Value → Nat
  | .slice _ n _ => n
  | _ => 0
def rootB (l : List (List UInt8)) : List UInt8 := joinS (stackS l)
/-- the roots of the other parts, from the root on -/
def descL : Nat → List (List UInt8) → Nat → List (List UInt8)
  | 0, _, _ => []
  | f + 1, l, i => if l.length ≤ 1 then [] else if i < leftN l.length then rootB (l.drop (leftN l.length)) :: descL f (l.take (leftN l.length)) i else rootB (l.take (leftN l.length)) :: descL f (l.drop (leftN l.length)) (i - leftN l.length)
def proofB (l : List (List UInt8)) (i : Nat) : List (List UInt8) := (descL l.length l i).reverse
structure PrAt (w wr : World) (A : Option Addr) (c n i : Nat) (v6 : Value) (D l acc : List (List UInt8)) (f : Nat) : Prop where
  len : l.length = n
  cap : n ≤ c
  pos : 1 ≤ n
  lt : i < n
  fuel : n ≤ f
  big : n ≤ 10000
  sls : SlS w (.slice A n c) l
  out : OwnL 9 encS wr w.heap.size v6 acc
  below : Below w.heap.size w wr
  eq : acc ++ descL f l i = D
  cut : ∀ x ∈ l, x.length ≤ 10000
  short : acc.length + n ≤ 10000
theorem stop_desc {f : Nat} {l : List (List UInt8)} {i : Nat} (h : l.length ≤ 1) : descL f l i = [] := by
  cases f with
  | zero => rfl
  | succ f => unfold descL; rw [if_pos h]
theorem PrAt.down {w wr w1 w2 : World} {A A' : Option Addr} {c c' n n' i i' : Nat} {v6 v7 : Value} {D l l' acc : List (List UInt8)} {f : Nat} {d : List UInt8}
    (h : PrAt w wr A c n i v6 D l acc f) (hb : Below wr.heap.size wr w1) (hw1 : OwnL 9 encS w1 w.heap.size v6 acc) (ho : OwnL 9 encS w2 w.heap.size v7 (acc ++ [d])) (hg : w1.grownBy w2 v6.ownBlock)
    (hd : descL f l i = d :: descL (f - 1) l' i') (hl : l'.length = n') (hlt : n' < n) (hc : n' ≤ c') (hp : 1 ≤ n') (hi : i' < n') (hs : SlS w (.slice A' n' c') l') (hsub : ∀ x ∈ l', x ∈ l) :
    PrAt w w2 A' c' n' i' v7 D l' (acc ++ [d]) (f - 1) := by
  refine ⟨hl, hc, hp, hi, by have := h.fuel; omega, by have := h.big; omega, hs, ho, ?_, ?_, fun x hx => h.cut x (hsub x hx), ?_⟩
  · exact (h.below.trans (hb.mono h.below.size)).grown hg (Nat.le_trans h.below.size hb.size) (fun j e => (hw1.lt j e).1)
  · rw [← h.eq, hd]; simp
  · have := h.short; simp; omega
theorem proof_out (A : Option Addr) (n c : Nat) (i : Int) (w : World) (h : ¬(0 ≤ i ∧ i < n)) :
    Calls Tryd.prog 13 #[.slice A n c, .int .i64 i] w fun e w' => e = .returned (.tuple #[.slice none 0 0, .int .i64 2]) ∧ w = w' := by
  go_enter Tryd.func13, Tryd.ntmps13
  by_cases h1 : i < 0
  · have h1d : decide (i < 0) = true := decide_eq_true h1
    go_wp2_with fail
    refine wp_scope_straight ?_
    go_wp2_with fail
    rw [Exit.noGoto_ret]
    go_ret2
    exact ⟨rfl, rfl⟩
  · have h2 : (n : Int) ≤ i := by omega
    have h1d : decide (i < 0) = false := decide_eq_false h1
    have h2d : decide ((n : Int) ≤ i) = true := decide_eq_true h2
    go_wp2_with fail
    refine wp_scope_straight ?_
    go_wp2_with fail
    rw [Exit.noGoto_ret]
    go_ret2
    exact ⟨rfl, rfl⟩
set_option maxRecDepth 100000 in
set_option maxHeartbeats 4000000 in
theorem proof_in (A : Option Addr) (n c : Nat) (j : Nat) (xs : List (List UInt8)) (w : World) (hv : SlS w (.slice A n c) xs) (hxn : xs.length = n) (hnc : n ≤ c) (hn : n ≤ 5000) (hj : j < n) (hx : ∀ x ∈ xs, x.length ≤ 10000) (hK : KAt w) :
    Calls Tryd.prog 13 #[.slice A n c, .int .i64 j] w fun e w' => ∃ A' n' c', e = .returned (.tuple #[.slice A' n' c', .int .i64 0]) ∧ n' ≤ c' ∧ SlS w' (.slice A' n' c') (proofB xs j) ∧ (proofB xs j).length = n' ∧ Below w.heap.size w w' := by
  obtain ⟨D, hD⟩ : ∃ D, descL n xs j = D := ⟨_, rfl⟩
  have hpd : proofB xs j = D.reverse := by rw [← hD, ← hxn]; rfl
  rw [hpd]
  have HP : Hid (PrAt w w A c n j (.slice none 0 0) D xs [] n) := Lib.hid ⟨hxn, hnc, by omega, by omega, Nat.le_refl _, by omega, hv, OwnL.nil, Below.refl _ _, hD, hx, by simp; omega⟩
  have HK := Lib.hid hK
  clear hv hx hK hxn hpd hD hn
  go_enter Tryd.func13, Tryd.ntmps13
  have h1 : decide ((j : Int) < 0) = false := by simp
  have h2 : decide (n ≤ j) = false := by simp; omega
  go_wp2_with fail
  refine wp_scope_straight ?_
  go_wp2_with fail
  refine wp_label ?_
  go_wp2_with fail
  go_loopw [0, 1, 6] (fun v0 v1 v6 wr => ∃ (A : Option Addr) (c n i f : Nat) (l acc : List (List UInt8)), v0 = .slice A n c ∧ v1 = .int .i64 i ∧ Hid (PrAt w wr A c n i v6 D l acc f)) (fun v0 _ _ _ => lenV v0)
  case atStart => exact ⟨_, _, _, _, _, _, _, rfl, rfl, HP⟩
  case round =>
    obtain ⟨A, c, n, i, f, l, acc, rfl, rfl, HS⟩ := hrel
    clear HP h1 h2 hj hnc
    obtain ⟨v6, hv6⟩ : ∃ z, z = u6 := ⟨_, rfl⟩
    subst hv6
    by_cases hn1 : n = 1
    · subst hn1
      have heq := HS.out.eq
      rw [stop_desc (by rw [HS.out.len]; exact Nat.le_refl _), List.append_nil] at heq
      obtain ⟨A6, c6, hv6, hc6⟩ := HS.out.out.slice
      have hsh := HS.out.short
      obtain ⟨m, hm⟩ : ∃ m, acc.length = m := ⟨_, rfl⟩
      rw [hm] at hv6 hc6 hsh
      subst hv6
      have RV := Lib.hid (rev_any _ _ _ wr HS.out.out (by omega))
      have HE := Lib.hid (And.intro heq hm)
      clear heq hm hsh
      go_wp2_with fail
      refine RV.out.mono ?_
      rintro e w1 ⟨rfl, hs1, hg1⟩
      have HF := Lib.hid (And.intro hs1 hg1)
      clear hs1 hg1
      go_wp2_with fail
      rw [Exit.noGoto_ret]
      go_ret2
      rw [← HE.out.1]
      refine ⟨_, _, _, rfl, hc6, HF.out.1, by rw [List.length_reverse, HE.out.2], HS.out.below.grown HF.out.2 HS.out.below.size (fun j e => (HS.out.out.lt j e).1)⟩
    · have hpos := HS.out.pos
      have hcap := HS.out.cap
      have hbig := HS.out.big
      have hlt := HS.out.lt
      have hn1i : ((n : Int) == 1) = false := by rw [beq_eq_false_iff_ne]; omega
      have hn2 : 2 ≤ n := by omega
      obtain ⟨k, hk⟩ : ∃ k, leftN n = k := ⟨_, rfl⟩
      obtain ⟨hk1, hk2, hk3⟩ := leftN_bd hn2 (by omega)
      have LF := Lib.hid (left_any n wr hn2 (by omega))
      rw [hk] at hk1 hk2 hk3 LF
      have HKK := Lib.hid hk
      clear hk
      go_wp2_with fail
      refine LF.out.mono ?_
      rintro e w' ⟨rfl, rfl⟩
      obtain ⟨b, o, hA⟩ : ∃ b o, A = some ⟨b, o, none⟩ := by
        obtain ⟨b, o, h, _⟩ := (HS.out.sls).get (i := 0) (x := l[0]'(by rw [HS.out.len]; omega)) (List.getElem?_eq_getElem _)
        exact ⟨b, o, h⟩
      subst hA
      have kc : k ≤ c := by omega
      have kn : k ≤ n := by omega
      by_cases hik : i < k
      · have hiki : decide ((k : Int) ≤ (i : Int)) = false := by simp; omega
        go_wp2_with fail
        go_quiet (fail)
        go_wp2_with fail
        have RT := root_any (.slice (some ⟨b, o + k, none⟩) (n - k) (c - k)) (l.drop k) (wr.drewN nq) ((HS.out.sls.drop k (c - k)).below (HS.out.below.trans ((below_drewN (Below.refl _ _) nq).mono HS.out.below.size))) (by have := HS.out.len; simp; omega) (fun x hx => HS.out.cut x (List.mem_of_mem_drop hx)) (HK.out.below (HS.out.below.trans ((below_drewN (Below.refl _ _) nq).mono HS.out.below.size)))
        obtain ⟨d, hd⟩ : ∃ d, rootB (l.drop k) = d := ⟨_, rfl⟩
        rw [show joinS (stackS (l.drop k)) = d from hd] at RT
        refine RT.mono ?_
        rintro e w1 ⟨rfl, hx1⟩
        have bw1 : Below wr.heap.size wr w1 := (below_drewN (Below.refl _ _) nq).trans (hx1.mono (below_drewN (Below.refl wr.heap.size wr) nq).size)
        have HB1 := Lib.hid bw1
        have HDD := Lib.hid hd
        clear RT hx1 bw1 hd
        go_wp2_with (first | ((with_reducible refine wpList_stop (o := ⟨some 42, _, _, _, _, _⟩) ?_)))
        unfold Stop
        have b2 : Below wr.heap.size wr (w1.alloc (.cells #[.string ⟨d.toArray⟩] 9)) := HB1.out.alloc HB1.out.size _
        have o1 := HS.out.out.below b2
        refine wpList_append_one rfl (.tmp 38) (.tmp 41) 22 rfl Tryd.underlying22 string_info rfl (by decide) rfl o1 w1.heap.size 1 d rfl rfl ?_ ?_ ?_ (fun v3 w3 hown hg => ?_)
        · rw [(RowAt.new w1 9 _).cell 0]; rfl
        · have := HS.out.short; omega
        · exact Nat.le_trans HS.out.below.size b2.size
        have hdd : descL f l i = d :: descL (f - 1) (l.take k) (i) := by
          obtain ⟨f', rfl⟩ : ∃ f', f = f' + 1 := ⟨f - 1, by have := HS.out.fuel; omega⟩
          rw [descL, if_neg (by rw [HS.out.len]; omega), HS.out.len, HKK.out, if_pos hik, HDD.out]
          rfl
        have HN : Hid (PrAt w w3 (some ⟨b, o, none⟩) (c) (k) (i) v3 D (l.take k) (acc ++ [d]) (f - 1)) := Lib.hid (HS.out.down b2 o1 (by simpa using hown) hg hdd (by have := HS.out.len; simp; omega) (by omega) (by omega) (by omega) (by omega) (HS.out.sls.take k kn) (fun x hx => List.mem_of_mem_take hx))
        clear hown hg hdd o1 b2
        go_wp2_with fail
        go_roundw
        case rel => exact ⟨_, _, _, _, _, _, _, rfl, rfl, HN⟩
        case measure => simp [lenV]; omega
      · have hiki : (k : Int) ≤ (i : Int) := by omega
        go_wp2_with fail
        go_quiet (fail)
        go_wp2_with fail
        have RT := root_any (.slice (some ⟨b, o, none⟩) k c) (l.take k) (wr.drewN nq) ((HS.out.sls.take k kn).below (HS.out.below.trans ((below_drewN (Below.refl _ _) nq).mono HS.out.below.size))) (by have := HS.out.len; simp; omega) (fun x hx => HS.out.cut x (List.mem_of_mem_take hx)) (HK.out.below (HS.out.below.trans ((below_drewN (Below.refl _ _) nq).mono HS.out.below.size)))
        obtain ⟨d, hd⟩ : ∃ d, rootB (l.take k) = d := ⟨_, rfl⟩
        rw [show joinS (stackS (l.take k)) = d from hd] at RT
        refine RT.mono ?_
        rintro e w1 ⟨rfl, hx1⟩
        have bw1 : Below wr.heap.size wr w1 := (below_drewN (Below.refl _ _) nq).trans (hx1.mono (below_drewN (Below.refl wr.heap.size wr) nq).size)
        have HB1 := Lib.hid bw1
        have HDD := Lib.hid hd
        clear RT hx1 bw1 hd
        go_wp2_with (first | ((with_reducible refine wpList_stop (o := ⟨some 42, _, _, _, _, _⟩) ?_)))
        unfold Stop
        have b2 : Below wr.heap.size wr (w1.alloc (.cells #[.string ⟨d.toArray⟩] 9)) := HB1.out.alloc HB1.out.size _
        have o1 := HS.out.out.below b2
        refine wpList_append_one rfl (.tmp 38) (.tmp 41) 22 rfl Tryd.underlying22 string_info rfl (by decide) rfl o1 w1.heap.size 1 d rfl rfl ?_ ?_ ?_ (fun v3 w3 hown hg => ?_)
        · rw [(RowAt.new w1 9 _).cell 0]; rfl
        · have := HS.out.short; omega
        · exact Nat.le_trans HS.out.below.size b2.size
        have hdd : descL f l i = d :: descL (f - 1) (l.drop k) (i - k) := by
          obtain ⟨f', rfl⟩ : ∃ f', f = f' + 1 := ⟨f - 1, by have := HS.out.fuel; omega⟩
          rw [descL, if_neg (by rw [HS.out.len]; omega), HS.out.len, HKK.out, if_neg hik, HDD.out]
          rfl
        have HN : Hid (PrAt w w3 (some ⟨b, o + k, none⟩) (c - k) (n - k) (i - k) v3 D (l.drop k) (acc ++ [d]) (f - 1)) := Lib.hid (HS.out.down b2 o1 (by simpa using hown) hg hdd (by have := HS.out.len; simp; omega) (by omega) (by omega) (by omega) (by omega) (HS.out.sls.drop k (c - k)) (fun x hx => List.mem_of_mem_drop hx))
        clear hown hg hdd o1 b2
        go_wp2_with fail
        go_roundw
        case rel => exact ⟨_, _, _, _, _, _, _, rfl, by go_num, HN⟩
        case measure => simp [lenV]; omega
end Go.Proofs.YtgmdjbhclihflaaDoor
