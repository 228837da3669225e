/- The reference's Root, Proof and Extension. -/
import Derived.Test.YtgmdjbhclihflaaDoorDgSm
import Derived.Test.YtgmdjbhclihflaaDoorDgPc
import Derived.Test.YtgmdjbhclihflaaDoorDgSp
import Derived.Deep.RegionHeld3
namespace Go.Proofs.YtgmdjbhclihflaaDoor
open Go Go.RowKit Go.Lib Go.Shelf
attribute [local go_sem] Oper.semAt_some

theorem descL_big : ∀ (f g : Nat) (l : List (List UInt8)) (i : Nat), l.length ≤ f → l.length ≤ g → l.length ≤ 1000000 → descL f l i = descL g l i := by
  intro f
  induction f with
  | zero =>
    intro g l i hf hg hb
    cases g with
    | zero => rfl
    | succ g => rw [stop_desc (f := g + 1) (by omega)]; rfl
  | succ f ih =>
    intro g l i hf hg hb
    by_cases h1 : l.length ≤ 1
    · rw [stop_desc h1, stop_desc h1]
    · cases g with
      | zero => omega
      | succ g =>
        obtain ⟨b1, b2, b3⟩ := leftN_bd (show 2 ≤ l.length by omega) (by omega)
        have ht : (l.take (leftN l.length)).length = leftN l.length := by rw [List.length_take]; omega
        have hd : (l.drop (leftN l.length)).length = l.length - leftN l.length := List.length_drop
        rw [descL, descL, if_neg h1, if_neg h1, ih g (l.take (leftN l.length)) i (by omega) (by omega) (by omega), ih g (l.drop (leftN l.length)) (i - leftN l.length) (by omega) (by omega) (by omega)]
theorem proofB_one {l : List (List UInt8)} {i : Nat} (h : l.length ≤ 1) : proofB l i = [] := by
  unfold proofB; rw [stop_desc h]; rfl
theorem proofB_lt {l : List (List UInt8)} {i : Nat} (h : 2 ≤ l.length) (hb : l.length ≤ 1000000) (hi : i < leftN l.length) : proofB l i = proofB (l.take (leftN l.length)) i ++ [rootB (l.drop (leftN l.length))] := by
  obtain ⟨b1, b2, b3⟩ := leftN_bd h (by omega)
  have ht : (l.take (leftN l.length)).length = leftN l.length := by rw [List.length_take]; omega
  unfold proofB
  obtain ⟨f, hf⟩ : ∃ f, l.length = f + 1 := ⟨l.length - 1, by omega⟩
  have e : descL l.length l i = rootB (l.drop (leftN l.length)) :: descL f (l.take (leftN l.length)) i := by
    conv => lhs; rw [hf]
    rw [descL, if_neg (by omega), if_pos hi]
  rw [e, List.reverse_cons, descL_big f _ (l.take (leftN l.length)) i (by omega) (Nat.le_refl _) (by omega)]
theorem proofB_ge {l : List (List UInt8)} {i : Nat} (h : 2 ≤ l.length) (hb : l.length ≤ 1000000) (hi : ¬ i < leftN l.length) : proofB l i = proofB (l.drop (leftN l.length)) (i - leftN l.length) ++ [rootB (l.take (leftN l.length))] := by
  obtain ⟨b1, b2, b3⟩ := leftN_bd h (by omega)
  have hd : (l.drop (leftN l.length)).length = l.length - leftN l.length := List.length_drop
  unfold proofB
  obtain ⟨f, hf⟩ : ∃ f, l.length = f + 1 := ⟨l.length - 1, by omega⟩
  have e : descL l.length l i = rootB (l.take (leftN l.length)) :: descL f (l.drop (leftN l.length)) (i - leftN l.length) := by
    conv => lhs; rw [hf]
    rw [descL, if_neg (by omega), if_neg hi]
  rw [e, List.reverse_cons, descL_big f _ (l.drop (leftN l.length)) (i - leftN l.length) (by omega) (Nat.le_refl _) (by omega)]
/-- the strings of an extension, in order -/
def partB (l : List (List UInt8)) (m : Nat) (wh : Bool) : List (List UInt8) := (partL l.length l m wh).reverse
theorem partL_big : ∀ (f g : Nat) (l : List (List UInt8)) (m : Nat) (wh : Bool), l.length ≤ f → l.length ≤ g → 1 ≤ l.length → 1 ≤ m → l.length ≤ 1000000 → partL f l m wh = partL g l m wh := by
  intro f
  induction f with
  | zero => intro g l m wh hf hg h1 hm hb; omega
  | succ f ih =>
    intro g l m wh hf hg h1 hm1 hb
    cases g with
    | zero => omega
    | succ g =>
      by_cases hm : l.length ≤ m
      · rw [partL, partL, if_pos hm, if_pos hm]
      · obtain ⟨b1, b2, b3⟩ := leftN_bd (show 2 ≤ l.length by omega) (by omega)
        have ht : (l.take (leftN l.length)).length = leftN l.length := by rw [List.length_take]; omega
        have hd : (l.drop (leftN l.length)).length = l.length - leftN l.length := List.length_drop
        rw [partL, partL, if_neg hm, if_neg hm, ih g (l.take (leftN l.length)) m wh (by omega) (by omega) (by omega) hm1 (by omega)]
        by_cases hk : m ≤ leftN l.length
        · rw [if_pos hk, if_pos hk]
        · rw [if_neg hk, if_neg hk, ih g (l.drop (leftN l.length)) (m - leftN l.length) false (by omega) (by omega) (by omega) (by omega) (by omega)]
theorem partB_end {l : List (List UInt8)} {m : Nat} {wh : Bool} (h1 : 1 ≤ l.length) (h : l.length ≤ m) : partB l m wh = if wh then [] else [rootB l] := by
  unfold partB
  obtain ⟨f, hf⟩ : ∃ f, l.length = f + 1 := ⟨l.length - 1, by omega⟩
  rw [hf, partL, if_pos h]
  cases wh <;> rfl
theorem partB_le {l : List (List UInt8)} {m : Nat} {wh : Bool} (h : 2 ≤ l.length) (hb : l.length ≤ 1000000) (hm1 : 1 ≤ m) (hm : ¬ l.length ≤ m) (hk : m ≤ leftN l.length) : partB l m wh = partB (l.take (leftN l.length)) m wh ++ [rootB (l.drop (leftN l.length))] := by
  obtain ⟨b1, b2, b3⟩ := leftN_bd h (by omega)
  have ht : (l.take (leftN l.length)).length = leftN l.length := by rw [List.length_take]; omega
  unfold partB
  obtain ⟨f, hf⟩ : ∃ f, l.length = f + 1 := ⟨l.length - 1, by omega⟩
  have e : partL l.length l m wh = rootB (l.drop (leftN l.length)) :: partL f (l.take (leftN l.length)) m wh := by
    conv => lhs; rw [hf]
    rw [partL, if_neg hm, if_pos hk]
  rw [e, List.reverse_cons, partL_big f _ (l.take (leftN l.length)) m wh (by omega) (Nat.le_refl _) (by omega) hm1 (by omega)]
theorem partB_gt {l : List (List UInt8)} {m : Nat} {wh : Bool} (h : 2 ≤ l.length) (hb : l.length ≤ 1000000) (hm : ¬ l.length ≤ m) (hk : ¬ m ≤ leftN l.length) : partB l m wh = partB (l.drop (leftN l.length)) (m - leftN l.length) false ++ [rootB (l.take (leftN l.length))] := by
  obtain ⟨b1, b2, b3⟩ := leftN_bd h (by omega)
  have hd : (l.drop (leftN l.length)).length = l.length - leftN l.length := List.length_drop
  unfold partB
  obtain ⟨f, hf⟩ : ∃ f, l.length = f + 1 := ⟨l.length - 1, by omega⟩
  have e : partL l.length l m wh = rootB (l.take (leftN l.length)) :: partL f (l.drop (leftN l.length)) (m - leftN l.length) false := by
    conv => lhs; rw [hf]
    rw [partL, if_neg hm, if_neg hk]
  rw [e, List.reverse_cons, partL_big f _ (l.drop (leftN l.length)) (m - leftN l.length) false (by omega) (Nat.le_refl _) (by omega) (by omega) (by omega)]
theorem partB_short (l : List (List UInt8)) (m : Nat) (wh : Bool) : (partB l m wh).length ≤ l.length := by
  unfold partB; rw [List.length_reverse]; exact partL_short _ _ _ _
theorem proofB_short2 (l : List (List UInt8)) (i : Nat) (h : l.length ≤ 1000000) : (proofB l i).length ≤ l.length := by
  have h1 := proofB_short l i h
  have h2 := binL_le l.length l.length
  omega
/-- the facts about a list that is cut in two -/
theorem cut_facts {w : World} {A : Option Addr} {n c : Nat} {xs : List (List UInt8)} (hv : SlS w (.slice A n c) xs) (hn : xs.length = n) (h2 : 2 ≤ n) (hb : n ≤ 1000000) : ∃ b o, A = some ⟨b, o, none⟩ ∧ 1 ≤ leftN n ∧ leftN n < n ∧ (xs.take (leftN n)).length = leftN n ∧ (xs.drop (leftN n)).length = n - leftN n := by
  obtain ⟨b1, b2, b3⟩ := leftN_bd h2 (by omega)
  obtain ⟨b, o, h, _⟩ := hv.get (i := 0) (x := xs[0]'(by omega)) (List.getElem?_eq_getElem _)
  exact ⟨b, o, h, b1, b2, by rw [List.length_take]; omega, by rw [List.length_drop]; omega⟩
set_option maxRecDepth 100000 in
set_option maxHeartbeats 4000000 in
theorem rroot_any : ∀ (f n : Nat) (A : Option Addr) (c : Nat) (xs : List (List UInt8)) (w : World), n ≤ f → f ≤ 10000 → SlS w (.slice A n c) xs → xs.length = n → n ≤ c → (∀ x ∈ xs, x.length ≤ 10000) →
    Calls Tryd.prog 19 #[.slice A n c] w fun e w' => e = .returned (.string ⟨(rootB xs).toArray⟩) ∧ Below w.heap.size w w' := by
  intro f
  induction f with
  | zero =>
    intro n A c xs w hf hf2 hv hn hc hx
    obtain rfl : n = 0 := by omega
    have h0 : xs = [] := List.length_eq_zero_iff.1 hn
    subst h0
    have SM := Lib.hid (rsum_any [] w (by simp))
    rw [show shaB [] = rootB [] from rfl] at SM
    obtain ⟨R, hR⟩ : ∃ z, rootB [] = z := ⟨_, rfl⟩
    rw [hR] at SM ⊢
    clear hR hv
    go_enter Tryd.func19, Tryd.ntmps19
    go_wp2_with fail
    refine SM.out.mono ?_
    rintro e w' ⟨rfl, hb⟩
    have HB := Lib.hid hb
    clear hb
    go_wp2_with fail
    go_ret
    exact ⟨rfl, HB.out⟩
  | succ f ih =>
    intro n A c xs w hf hf2 hv hn hc hx
    by_cases h0 : n ≤ 0
    · exact ih n A c xs w (by omega) (by omega) hv hn hc hx
    · by_cases h1 : n = 1
      · subst h1
        match xs, hn, hx, hv with
        | [a], hn, hx, hv =>
          obtain ⟨b, o, hA, hlt, hca⟩ := hv.get (i := 0) (x := a) rfl
          subst hA
          rw [rootB_one]
          have SM := Lib.hid (fun W => rleaf_any a W (by have := hx a List.mem_cons_self; omega))
          obtain ⟨R, hR⟩ : ∃ z, leafB a = z := ⟨_, rfl⟩
          rw [hR] at SM ⊢
          have hca' : w.cell? ⟨b, o, none⟩ = some (.string ⟨a.toArray⟩) := hca
          clear hR hv hca hx ih
          go_enter Tryd.func19, Tryd.ntmps19
          go_wp2_with fail
          refine (SM.out _).mono ?_
          rintro e w' ⟨rfl, hb⟩
          have HB := Lib.hid hb
          clear hb
          go_wp2_with fail
          go_ret
          exact ⟨rfl, HB.out⟩
      · obtain ⟨b, o, hA, k1, k2, ht, hd⟩ := cut_facts hv hn (by omega) (by omega)
        subst hA
        have hsp := rootB_split (l := xs) (by omega) (by omega)
        rw [hn] at hsp
        have LL := Lib.hid (rleft_any n w (by omega) (by omega))
        have HVW : Hid (∀ W, Below w.heap.size w W → SlS W (.slice (some ⟨b, o, none⟩) n c) xs) := Lib.hid (fun W hb => hv.below hb)
        obtain ⟨k, hk⟩ : ∃ k, leftN n = k := ⟨_, rfl⟩
        rw [hk] at hsp LL k1 k2 ht hd
        have RA : Hid (∀ W, Below w.heap.size w W → Calls Tryd.prog 19 #[.slice (some ⟨b, o, none⟩) k c] W fun e w' => e = .returned (.string ⟨(rootB (xs.take k)).toArray⟩) ∧ Below w.heap.size w w') := Lib.hid (fun W hb =>
          (ih k _ c (xs.take k) W (by omega) (by omega) ((HVW.out W hb).take k (by omega)) ht (by omega) (fun x hx' => hx x (List.mem_of_mem_take hx'))).mono (fun e w' hh => ⟨hh.1, hb.trans (hh.2.mono hb.size)⟩))
        have RB : Hid (∀ W, Below w.heap.size w W → Calls Tryd.prog 19 #[.slice (some ⟨b, o + k, none⟩) (n - k) (c - k)] W fun e w' => e = .returned (.string ⟨(rootB (xs.drop k)).toArray⟩) ∧ Below w.heap.size w w') := Lib.hid (fun W hb =>
          (ih (n - k) _ (c - k) (xs.drop k) W (by omega) (by omega) ((HVW.out W hb).drop k _) hd (by omega) (fun x hx' => hx x (List.mem_of_mem_drop hx'))).mono (fun e w' hh => ⟨hh.1, hb.trans (hh.2.mono hb.size)⟩))
        have NB : Hid (∀ W, Below w.heap.size w W → Calls Tryd.prog 32 #[.string ⟨(rootB (xs.take k)).toArray⟩, .string ⟨(rootB (xs.drop k)).toArray⟩] W fun e w' => e = .returned (.string ⟨(rootB xs).toArray⟩) ∧ Below w.heap.size w w') := Lib.hid (fun W hb => by
          rw [hsp]
          exact (rnode_any _ _ W (by rw [rootB_len]; omega) (by rw [rootB_len]; omega)).mono (fun e w' hh => ⟨hh.1, hb.trans (hh.2.mono hb.size)⟩))
        clear hsp
        obtain ⟨ra, hra⟩ : ∃ z, rootB (xs.take k) = z := ⟨_, rfl⟩
        obtain ⟨rb, hrb⟩ : ∃ z, rootB (xs.drop k) = z := ⟨_, rfl⟩
        obtain ⟨R, hR⟩ : ∃ z, rootB xs = z := ⟨_, rfl⟩
        rw [hra] at RA NB
        rw [hrb] at RB NB
        rw [hR] at NB ⊢
        have hn0 : ((n : Int) == 0) = false := by rw [beq_eq_false_iff_ne]; omega
        have hn1 : ((n : Int) == 1) = false := by rw [beq_eq_false_iff_ne]; omega
        have kn : k ≤ n := by omega
        have kc : k ≤ c := by omega
        have ck : ¬ c = k := by omega
        have hB := Below.refl w.heap.size w
        clear hra hrb hR hv hx ht hd hk ih HVW h1 h0
        go_enter Tryd.func19, Tryd.ntmps19
        go_wp2_with fail
        refine LL.out.mono ?_
        rintro e w' ⟨rfl, rfl⟩
        go_wp2_with fail
        go_region_held3 (fun W => Below w.heap.size w W) (first | assumption | exact Below.drew (by assumption)) (first
          | (go_at_call 19; (first | (with_reducible refine (RA.out _ ?_).mono ?_) | (with_reducible refine (RB.out _ ?_).mono ?_)); (first | with_reducible assumption); rintro e Y ⟨rfl, hy⟩)
          | (go_at_call 32; (with_reducible refine (NB.out _ ?_).mono ?_); (first | with_reducible assumption); rintro e Y ⟨rfl, hy⟩))
        go_wp2_with fail
        go_ret
        exact ⟨rfl, by first | assumption | exact Below.drew (by assumption)⟩
end Go.Proofs.YtgmdjbhclihflaaDoor
