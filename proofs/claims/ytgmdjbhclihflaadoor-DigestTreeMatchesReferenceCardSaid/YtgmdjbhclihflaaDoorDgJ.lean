/- Leaf, Node, Chain. -/
import Derived.Test.YtgmdjbhclihflaaDoorDgH
import Derived.Test.YtgmdjbhclihflaaDoorDgShelf
namespace Go.Proofs.YtgmdjbhclihflaaDoor
open Go Go.RowKit Go.Lib Go.Shelf

theorem join_nil (xs : List (List UInt8)) : Lib.join xs [] = xs.flatten := by
  cases xs with
  | nil => rfl
  | cons x r =>
    rw [Lib.join_cons]
    unfold Lib.joinTail
    simp
/-- the strings of a slice -/
def StrsAt (w : World) (bk n : Nat) (xs : List (List UInt8)) : Prop := xs.length = n ∧ bk < w.heap.size ∧ ∀ (j : Nat) x, xs[j]? = some x → w.cell? ⟨bk, j, none⟩ = some (.string ⟨x.toArray⟩)
theorem StrsAt.below {w w' : World} {bk n : Nat} {xs : List (List UInt8)} (h : StrsAt w bk n xs) (hb : Below w.heap.size w w') : StrsAt w' bk n xs :=
  ⟨h.1, Nat.lt_of_lt_of_le h.2.1 hb.size, fun j x hx => (hb.cell (p := ⟨bk, j, none⟩) h.2.1).trans (h.2.2 j x hx)⟩
theorem join_any (w : World) (bk n : Nat) (xs : List (List UInt8)) (h : StrsAt w bk n xs) (hl : xs.flatten.length ≤ 100000) (hn : n ≤ 1000) :
    Calls Tryd.prog 59 #[.slice (some ⟨bk, 0, none⟩) n n, .string ⟨#[]⟩] w fun e w' => e = .returned (.string ⟨xs.flatten.toArray⟩) ∧ Below w.heap.size w w' := by
  have e : ((xs.map fun x => (⟨x.toArray⟩ : ByteArray)).map (·.data.toList)) = xs := by simp [Function.comp_def]
  have h2 := Tryd.strings_Join bk 0 n (xs.map fun x => (⟨x.toArray⟩ : ByteArray)) ⟨#[]⟩ w (fun j x hx => by
    rw [List.getElem?_map] at hx
    cases hj : xs[j]? with
    | none => rw [hj] at hx; cases hx
    | some y => rw [hj] at hx; simp at hx; rw [← hx, Nat.zero_add]; exact h.2.2 j y hj) h.2.1 (by rw [List.length_map, h.1]; omega) (by rw [List.length_map, h.1]; exact Nat.le_refl _) (by rw [e]; rw [show (⟨#[]⟩ : ByteArray).data.toList = [] from rfl, join_nil]; omega)
  rw [e, show (⟨#[]⟩ : ByteArray).data.toList = [] from rfl, join_nil, List.length_map, h.1] at h2
  exact h2
set_option maxRecDepth 100000 in
set_option maxHeartbeats 1000000 in
theorem marked1_any (m : List UInt8) (bm bk n : Nat) (xs : List (List UInt8)) (w : World) (hm : w.cell? ⟨bm, 0, none⟩ = some (.string ⟨m.toArray⟩)) (h : StrsAt w bk n xs) (hl : xs.flatten.length ≤ 90000) (hml : m.length ≤ 1000) (hn : n ≤ 1000) (hK : KAt w) :
    Calls Tryd.prog 58 #[.slice (some ⟨bk, 0, none⟩) n n, .pointer (some ⟨bm, 0, none⟩)] w fun e w' => e = .returned (.string ⟨(shaB (m ++ xs.flatten)).toArray⟩) ∧ Below w.heap.size w w' := by
  have JN := Lib.hid (fun (W : World) (hb : Below w.heap.size w W) => join_any W bk n xs (h.below hb) (by omega) hn)
  have SM := Lib.hid (fun (W : World) (hb : Below w.heap.size w W) => sum_any (m ++ xs.flatten) W (by rw [List.length_append]; omega) (hK.below hb))
  obtain ⟨R, hR⟩ : ∃ R, shaB (m ++ xs.flatten) = R := ⟨_, rfl⟩
  rw [hR] at SM ⊢
  have happ := append_list m xs.flatten
  obtain ⟨J, hJ⟩ : ∃ J, xs.flatten = J := ⟨_, rfl⟩
  rw [hJ] at JN SM happ hl
  clear h hn hK hR hJ
  have HLT := Lib.hid (show bm < w.heap.size from World.block_lt_of_cell? w _ hm)
  have hcat : ¬ 9223372036854775807 < m.length + J.length := by omega
  go_enter Tryd.func58, Tryd.ntmps58
  go_wp2_with fail
  go_region_held3 (fun w' => w'.cell? ⟨bm, 0, none⟩ = some (.string ⟨m.toArray⟩)) (go_keep) (first | (go_at_call 59; (with_reducible refine (JN.out _ (Below.refl _ _).drew).mono ?_); rintro e w1 ⟨rfl, hb1⟩; have hbw1 := (Below.refl w.heap.size w).drew.trans hb1; have c1 : w1.cell? ⟨bm, 0, none⟩ = some (.string ⟨m.toArray⟩) := (hbw1.cell (p := ⟨bm, 0, none⟩) HLT.out).trans hm) | (go_at_call 27; (with_reducible refine (SM.out _ hbw1).mono ?_); rintro e w2 ⟨rfl, hb2⟩; have hbw2 := hbw1.trans (hb2.mono hbw1.size); have c2 : w2.cell? ⟨bm, 0, none⟩ = some (.string ⟨m.toArray⟩) := (hbw2.cell (p := ⟨bm, 0, none⟩) HLT.out).trans hm))
  have HB := Lib.hid hbw2
  go_wp2_with fail
  go_ret
  exact ⟨rfl, HB.out⟩
theorem marked_any (m : List UInt8) (w : World) :
    Calls Tryd.prog 47 #[.string ⟨m.toArray⟩] w fun e w' => e = .returned (.func (.func 58) #[] #[.pointer (some ⟨w.heap.size, 0, none⟩)]) ∧ w.alloc (.cells #[.string ⟨m.toArray⟩] 9) = w' := by
  go_enter Tryd.func47, Tryd.ntmps47
  go_wp2_with fail
  go_ret
  exact ⟨rfl, rfl⟩
set_option maxRecDepth 100000 in
set_option maxHeartbeats 1000000 in
theorem leaf_any (s : List UInt8) (w : World) (hs : s.length ≤ 80000) (hK : KAt w) :
    Calls Tryd.prog 26 #[.string ⟨s.toArray⟩] w fun e w' => e = .returned (.string ⟨(shaB (0 :: s)).toArray⟩) ∧ Below w.heap.size w w' := by
  have b2 : Below w.heap.size w ((w.alloc (.cells #[.string ⟨#[0]⟩] 9)).alloc (.cells #[.string ⟨s.toArray⟩] 9)) := ((Below.refl _ _).alloc (Nat.le_refl _) _).alloc (by simp) _
  have r1 := (RowAt.new w 9 #[.string ⟨#[0]⟩]).alloc (.cells #[.string ⟨s.toArray⟩] 9)
  have r2 := row_new1 w (.cells #[.string ⟨#[0]⟩] 9) 9 #[.string ⟨s.toArray⟩]
  have MK := Lib.hid (marked1_any [0] w.heap.size (w.heap.size + 1) 1 [s] _ (r1.cell 0) ⟨rfl, r2.lt, fun j x hx => by
    rw [r2.cell j]
    match j, hx with
    | 0, hx => cases hx; rfl
    | j + 1, hx => simp at hx⟩ (by simp; omega) (by simp) (by omega) (hK.below b2))
  rw [show ([0] : List UInt8) ++ [s].flatten = 0 :: s by simp] at MK
  obtain ⟨R, hR⟩ : ∃ R, shaB (0 :: s) = R := ⟨_, rfl⟩
  rw [hR] at MK ⊢
  have HB2 := Lib.hid b2
  clear r1 r2 b2 hR hK
  go_enter Tryd.func26, Tryd.ntmps26
  go_wp2_with fail
  refine (marked_any [0] w).mono ?_
  rintro e w' ⟨rfl, rfl⟩
  go_wp2_with fail
  refine MK.out.mono ?_
  rintro e w3 ⟨rfl, hx⟩
  have HE := Lib.hid (HB2.out.trans (hx.mono HB2.out.size))
  clear hx
  go_wp2_with fail
  go_ret
  exact ⟨rfl, HE.out⟩
set_option maxRecDepth 100000 in
set_option maxHeartbeats 1000000 in
theorem node_any (a b : List UInt8) (w : World) (ha : a.length ≤ 40000) (hb : b.length ≤ 40000) (hK : KAt w) :
    Calls Tryd.prog 29 #[.string ⟨a.toArray⟩, .string ⟨b.toArray⟩] w fun e w' => e = .returned (.string ⟨(shaB (1 :: (a ++ b))).toArray⟩) ∧ Below w.heap.size w w' := by
  have b2 : Below w.heap.size w ((w.alloc (.cells #[.string ⟨#[1]⟩] 9)).alloc (.cells #[.string ⟨a.toArray⟩, .string ⟨b.toArray⟩] 9)) := ((Below.refl _ _).alloc (Nat.le_refl _) _).alloc (by simp) _
  have r1 := (RowAt.new w 9 #[.string ⟨#[1]⟩]).alloc (.cells #[.string ⟨a.toArray⟩, .string ⟨b.toArray⟩] 9)
  have r2 := row_new1 w (.cells #[.string ⟨#[1]⟩] 9) 9 #[.string ⟨a.toArray⟩, .string ⟨b.toArray⟩]
  have MK := Lib.hid (marked1_any [1] w.heap.size (w.heap.size + 1) 2 [a, b] _ (r1.cell 0) ⟨rfl, r2.lt, fun j x hx => by
    rw [r2.cell j]
    match j, hx with
    | 0, hx => cases hx; rfl
    | 1, hx => cases hx; rfl
    | j + 2, hx => simp at hx⟩ (by simp; omega) (by simp) (by omega) (hK.below b2))
  rw [show ([1] : List UInt8) ++ [a, b].flatten = 1 :: (a ++ b) by simp] at MK
  obtain ⟨R, hR⟩ : ∃ R, shaB (1 :: (a ++ b)) = R := ⟨_, rfl⟩
  rw [hR] at MK ⊢
  have HB2 := Lib.hid b2
  clear r1 r2 b2 hR hK
  go_enter Tryd.func29, Tryd.ntmps29
  go_wp2_with fail
  refine (marked_any [1] w).mono ?_
  rintro e w' ⟨rfl, rfl⟩
  go_wp2_with fail
  refine MK.out.mono ?_
  rintro e w3 ⟨rfl, hx⟩
  have HE := Lib.hid (HB2.out.trans (hx.mono HB2.out.size))
  clear hx
  go_wp2_with fail
  go_ret
  exact ⟨rfl, HE.out⟩
set_option maxRecDepth 100000 in
set_option maxHeartbeats 1000000 in
theorem chain_any (a b : List UInt8) (w : World) (ha : a.length ≤ 40000) (hb : b.length ≤ 40000) (hK : KAt w) :
    Calls Tryd.prog 33 #[.string ⟨a.toArray⟩, .string ⟨b.toArray⟩] w fun e w' => e = .returned (.string ⟨(shaB (2 :: (a ++ b))).toArray⟩) ∧ Below w.heap.size w w' := by
  have b2 : Below w.heap.size w ((w.alloc (.cells #[.string ⟨#[2]⟩] 9)).alloc (.cells #[.string ⟨a.toArray⟩, .string ⟨b.toArray⟩] 9)) := ((Below.refl _ _).alloc (Nat.le_refl _) _).alloc (by simp) _
  have r1 := (RowAt.new w 9 #[.string ⟨#[2]⟩]).alloc (.cells #[.string ⟨a.toArray⟩, .string ⟨b.toArray⟩] 9)
  have r2 := row_new1 w (.cells #[.string ⟨#[2]⟩] 9) 9 #[.string ⟨a.toArray⟩, .string ⟨b.toArray⟩]
  have MK := Lib.hid (marked1_any [2] w.heap.size (w.heap.size + 1) 2 [a, b] _ (r1.cell 0) ⟨rfl, r2.lt, fun j x hx => by
    rw [r2.cell j]
    match j, hx with
    | 0, hx => cases hx; rfl
    | 1, hx => cases hx; rfl
    | j + 2, hx => simp at hx⟩ (by simp; omega) (by simp) (by omega) (hK.below b2))
  rw [show ([2] : List UInt8) ++ [a, b].flatten = 2 :: (a ++ b) by simp] at MK
  obtain ⟨R, hR⟩ : ∃ R, shaB (2 :: (a ++ b)) = R := ⟨_, rfl⟩
  rw [hR] at MK ⊢
  have HB2 := Lib.hid b2
  clear r1 r2 b2 hR hK
  go_enter Tryd.func33, Tryd.ntmps33
  go_wp2_with fail
  refine (marked_any [2] w).mono ?_
  rintro e w' ⟨rfl, rfl⟩
  go_wp2_with fail
  refine MK.out.mono ?_
  rintro e w3 ⟨rfl, hx⟩
  have HE := Lib.hid (HB2.out.trans (hx.mono HB2.out.size))
  clear hx
  go_wp2_with fail
  go_ret
  exact ⟨rfl, HE.out⟩
end Go.Proofs.YtgmdjbhclihflaaDoor
