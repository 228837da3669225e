/- The reference's Lines; ignored, pick. -/
import Derived.Test.YtfiabonacpepnaaGreatDoorCtW
import Derived.Laws.DeepStrings4
namespace Go.Proofs.YtfiabonacpepnaaGreatDoor
open Go Go.RowKit Go.Lib Go.Shelf Go.Maps

theorem run_str_sub (t : TypeId) (ht : Tryz.prog.underlying t = some .string) (s : List UInt8) (f i : Nat) (h1 : f ≤ i) (h2 : i ≤ s.length) (w : World) :
    (Instr.slice t (.string ⟨s.toArray⟩) (some (.int .i64 (f : Int))) (some (.int .i64 (i : Int))) none).run Tryz.prog w = .ok (.string ⟨((s.take i).drop f).toArray⟩) w := by
  have hz : (⟨s.toArray⟩ : ByteArray).size = s.length := rfl
  rw [run_slice_string_if w t _ .i64 .i64 _ _ ht, if_pos ⟨by omega, by rw [hz]; omega⟩, if_pos ⟨by omega, by omega⟩]
  have e : (⟨s.toArray⟩ : ByteArray).extract (f : Int).toNat (i : Int).toNat = ⟨((s.take i).drop f).toArray⟩ := by
    rw [extract_eq, Int.toNat_natCast, Int.toNat_natCast, List.drop_take]
  rw [e]
theorem run_str_at (t : TypeId) (ht : Tryz.prog.underlying t = some .string) (s : List UInt8) (i : Nat) (c : UInt8) (h : s[i]? = some c) (w : World) :
    (Instr.index t (.string ⟨s.toArray⟩) (.int .i64 (i : Int))).run Tryz.prog w = .ok (.int .u8 (c.toNat : Int)) w := by
  have hz : (⟨s.toArray⟩ : ByteArray).size = s.length := rfl
  obtain ⟨hlt, hc⟩ := List.getElem?_eq_some_iff.1 h
  have e2 : ∀ (i j : Nat) (hi : i < (⟨s.toArray⟩ : ByteArray).size) (hj : j < s.length), i = j → (⟨s.toArray⟩ : ByteArray)[i]'hi = s[j]'hj := by
    intro i j hi hj hij
    subst hij
    rfl
  rw [run_index_string w t _ .i64 _ ht, dif_pos ⟨by omega, by rw [hz]; omega⟩, e2 _ i _ hlt (by simp), hc]
/-- where Lines stands -/
def LinesAt (s : List UInt8) (k f : Nat) (O : List (List UInt8)) : Prop :=
  (k ≤ s.length ∧ f ≤ k ∧ splitL 10 s = O ++ splitL 10 (s.drop f) ∧ (10 : UInt8) ∉ (s.take k).drop f) ∨ (k = s.length + 1 ∧ splitL 10 s = O)
theorem LinesAt.skip {s : List UInt8} {k f : Nat} {O : List (List UInt8)} {c : UInt8} (h : LinesAt s k f O) (hc : s[k]? = some c) (h10 : c ≠ 10) : LinesAt s (k + 1) f O := by
  have hk := (List.getElem?_eq_some_iff.1 hc).1
  rcases h with ⟨h1, h2, h3, h4⟩ | ⟨h1, _⟩
  · refine .inl ⟨by omega, by omega, h3, ?_⟩
    rw [List.take_add_one, hc]
    show 10 ∉ (s.take k ++ [c]).drop f
    rw [List.drop_append_of_le_length (by rw [List.length_take]; omega)]
    simp only [List.mem_append, List.mem_singleton, not_or]
    exact ⟨h4, fun e => h10 e.symm⟩
  · omega
theorem LinesAt.cut {s : List UInt8} {k f : Nat} {O : List (List UInt8)} (h : LinesAt s k f O) (hc : s[k]? = some 10) : LinesAt s (k + 1) (k + 1) (O ++ [(s.take k).drop f]) := by
  have hk := (List.getElem?_eq_some_iff.1 hc).1
  rcases h with ⟨h1, h2, h3, h4⟩ | ⟨h1, _⟩
  · refine .inl ⟨by omega, Nat.le_refl _, ?_, by simp⟩
    have e : s.drop f = (s.take k).drop f ++ 10 :: s.drop (k + 1) := by
      have e1 : s = s.take k ++ 10 :: s.drop (k + 1) := by
        have := List.take_append_drop k s
        rw [List.drop_eq_getElem_cons hk, (List.getElem?_eq_some_iff.1 hc).2] at this
        exact this.symm
      have e2 := congrArg (List.drop f) e1
      rw [List.drop_append_of_le_length (by rw [List.length_take]; omega)] at e2
      exact e2
    rw [h3, e, split_app _ _ h4]
    simp
  · omega
theorem LinesAt.last {s : List UInt8} {f : Nat} {O : List (List UInt8)} (h : LinesAt s s.length f O) : LinesAt s (s.length + 1) (s.length + 1) (O ++ [(s.take s.length).drop f]) := by
  rcases h with ⟨h1, h2, h3, h4⟩ | ⟨h1, _⟩
  · refine .inr ⟨rfl, ?_⟩
    rw [List.take_length] at h4 ⊢
    rw [h3, split_word h4]
  · omega
theorem LinesAt.bd {s : List UInt8} {k f : Nat} {O : List (List UInt8)} (h : LinesAt s k f O) (hk : k ≤ s.length) : f ≤ k ∧ O.length ≤ s.length + 1 := by
  rcases h with ⟨h1, h2, h3, h4⟩ | ⟨h1, _⟩
  · refine ⟨h2, ?_⟩
    have := (split_len 10 s).1
    rw [h3, List.length_append] at this
    omega
  · omega
set_option maxRecDepth 100000 in
set_option maxHeartbeats 8000000 in
theorem lines_any (s : List UInt8) (w : World) (hl : s.length ≤ 1000000) :
    Calls Tryz.prog 22 #[strV s] w fun e w' => ∃ v, e = .returned v ∧ OwnS w' w.heap.size v (splitL 10 s) ∧ Below w.heap.size w w' := by
  obtain ⟨n, hn⟩ : ∃ n, s.length = n := ⟨_, rfl⟩
  have HN := Lib.hid hn
  obtain ⟨N, hN⟩ : ∃ z, w.heap.size = z := ⟨_, rfl⟩
  have HNN := Lib.hid hN
  have HLS := Lib.hid (show LinesAt s 0 0 [] from .inl ⟨Nat.zero_le _, Nat.le_refl _, by simp, by simp⟩)
  rw [hn] at hl
  obtain ⟨SP, hSP⟩ : ∃ z, splitL 10 s = z := ⟨_, rfl⟩
  have HSP := Lib.hid hSP
  rw [hSP, hN]
  clear hN hSP
  unfold strV
  go_enter Tryz.func22, Tryz.ntmps22
  go_wp2_with fail
  go_loopw [3, 4, 5] (fun ov fv iv wr => ∃ (k f : Nat) (O : List (List UInt8)), iv = .int .i64 k ∧ fv = .int .i64 f ∧ k ≤ n + 1 ∧ f ≤ n + 1 ∧ Hid (LinesAt s k f O ∧ OwnS wr N ov O ∧ Below N w wr ∧ N ≤ wr.heap.size)) (fun _ _ iv _ => n + 1 - (intOf iv).toNat)
  case atStart => exact ⟨0, 0, [], rfl, rfl, Nat.zero_le _, Nat.zero_le _, Lib.hid ⟨HLS.out, World.ownsRow_nil _ _ _ _, Below.refl _ _, by rw [HNN.out]; exact Nat.le_refl _⟩⟩
  case round =>
    obtain ⟨k, f, O, rfl, rfl, hk, hf, HR⟩ := hrel
    have HL := Lib.hid HR.out.1
    have HO := Lib.hid HR.out.2.1
    have HB := Lib.hid HR.out.2.2.1
    have hNr := HR.out.2.2.2
    clear HR
    by_cases hkn : k ≤ n
    · have hb := HL.out.bd (by rw [HN.out]; exact hkn)
      have hfk := hb.1
      have hOl : O.length ≤ 1000001 := by have := hb.2; have := HN.out; omega
      clear hb
      have cutEnd : ∀ P : List UInt8, P = (s.take k).drop f → Hid (∀ w5 v5, w5.ownsRow N 9 1 v5 (O.length + 1) (O.map strV ++ [strV P]) → OwnS w5 N v5 (O ++ [(s.take k).drop f])) := fun P hP => Lib.hid (fun w5 v5 h => by
        unfold OwnS
        rw [List.length_append, List.map_append, ← hP]
        exact h)
      by_cases hkl : k = n
      · subst hkl
        have q0 : ((k : Int) == (k : Int)) = true := by simp
        have hsub := fun W => run_str_sub 9 Tryz.underlying9 s f k hfk (by rw [HN.out]; exact Nat.le_refl _) W
        have HNX : Hid (LinesAt s (k + 1) (k + 1) (O ++ [(s.take k).drop f])) := Lib.hid (by have h := HL.out; have e := HN.out; rw [← e] at h ⊢; exact h.last)
        obtain ⟨P, hP⟩ : ∃ P, (s.take k).drop f = P := ⟨_, rfl⟩
        have HCE := cutEnd P hP.symm
        rw [hP] at hsub
        clear hP cutEnd
        go_wp2_with ((with_reducible refine wpList_stop (o := ⟨some 28, _, _, _, _, _⟩) ?_))
        unfold Stop
        obtain ⟨i0, hi, hz0, hz1, hz2⟩ := info_parts string_info
        have b8 : Below wr.heap.size wr (wr.alloc (.cells #[.string ⟨P.toArray⟩] 9)) := (Below.refl _ _).alloc (Nat.le_refl _) _
        have ow8 : OwnS (wr.alloc (.cells #[.string ⟨P.toArray⟩] 9)) N u3 O := HO.out.kept fun g _ h2 => b8.block g h2
        refine wpList_append_own _ rfl (.tmp 22) (.tmp 27) 37 rfl N 9 i0 _ 1 16 Tryz.underlying37 hi hz0 hz1 hz2 rfl (by decide) u3 _ _ rfl ow8 ⟨wr.heap.size, 0, none⟩ 1 1 [.string ⟨P.toArray⟩] rfl rfl ?_ ?_ ?_ ?_ ?_ ?_
        · intro j u hj
          rw [addr_add, (RowAt.new wr 9 #[.string ⟨P.toArray⟩]).cell j, ← hj]
          simp
        · intro u hu
          simp at hu
          subst hu
          rfl
        · unfold maxLen; omega
        · omega
        · simp; omega
        intro v9 w9 hown9 hg9 _
        have HEND := Lib.hid (show LinesAt s (k + 1) (k + 1) (O ++ [(s.take k).drop f]) ∧ OwnS w9 N v9 (O ++ [(s.take k).drop f]) ∧ Below N w w9 ∧ N ≤ w9.heap.size from ⟨HNX.out, HCE.out _ _ hown9, (HB.out.trans (b8.mono hNr)).grown hg9 (by simp; omega) (fun j e => (World.ownsRow.lt ow8 j e).1), by have := hg9.size; simp at this; omega⟩)
        clear hown9 hg9 ow8 b8 hi hz0 hz1 hz2 hsub
        go_wp2_with fail
        go_roundw
        case rel => exact ⟨k + 1, k + 1, _, by go_num, by go_num, by omega, by omega, HEND⟩
        case measure => first | (simp [intOf]; done) | (simp [intOf]; omega)
      · have q0 : ((k : Int) == (n : Int)) = false := by rw [beq_eq_false_iff_ne]; omega
        have q1 : decide (k = n) = false := by simpa using hkl
        have q2 : (k == n) = false := by simpa using hkl
        obtain ⟨c, hck⟩ : ∃ c, s[k]? = some c := ⟨_, List.getElem?_eq_getElem (by rw [HN.out]; omega)⟩
        have hix := fun W => run_str_at 9 Tryz.underlying9 s k c hck W
        by_cases h10 : c = 10
        · subst h10
          have hsub := fun W => run_str_sub 9 Tryz.underlying9 s f k hfk (by rw [HN.out]; omega) W
          have HNX := Lib.hid (HL.out.cut hck)
          obtain ⟨P, hP⟩ : ∃ P, (s.take k).drop f = P := ⟨_, rfl⟩
          have HCE := cutEnd P hP.symm
          rw [hP] at hsub
          clear hP cutEnd hck
          go_wp2_with ((with_reducible refine wpList_stop (o := ⟨some 28, _, _, _, _, _⟩) ?_))
          unfold Stop
          obtain ⟨i0, hi, hz0, hz1, hz2⟩ := info_parts string_info
          have b8 : Below wr.heap.size wr (wr.alloc (.cells #[.string ⟨P.toArray⟩] 9)) := (Below.refl _ _).alloc (Nat.le_refl _) _
          have ow8 : OwnS (wr.alloc (.cells #[.string ⟨P.toArray⟩] 9)) N u3 O := HO.out.kept fun g _ h2 => b8.block g h2
          refine wpList_append_own _ rfl (.tmp 22) (.tmp 27) 37 rfl N 9 i0 _ 1 16 Tryz.underlying37 hi hz0 hz1 hz2 rfl (by decide) u3 _ _ rfl ow8 ⟨wr.heap.size, 0, none⟩ 1 1 [.string ⟨P.toArray⟩] rfl rfl ?_ ?_ ?_ ?_ ?_ ?_
          · intro j u hj
            rw [addr_add, (RowAt.new wr 9 #[.string ⟨P.toArray⟩]).cell j, ← hj]
            simp
          · intro u hu
            simp at hu
            subst hu
            rfl
          · unfold maxLen; omega
          · omega
          · simp; omega
          intro v9 w9 hown9 hg9 _
          have HEND := Lib.hid (show LinesAt s (k + 1) (k + 1) (O ++ [(s.take k).drop f]) ∧ OwnS w9 N v9 (O ++ [(s.take k).drop f]) ∧ Below N w w9 ∧ N ≤ w9.heap.size from ⟨HNX.out, HCE.out _ _ hown9, (HB.out.trans (b8.mono hNr)).grown hg9 (by simp; omega) (fun j e => (World.ownsRow.lt ow8 j e).1), by have := hg9.size; simp at this; omega⟩)
          clear hown9 hg9 ow8 b8 hi hz0 hz1 hz2 hsub hix
          go_wp2_with fail
          go_roundw
          case rel => exact ⟨k + 1, k + 1, _, by go_num, by go_num, by omega, by omega, HEND⟩
          case measure => simp [intOf]; omega
        · have n10 : ((c.toNat : Int) == 10) = false := by
            rw [beq_eq_false_iff_ne]
            intro e
            exact h10 (by rw [← ofNat_toNat c, show c.toNat = 10 by omega]; rfl)
          have HNX := Lib.hid (HL.out.skip hck h10)
          clear hck h10 cutEnd
          go_wp2_with fail
          go_roundw
          case rel => exact ⟨k + 1, f, O, by go_num, by go_num, by omega, by omega, Lib.hid ⟨HNX.out, HO.out, HB.out, hNr⟩⟩
          case measure => simp [intOf]; omega
    · obtain rfl : k = n + 1 := by omega
      have HFIN : Hid (SP = O) := Lib.hid (by
        rcases HL.out with ⟨h1, _⟩ | ⟨_, h2⟩
        · have := HN.out; omega
        · rw [← HSP.out]; exact h2)
      have q0 : decide (((n + 1 : Nat) : Int) ≤ (n : Int)) = false := by simp; omega
      have q1 : decide (n + 1 ≤ n) = false := by simp
      go_wp2_with fail
      go_ret
      exact ⟨_, rfl, by rw [HFIN.out]; exact HO.out, HB.out⟩
def pickN (c n : Int) : Int := (if c < 0 then -(c + 1) else c) % n
theorem pickN_bd (c n : Int) (hn : 1 ≤ n) : 0 ≤ pickN c n ∧ pickN c n < n := by
  unfold pickN; exact ⟨Int.emod_nonneg _ (by omega), Int.emod_lt_of_pos _ (by omega)⟩
set_option maxHeartbeats 400000 in
theorem pick_any (c n : Int) (w : World) (h1 : -9223372036854775808 ≤ c) (h2 : c ≤ 9223372036854775807) (hn : 1 ≤ n) (hn2 : n ≤ 9223372036854775807) :
    Calls Tryz.prog 24 #[.int .i64 c, .int .i64 n] w fun e w' => e = .returned (.int .i64 (pickN c n)) ∧ w = w' := by
  by_cases hc : c < 0
  · have e : pickN c n = -(c + 1).tmod n := by
      unfold pickN; rw [if_pos hc, ← Int.neg_tmod, Int.tmod_eq_emod_of_nonneg (by omega)]
    have H := Lib.hid e; clear e
    go_enter Tryz.func24, Tryz.ntmps24
    go_wp2
    go_ret
    exact ⟨by rw [H.out]; rfl, rfl⟩
  · have e : pickN c n = c % n := by unfold pickN; rw [if_neg hc]
    have H := Lib.hid e; clear e
    go_enter Tryz.func24, Tryz.ntmps24
    go_wp2
    go_ret
    exact ⟨by rw [H.out]; rfl, rfl⟩
theorem ignored_any (l : List UInt8) (w : World) (hl : l.length ≤ 1000000) :
    Calls Tryz.prog 23 #[strV l] w fun e w' => e = .returned (.bool (ignoredL l)) ∧ w = w' := by
  rcases ignored_cases l with ⟨hig, rfl | ⟨r, rfl⟩⟩ | ⟨hig, c, r, rfl, hc35⟩
  · unfold strV
    rw [hig]
    clear hig
    go_enter Tryz.func23, Tryz.ntmps23
    go_wp2
    go_ret
    exact ⟨rfl, rfl⟩
  · unfold strV
    rw [hig]
    clear hig
    go_enter Tryz.func23, Tryz.ntmps23
    go_wp2
    go_ret
    exact ⟨rfl, rfl⟩
  · unfold strV
    rw [hig]
    have hix := fun W => run_str_head 9 Tryz.underlying9 c r W
    have n35 : ((c.toNat : Int) == 35) = false := by
      rw [beq_eq_false_iff_ne]
      intro e
      exact hc35 (by rw [← ofNat_toNat c, show c.toNat = 35 by omega]; rfl)
    clear hig hc35 hl
    go_enter Tryz.func23, Tryz.ntmps23
    go_wp2
    go_ret
    exact ⟨rfl, rfl⟩
end Go.Proofs.YtfiabonacpepnaaGreatDoor
