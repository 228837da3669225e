/- The law's heads, the reference's Same. -/
import Derived.Test.YtgmdjbhclihflaaDoorDgWy
import Derived.Laws.BytesString
namespace Go.Proofs.YtgmdjbhclihflaaDoor
open Go Go.RowKit Go.Lib Go.Shelf
attribute [local go_sem] Oper.semAt_some
abbrev Z32 : Array Value := #[.int .u8 0, .int .u8 0, .int .u8 0, .int .u8 0, .int .u8 0, .int .u8 0, .int .u8 0, .int .u8 0, .int .u8 0, .int .u8 0, .int .u8 0, .int .u8 0, .int .u8 0, .int .u8 0, .int .u8 0, .int .u8 0, .int .u8 0, .int .u8 0, .int .u8 0, .int .u8 0, .int .u8 0, .int .u8 0, .int .u8 0, .int .u8 0, .int .u8 0, .int .u8 0, .int .u8 0, .int .u8 0, .int .u8 0, .int .u8 0, .int .u8 0, .int .u8 0]
theorem mk32 (w : World) : (Instr.makeSlice 45 (.int .i64 32) (.int .i64 32)).run Tryd.prog w = .ok (.slice (some ⟨w.heap.size, 0, none⟩) 32 32) (w.alloc (.cells Z32 5)) := by kernel_rfl
def hd0 : List UInt8 := List.replicate 32 0
theorem cv32 (w : World) (b : Nat) (h : RowAt w b 5 Z32) : (convert 45 9 (.slice (some ⟨b, 0, none⟩) 32 32)).run Tryd.prog w = .ok (.string ⟨hd0.toArray⟩) w := by
  refine run_convert_bytes_back (P := Tryd.prog) w 45 9 5 ⟨b, 0, none⟩ 32 hd0 Tryd.underlying45 Tryd.underlying5 Tryd.underlying9 (fun j hj => ?_)
  have hj2 : j < 32 := by simpa [hd0] using hj
  rw [Go.WideShapes.add_plain, Nat.zero_add, h.cell j]
  have e : Z32 = Array.replicate 32 (.int .u8 (0 : Int)) := rfl
  have e2 : (hd0[j]'hj).toNat = 0 := by
    have : hd0[j]'hj = 0 := List.getElem_replicate hj
    rw [this]; rfl
  rw [e, Array.getElem?_replicate, if_pos hj2, e2]
  rfl
def hstep (p : List (List UInt8) × List UInt8) (x : List UInt8) : List (List UInt8) × List UInt8 := ((2 :: (p.2 ++ x)) :: p.1, chainB p.2 x)
def headsF (l : List (List UInt8)) : List (List UInt8) × List UInt8 := l.foldl hstep ([], hd0)
theorem headsF_snoc (l : List (List UInt8)) (x : List UInt8) : headsF (l ++ [x]) = hstep (headsF l) x := by simp [headsF]
theorem headsF_next {l : List (List UInt8)} {i : Nat} {x : List UInt8} (h : l[i]? = some x) : headsF (l.take (i + 1)) = hstep (headsF (l.take i)) x := by
  rw [List.take_add_one, h]
  exact headsF_snoc _ _
theorem snoc_ind {P : List (List UInt8) → Prop} (h0 : P []) (h1 : ∀ l x, P l → P (l ++ [x])) : ∀ l, P l := by
  intro l
  rw [← List.reverse_reverse l]
  induction l.reverse with
  | nil => exact h0
  | cons x r ih => rw [List.reverse_cons]; exact h1 _ _ ih
theorem headsF_len : ∀ (l : List (List UInt8)), (headsF l).1.length = l.length ∧ (headsF l).2.length = 32 := by
  refine snoc_ind ⟨rfl, by simp [headsF, hd0]⟩ ?_
  intro l x ih
  rw [headsF_snoc]; exact ⟨by simp [hstep, ih.1], shaB_len _⟩
theorem headsF_small (K : Nat) : ∀ (l : List (List UInt8)), (∀ x ∈ l, x.length ≤ K) → ∀ y ∈ (headsF l).1, y.length ≤ K + 33 := by
  refine snoc_ind ?_ ?_
  · intro _ y hy; simp [headsF] at hy
  · intro l x ih hK y hy
    rw [headsF_snoc] at hy
    rcases List.mem_cons.1 (show y ∈ (2 :: ((headsF l).2 ++ x)) :: (headsF l).1 from hy) with rfl | hy
    · have h1 := (headsF_len l).2
      have h2 := hK x (by simp)
      simp; omega
    · exact ih (fun z hz => hK z (by simp [hz])) y hy
set_option maxRecDepth 100000 in
set_option maxHeartbeats 4000000 in
theorem heads_any (va : Value) (l : List (List UInt8)) (w : World) (hv : SlS w va l) (hn : l.length ≤ 1000) (hx : ∀ x ∈ l, x.length ≤ 10000) (hK : KAt w) :
    Calls Tryd.prog 35 #[va] w fun e w' => ∃ v, e = .returned (.tuple #[v, .string ⟨(headsF l).2.toArray⟩]) ∧ SlS w' v (headsF l).1 ∧ Below w.heap.size w w' := by
  obtain ⟨A, c, rfl⟩ := hv.slice
  obtain ⟨n, hln⟩ : ∃ n, l.length = n := ⟨_, rfl⟩
  rw [hln] at hv hn ⊢
  have HV := Lib.hid hv
  have HX := Lib.hid hx
  have HL := Lib.hid hln
  have HK : Hid (∀ W, Below w.heap.size w W → KAt W) := Lib.hid (fun W hb => hK.below hb)
  have hmk := mk32
  have hcv := cv32 _ _ (RowAt.new w 5 Z32)
  have HB0 : Hid (Below w.heap.size w (w.alloc (.cells Z32 5))) := Lib.hid ((Below.refl _ _).alloc (Nat.le_refl _) _)
  obtain ⟨hh, hhd⟩ : ∃ z, hd0 = z := ⟨_, rfl⟩
  rw [hhd] at hcv
  have HH : Hid (headsF (l.take 0) = ([], hh)) := Lib.hid (by rw [← hhd]; rfl)
  obtain ⟨R, hR⟩ : ∃ z, headsF l = z := ⟨_, rfl⟩
  rw [hR]
  have HR := Lib.hid hR
  clear hv hx hK hhd hln hR
  go_enter Tryd.func35, Tryd.ntmps35
  go_wp2_with fail
  clear hmk hcv
  obtain ⟨W0, hW0⟩ : ∃ z, w.alloc (.cells Z32 5) = z := ⟨_, rfl⟩
  rw [hW0] at HB0 ⊢
  clear hW0
  go_loopw [4, 5, 6] (fun v4 v5 v6 wr => ∃ (i : Nat) (h : List UInt8) (out : List (List UInt8)), v4 = .string ⟨h.toArray⟩ ∧ v6 = .int .i64 i ∧ i ≤ n ∧ h.length ≤ 32 ∧ Hid (headsF (l.take i) = (out, h) ∧ SlS wr v5 out ∧ Below w.heap.size w wr)) (fun _ _ v6 _ => n - (RowKit.intOf v6).toNat)
  case atStart => exact ⟨0, hh, [], rfl, rfl, by omega, by have := (headsF_len (l.take 0)).2; rw [HH.out] at this; exact Nat.le_of_eq this, Lib.hid ⟨HH.out, .inl ⟨rfl, _, _, rfl⟩, HB0.out⟩⟩
  case round =>
    obtain ⟨i, h, out, rfl, rfl, hi, hhl, HS⟩ := hrel
    obtain ⟨v5, hv5⟩ : ∃ z, z = u5 := ⟨_, rfl⟩
    subst hv5
    by_cases hi2 : i < n
    · have hi2d : decide (i < n) = true := by simp; omega
      obtain ⟨x, hx⟩ : ∃ x, l[i]? = some x := ⟨_, List.getElem?_eq_getElem (by rw [HL.out]; exact hi2)⟩
      obtain ⟨b, o, hA, hlt, hcx⟩ := HV.out.get hx
      subst hA
      have hxl : x.length ≤ 10000 := HX.out x (List.mem_of_getElem? hx)
      have cx := (HS.out.2.2.cell (p := ⟨b, o + i, none⟩) hlt).trans hcx
      have HC : Hid (∀ W, Below w.heap.size w W → W.cell? ⟨b, o + i, none⟩ = some (.string ⟨x.toArray⟩)) := Lib.hid (fun W hb => (hb.cell (p := ⟨b, o + i, none⟩) hlt).trans hcx)
      have HNX : Hid (headsF (l.take (i + 1)) = ((2 :: (h ++ x)) :: out, chainB h x)) := Lib.hid (by rw [headsF_next hx, HS.out.1]; rfl)
      have HOL : Hid (out.length = i) := Lib.hid (by have := (headsF_len (l.take i)).1; rw [HS.out.1, List.length_take, HL.out, Nat.min_eq_left hi] at this; exact this)
      obtain ⟨h2, hh2⟩ : ∃ z, chainB h x = z := ⟨_, rfl⟩
      have CH : Hid (∀ W, Below w.heap.size w W → Calls Tryd.prog 33 #[.string ⟨h.toArray⟩, .string ⟨x.toArray⟩] W fun e w' => e = .returned (.string ⟨h2.toArray⟩) ∧ Below W.heap.size W w') := Lib.hid (fun W hb => by
        rw [← hh2]; exact chain_any h x W (by omega) (by omega) (HK.out W hb))
      rw [hh2] at HNX
      have happ1 := append_list [2] h
      have happ2 := append_list (2 :: h) x
      have hcat : ¬ 9223372036854775807 < 1 + h.length := by omega
      have hcat2 : ¬ 9223372036854775807 < h.length + 1 + x.length := by omega
      clear hx hlt hcx hh2
      go_wp2_with (first | ((with_reducible refine wpList_stop (o := ⟨some 24, _, _, _, _, _⟩) ?_)))
      unfold Stop
      refine wpList_append_strs (.tmp 22) (.tmp 23) wr.heap.size [2 :: (h ++ x)] out _ _ (own_oneL _ _) (HS.out.2.1.below ((Below.refl _ _).alloc (Nat.le_refl _) _)) (by have := HOL.out; simp; omega) (by simp) rfl rfl rfl rfl (fun v3 W3 ho3 hg3 => ?_)
      have b3 : Below wr.heap.size wr W3 := ((Below.refl wr.heap.size wr).alloc (Nat.le_refl _) _).grown hg3 (by simp) (fun j e => by simp [Value.ownBlock] at e; omega)
      have H3 := Lib.hid (And.intro ho3.sls (HS.out.2.2.trans (b3.mono HS.out.2.2.size)))
      clear ho3 hg3 b3 cx
      have cx3 := HC.out W3 H3.out.2
      go_wp2_with fail
      refine (CH.out W3 H3.out.2).mono ?_
      rintro e Z ⟨rfl, hz⟩
      have HZ := Lib.hid (And.intro (H3.out.1.below hz) (H3.out.2.trans (hz.mono H3.out.2.size)))
      clear hz cx3
      go_wp2_with fail
      go_roundw
      case rel => exact ⟨i + 1, h2, (2 :: (h ++ x)) :: out, rfl, by go_num, by omega, by have := (headsF_len (l.take (i + 1))).2; rw [HNX.out] at this; exact Nat.le_of_eq this, Lib.hid ⟨HNX.out, HZ.out.1, HZ.out.2⟩⟩
      case measure => simp [RowKit.intOf]; omega
    · have hi2d : decide (i < n) = false := by simp; omega
      have hin : i = n := by omega
      subst hin
      have hRe : R = (out, h) := by
        have h1 := HS.out.1
        rw [List.take_of_length_le (by rw [HL.out]; exact Nat.le_refl _), HR.out] at h1
        exact h1
      go_wp2_with fail
      go_ret2
      rw [hRe]
      exact ⟨_, rfl, HS.out.2.1, HS.out.2.2⟩
end Go.Proofs.YtgmdjbhclihflaaDoor
