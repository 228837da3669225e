/- The reference's block. -/
import Derived.Test.YtgmdjbhclihflaaDoorDgRb
import Derived.Deep.RegionHeld3
namespace Go.Proofs.YtgmdjbhclihflaaDoor
open Go Go.RowKit Go.Lib Go.Shelf
attribute [local go_sem] Oper.semAt_some

theorem rotated_c (x n : Nat) (z : Int) (hz : (n : Int) = z) (w : World) (hx : x < 4294967296) (h1 : 1 ≤ n) (h2 : n ≤ 31) :
    Calls Tryd.prog 63 #[.int .u32 x, .int .i64 z] w fun e w' => e = .returned (.int .u32 (Sha.rotr n x : Nat)) ∧ ∃ k, w.drewN k = w' := hz ▸ rotated_any x n w hx h1 h2
def encW (x : Nat) : Value := .int .u32 (x : Int)
theorem rebase {α : Type} {T : TypeId} {enc : α → Value} {w : World} {b b' : Nat} {v : Value} {xs : List α} (h : OwnL T enc w b v xs) (hb : b' ≤ b) : OwnL T enc w b' v xs := by
  refine ⟨h.1, ?_⟩
  rcases h.2 with h0 | ⟨g, cap, cur, hv, hbg, rest⟩
  · exact .inl h0
  · exact .inr ⟨g, cap, cur, hv, Nat.le_trans hb hbg, rest⟩
theorem plus_get (v x : Sha.V8) (j : Nat) (hj : j < 8) : (v8n (Sha.plus v x))[j]? = some (((v8n v).getD j 0 + (v8n x).getD j 0) % 4294967296) := by
  match j, hj with
  | 0, _ | 1, _ | 2, _ | 3, _ | 4, _ | 5, _ | 6, _ | 7, _ => rfl
theorem own_words (w : World) (xs : List Nat) (n : Nat) (hn : xs.length = n) (hs : n ≤ 1000) : OwnL 64 encW (w.alloc (.cells (u32s xs).toArray 64)) w.heap.size (.slice (some ⟨w.heap.size, 0, none⟩) n n) xs := by
  subst hn
  exact ⟨by simp, .inr ⟨w.heap.size, xs.length, (u32s xs).toArray, rfl, Nat.le_refl _, heap_alloc_last w _, Nat.le_refl _, by unfold maxLen; omega, by simp [u32s], by
    show ((u32s xs).toArray.toList).take _ = _
    rw [List.take_of_length_le (by simp [u32s])]
    rfl⟩⟩
theorem wpList_append_words {ops : Array Oper} {rest : List Oper} {o : Oper} {a : Act} {w : World} {Q : Exit → Act → World → Prop} (s x : Operand) (base : Nat) (L R : List Nat) (v : Value) (b off n c : Nat)
    (hown : OwnL 64 encW w base v L) (hn : R.length = n) (hR : ∀ j, j < n → w.cell? ⟨b, off + j, none⟩ = some (.int .u32 (R.getD j 0 : Nat))) (hlen : L.length + R.length ≤ 1000000) (hbase : base ≤ w.heap.size) (hgd : o.guard = none)
    (ho : o.op = .call { callee := .builtin .append, args := #[s, x], argTypes := #[72, 72] })
    (hs : a.eval s = v) (hx : a.eval x = .slice (some ⟨b, off, none⟩) n c)
    (h : ∀ v' w', OwnL 64 encW w' base v' (L ++ R) → w.grownBy w' v.ownBlock → wpList Tryd.prog ops Q rest (a.put o.dst v') w') : wpList Tryd.prog ops Q (o :: rest) a w := by
  refine wpList_plain hgd fun K hK => ?_
  obtain ⟨i0, hi, hz0, hz1, hz2⟩ := info_parts uint32_info
  subst hn
  refine wp_append_own _ s x 72 ho base 64 i0 _ 1 4 Tryd.underlying72 hi hz0 hz1 hz2 rfl (by decide) v L.length (L.map encW) hs hown ⟨b, off, none⟩ R.length c (R.map encW) hx (by rw [List.length_map, Nat.mul_one]) (fun j u hj => ?_) (fun u hu => by
      obtain ⟨y, _, rfl⟩ := List.mem_map.1 hu
      rfl) (by unfold maxLen; omega) (by omega) hbase fun v' w' h1 h2 _ => hK _ _ (h v' w' ?_ h2)
  · rw [List.getElem?_map] at hj
    cases hr : R[j]? with
    | none => rw [hr] at hj; simp at hj
    | some y =>
      rw [hr] at hj
      simp at hj
      subst hj
      have hj2 : j < R.length := (List.getElem?_eq_some_iff.1 hr).1
      have e : R.getD j 0 = y := by rw [List.getD_eq_getElem?_getD, hr]; rfl
      rw [Go.WideShapes.add_plain, ← e]
      exact hR j hj2
  · unfold OwnL
    rw [List.length_append, List.map_append]
    exact h1
set_option maxRecDepth 100000 in
set_option maxHeartbeats 4000000 in
theorem block_any (hb ho hc bb o c : Nat) (v : Sha.V8) (l : List Nat) (w : World) (hv : V8ok v) (hh : ∀ j, j < 8 → w.cell? ⟨hb, ho + j, none⟩ = some (.int .u32 ((v8n v).getD j 0 : Nat))) (hhlt : hb < w.heap.size) (hl : l.length = 64) (hbt : ∀ x ∈ l, x < 256) (hcb : ∀ j, j < 64 → w.cell? ⟨bb, o + j, none⟩ = some (.int .u8 (l.getD j 0 : Nat))) (hlt : bb < w.heap.size) :
    Calls Tryd.prog 52 #[.slice (some ⟨hb, ho, none⟩) 8 hc, .slice (some ⟨bb, o, none⟩) 64 c] w fun e w' => ∃ v', e = .returned v' ∧ OwnL 64 encW w' w.heap.size v' (v8n (Sha.block v l)) ∧ Below w.heap.size w w' := by
  obtain ⟨B, hB⟩ : ∃ B, w.heap.size = B := ⟨_, rfl⟩
  have HBE := Lib.hid hB
  have HH : Hid (∀ W, Below B w W → ∀ j, j < 8 → W.cell? ⟨hb, ho + j, none⟩ = some (.int .u32 ((v8n v).getD j 0 : Nat))) := Lib.hid (fun W hbw j hj => by
    rw [← hB] at hbw; exact (hbw.cell (p := ⟨hb, ho + j, none⟩) hhlt).trans (hh j hj))
  have HC : Hid (∀ W, Below B w W → ∀ j, j < 64 → W.cell? ⟨bb, o + j, none⟩ = some (.int .u8 (l.getD j 0 : Nat))) := Lib.hid (fun W hbw j hj => by
    rw [← hB] at hbw; exact (hbw.cell (p := ⟨bb, o + j, none⟩) hlt).trans (hcb j hj))
  have HSZ : Hid (∀ W, Below B w W → B ≤ W.heap.size) := Lib.hid (fun W hb => by rw [← HBE.out]; exact hb.size)
  have HB0 : Hid (Below B w w) := Lib.hid (by rw [← hB]; exact Below.refl _ _)
  have HL := Lib.hid hl
  have HBT := Lib.hid hbt
  have HV := Lib.hid hv
  rw [hB]
  clear hB hh hhlt hl hbt hcb hlt hv
  go_enter Tryd.func52, Tryd.ntmps52
  go_wp2_with fail
  go_loopw [5, 6] (fun v5 iv wr => ∃ i : Nat, i ≤ 16 ∧ iv = .int .i64 i ∧ Hid (OwnL 64 encW wr B v5 ((Sha.first l).take i) ∧ Below B w wr)) (fun _ i _ => 16 - (RowKit.intOf i).toNat)
  case atStart => exact ⟨0, by omega, rfl, Lib.hid ⟨OwnL.nil, HB0.out⟩⟩
  case round =>
    obtain ⟨i, hi, rfl, HS⟩ := hrel
    obtain ⟨v5, hv5⟩ : ∃ z, z = u5 := ⟨_, rfl⟩
    subst hv5
    by_cases hi2 : i < 16
    · have hfl : (Sha.first l).length = 16 := first_len l HL.out
      obtain ⟨p0, hp0⟩ : ∃ z, 4 * i = z := ⟨_, rfl⟩
      obtain ⟨p1, hp1⟩ : ∃ z, 4 * i + 1 = z := ⟨_, rfl⟩
      obtain ⟨p2, hp2⟩ : ∃ z, 4 * i + 2 = z := ⟨_, rfl⟩
      obtain ⟨p3, hp3⟩ : ∃ z, 4 * i + 3 = z := ⟨_, rfl⟩
      have e0 : IntKind.i64.wrap (4 * (i : Int)) = (p0 : Int) := by rw [IntWalk.i64_in _ (by omega)]; omega
      have e1 : IntKind.i64.wrap ((p0 : Int) + 1) = (p1 : Int) := by rw [IntWalk.i64_in _ (by omega)]; omega
      have e2 : IntKind.i64.wrap ((p0 : Int) + 2) = (p2 : Int) := by rw [IntWalk.i64_in _ (by omega)]; omega
      have e3 : IntKind.i64.wrap ((p0 : Int) + 3) = (p3 : Int) := by rw [IntWalk.i64_in _ (by omega)]; omega
      have q0 : (p0 : Int) < 64 := by omega
      have q1 : (p1 : Int) < 64 := by omega
      have q2 : (p2 : Int) < 64 := by omega
      have q3 : (p3 : Int) < 64 := by omega
      have n0 : p0 < 64 := by omega
      have n1 : p1 < 64 := by omega
      have n2 : p2 < 64 := by omega
      have n3 : p3 < 64 := by omega
      have cc := HC.out wr HS.out.2
      have c0 := cc p0 n0
      have c1 := cc p1 n1
      have c2 := cc p2 n2
      have c3 := cc p3 n3
      have hw : ∀ j, l.getD j 0 < 256 := getD_lt HBT.out
      have hx := first_get l HL.out i hi2
      rw [hp1, hp2, hp3, hp0] at hx
      have hb0 := hw p0
      have hb1 := hw p1
      have hb2 := hw p2
      have hb3 := hw p3
      have HKP0 : Hid (∀ W, Below B w W → Below B w W ∧ W.cell? ⟨bb, o + p0, none⟩ = some (.int .u8 (l.getD p0 0 : Nat)) ∧ W.cell? ⟨bb, o + p1, none⟩ = some (.int .u8 (l.getD p1 0 : Nat)) ∧ W.cell? ⟨bb, o + p2, none⟩ = some (.int .u8 (l.getD p2 0 : Nat)) ∧ W.cell? ⟨bb, o + p3, none⟩ = some (.int .u8 (l.getD p3 0 : Nat))) := Lib.hid (fun W hb => by
        have cc := HC.out W hb
        exact ⟨hb, cc _ n0, cc _ n1, cc _ n2, cc _ n3⟩)
      have HKP := HKP0
      clear HKP0
      obtain ⟨x0, hx0⟩ : ∃ z, l.getD p0 0 = z := ⟨_, rfl⟩
      obtain ⟨x1, hx1⟩ : ∃ z, l.getD p1 0 = z := ⟨_, rfl⟩
      obtain ⟨x2, hx2⟩ : ∃ z, l.getD p2 0 = z := ⟨_, rfl⟩
      obtain ⟨x3, hx3⟩ : ∃ z, l.getD p3 0 = z := ⟨_, rfl⟩
      rw [hx0] at c0 hb0 hx
      rw [hx1] at c1 hb1 hx
      rw [hx2] at c2 hb2 hx
      rw [hx3] at c3 hb3 hx
      rw [hx0, hx1, hx2, hx3] at HKP
      have hword := word_or x0 x1 x2 x3 hb0 hb1 hb2 hb3
      have g0 : IntKind.u32.wrap (x0 : Int) = (x0 : Int) := by rw [IntKind.wrap_u32]; omega
      have g1 : IntKind.u32.wrap (x1 : Int) = (x1 : Int) := by rw [IntKind.wrap_u32]; omega
      have g2 : IntKind.u32.wrap (x2 : Int) = (x2 : Int) := by rw [IntKind.wrap_u32]; omega
      have g3 : IntKind.u32.wrap (x3 : Int) = (x3 : Int) := by rw [IntKind.wrap_u32]; omega
      have f0 : IntKind.u32.wrap ((x0 : Int) * 16777216) = (x0 : Int) * 16777216 := by rw [IntKind.wrap_u32]; omega
      have f1 : IntKind.u32.wrap ((x1 : Int) * 65536) = (x1 : Int) * 65536 := by rw [IntKind.wrap_u32]; omega
      have f2 : IntKind.u32.wrap ((x2 : Int) * 256) = (x2 : Int) * 256 := by rw [IntKind.wrap_u32]; omega
      obtain ⟨X, hX⟩ : ∃ z, x0 * 16777216 + x1 * 65536 + x2 * 256 + x3 = z := ⟨_, rfl⟩
      rw [hX] at hword hx
      have HXX := Lib.hid hx
      have HFL := Lib.hid (show ((Sha.first l).take i).length = i by rw [List.length_take, hfl]; omega)
      have hbw := HS.out.2
      clear hp0 hp1 hp2 hp3 cc hw hx hfl hx0 hx1 hx2 hx3 hX
      go_wp2_with fail
      go_region_held3 (fun W => Below B w W ∧ W.cell? ⟨bb, o + p0, none⟩ = some (.int .u8 (x0 : Int)) ∧ W.cell? ⟨bb, o + p1, none⟩ = some (.int .u8 (x1 : Int)) ∧ W.cell? ⟨bb, o + p2, none⟩ = some (.int .u8 (x2 : Int)) ∧ W.cell? ⟨bb, o + p3, none⟩ = some (.int .u8 (x3 : Int))) (first | exact HKP.out _ (by first | assumption | exact Below.drew (by assumption) | exact Below.alloc (by assumption) (by first | exact HSZ.out _ (by assumption)) _ | exact Below.alloc (Below.drew (by assumption)) (HSZ.out _ (by assumption)) _ | exact (Below.alloc (by assumption) (HSZ.out _ (by assumption)) _).drew | exact (Below.alloc (Below.drew (by assumption)) (HSZ.out _ (by assumption)) _).drew)) (first | ((refine step_append_one rfl (.tmp 23) (.tmp 57) 72 rfl Tryd.underlying72 uint32_info rfl (by decide) rfl ((HS.out.1).below (((Below.refl wr.heap.size wr).drew).alloc (Nat.le_refl _) (.cells #[.int .u32 (X : Int)] 64))) wr.heap.size 1 X rfl rfl (by rw [((RowAt.new wr.drew 64 #[.int .u32 (X : Int)])).cell 0]; rfl) (by rw [HFL.out]; omega) (by have := HSZ.out _ HS.out.2; simp; omega) ?_); intro v9 w9 hown hg9; have hb9 : Below B w w9 := (HS.out.2.trans ((((Below.refl wr.heap.size wr).drew).alloc (Nat.le_refl _) (.cells #[.int .u32 (X : Int)] 64)).mono (HSZ.out _ HS.out.2))).grown hg9 (by have := HSZ.out _ HS.out.2; simp; omega) (fun j e => (OwnL.lt ((HS.out.1).below (((Below.refl wr.heap.size wr).drew).alloc (Nat.le_refl _) (.cells #[.int .u32 (X : Int)] 64))) j e).1)) | ((refine step_append_one rfl (.tmp 23) (.tmp 57) 72 rfl Tryd.underlying72 uint32_info rfl (by decide) rfl ((HS.out.1).below (((Below.refl wr.heap.size wr).drew).alloc (Nat.le_refl _) (.cells #[.int .u32 (X : Int)] 64)).drew) wr.heap.size 1 X rfl rfl (by rw [((RowAt.new wr.drew 64 #[.int .u32 (X : Int)]).drew).cell 0]; rfl) (by rw [HFL.out]; omega) (by have := HSZ.out _ HS.out.2; simp; omega) ?_); intro v9 w9 hown hg9; have hb9 : Below B w w9 := (HS.out.2.trans ((((Below.refl wr.heap.size wr).drew).alloc (Nat.le_refl _) (.cells #[.int .u32 (X : Int)] 64)).drew.mono (HSZ.out _ HS.out.2))).grown hg9 (by have := HSZ.out _ HS.out.2; simp; omega) (fun j e => (OwnL.lt ((HS.out.1).below (((Below.refl wr.heap.size wr).drew).alloc (Nat.le_refl _) (.cells #[.int .u32 (X : Int)] 64)).drew) j e).1)) | ((refine step_append_one rfl (.tmp 23) (.tmp 57) 72 rfl Tryd.underlying72 uint32_info rfl (by decide) rfl ((HS.out.1).below ((Below.refl wr.heap.size wr).alloc (Nat.le_refl _) (.cells #[.int .u32 (X : Int)] 64))) wr.heap.size 1 X rfl rfl (by rw [((RowAt.new wr 64 #[.int .u32 (X : Int)])).cell 0]; rfl) (by rw [HFL.out]; omega) (by have := HSZ.out _ HS.out.2; simp; omega) ?_); intro v9 w9 hown hg9; have hb9 : Below B w w9 := (HS.out.2.trans (((Below.refl wr.heap.size wr).alloc (Nat.le_refl _) (.cells #[.int .u32 (X : Int)] 64)).mono (HSZ.out _ HS.out.2))).grown hg9 (by have := HSZ.out _ HS.out.2; simp; omega) (fun j e => (OwnL.lt ((HS.out.1).below ((Below.refl wr.heap.size wr).alloc (Nat.le_refl _) (.cells #[.int .u32 (X : Int)] 64))) j e).1)) | ((refine step_append_one rfl (.tmp 23) (.tmp 57) 72 rfl Tryd.underlying72 uint32_info rfl (by decide) rfl ((HS.out.1).below ((Below.refl wr.heap.size wr).alloc (Nat.le_refl _) (.cells #[.int .u32 (X : Int)] 64)).drew) wr.heap.size 1 X rfl rfl (by rw [((RowAt.new wr 64 #[.int .u32 (X : Int)]).drew).cell 0]; rfl) (by rw [HFL.out]; omega) (by have := HSZ.out _ HS.out.2; simp; omega) ?_); intro v9 w9 hown hg9; have hb9 : Below B w w9 := (HS.out.2.trans (((Below.refl wr.heap.size wr).alloc (Nat.le_refl _) (.cells #[.int .u32 (X : Int)] 64)).drew.mono (HSZ.out _ HS.out.2))).grown hg9 (by have := HSZ.out _ HS.out.2; simp; omega) (fun j e => (OwnL.lt ((HS.out.1).below ((Below.refl wr.heap.size wr).alloc (Nat.le_refl _) (.cells #[.int .u32 (X : Int)] 64)).drew) j e).1)))
      have hap : (Sha.first l).take i ++ [X] = (Sha.first l).take (i + 1) := HXX.out.symm
      rw [hap] at hown
      have HE := Lib.hid (And.intro hown hb9)
      clear hown hb9 hg9 hap
      go_wp2_with fail
      go_roundw
      case rel => exact ⟨i + 1, by omega, by go_num, HE⟩
      case measure => simp [RowKit.intOf]; omega
    · have hi16 : i = 16 := by omega
      have H2 : Hid (OwnL 64 encW wr B v5 (Sha.growN 0 (Sha.first l)) ∧ Below B w wr) := Lib.hid (by
        have h := HS.out
        rw [hi16, List.take_of_length_le (by rw [first_len l HL.out]; omega)] at h
        exact h)
      obtain ⟨W2, hW2⟩ : ∃ z, wr = z := ⟨_, rfl⟩
      rw [hW2] at H2 ⊢
      clear hW2 HS
      have hi16d : decide (i < 16) = false := by simp; omega
      clear hi16
      go_wp2_with fail
      clear hi hi2
      go_loopw [5, 7, 8, 9] (fun v5 iv v8 v9 wr => ∃ m p : Nat, m ≤ 48 ∧ Hid (p = 16 + m) ∧ p ≤ 64 ∧ iv = .int .i64 p ∧ Hid (OwnL 64 encW wr B v5 (Sha.growN m (Sha.first l)) ∧ Below B w wr)) (fun _ i _ _ _ => 64 - (RowKit.intOf i).toNat)
      case atStart => exact ⟨0, 16, by omega, Lib.hid rfl, by omega, rfl, H2⟩
      case round =>
        obtain ⟨m, p, hm, HP, hp64, rfl, HS⟩ := hrel
        obtain ⟨y5, hy5⟩ : ∃ z, z = u5 := ⟨_, rfl⟩
        subst hy5
        by_cases hp2 : p < 64
        · have hp := HP.out
          have hp1 : 16 ≤ p := by omega
          have hm2 : m < 48 := by omega
          have hlen := growN_len m (Sha.first l)
          rw [first_len l HL.out, ← hp] at hlen
          have hws := grow_lt m (first_lt l HBT.out)
          have hg := growN_succ m (Sha.first l)
          obtain ⟨ws, hws0⟩ : ∃ z, Sha.growN m (Sha.first l) = z := ⟨_, rfl⟩
          rw [hws0] at hlen hws hg HS
          obtain ⟨A5, c5, hv5, hc5⟩ := HS.out.1.slice
          rw [hlen] at hv5 hc5
          subst hv5
          have hget : ∀ j, j < p → ws[j]? = some (ws.getD j 0) := fun j hj => by
            rw [List.getD_eq_getElem?_getD, List.getElem?_eq_getElem (by omega)]; rfl
          obtain ⟨g, hA5, hgB, hgl, -, -⟩ := HS.out.1.get (hget 0 (by omega))
          subst hA5
          obtain ⟨q16, hq16⟩ : ∃ z, p - 16 = z := ⟨_, rfl⟩
          obtain ⟨q15, hq15⟩ : ∃ z, p - 15 = z := ⟨_, rfl⟩
          obtain ⟨q7, hq7⟩ : ∃ z, p - 7 = z := ⟨_, rfl⟩
          obtain ⟨q2, hq2⟩ : ∃ z, p - 2 = z := ⟨_, rfl⟩
          have e16 : IntKind.i64.wrap ((p : Int) - 16) = (q16 : Int) := by rw [← hq16, IntWalk.i64_in _ (by omega)]; omega
          have e15 : IntKind.i64.wrap ((p : Int) - 15) = (q15 : Int) := by rw [← hq15, IntWalk.i64_in _ (by omega)]; omega
          have e7 : IntKind.i64.wrap ((p : Int) - 7) = (q7 : Int) := by rw [← hq7, IntWalk.i64_in _ (by omega)]; omega
          have e2 : IntKind.i64.wrap ((p : Int) - 2) = (q2 : Int) := by rw [← hq2, IntWalk.i64_in _ (by omega)]; omega
          have i16 : (q16 : Int) < (p : Int) := by omega
          have i15 : (q15 : Int) < (p : Int) := by omega
          have i7 : (q7 : Int) < (p : Int) := by omega
          have i2 : (q2 : Int) < (p : Int) := by omega
          have j16 : q16 < p := by omega
          have j15 : q15 < p := by omega
          have j7 : q7 < p := by omega
          have j2 : q2 < p := by omega
          have hcell : ∀ j, j < p → wr.cell? ⟨g, j, none⟩ = some (.int .u32 (ws.getD j 0 : Nat)) := fun j hj => by
            obtain ⟨g', hg', -, -, hc, -⟩ := HS.out.1.get (hget j hj)
            obtain rfl : g = g' := by simpa using hg'
            exact hc
          have c15 := hcell q15 j15
          have c2 := hcell q2 j2
          have c16 := hcell q16 j16
          have c7 := hcell q7 j7
          have l16 := hws q16
          have l15 := hws q15
          have l7 := hws q7
          have l2 := hws q2
          unfold Sha.grow at hg
          rw [hlen, hq16, hq15, hq7, hq2] at hg
          obtain ⟨a16, ha16⟩ : ∃ z, ws.getD q16 0 = z := ⟨_, rfl⟩
          obtain ⟨a15, ha15⟩ : ∃ z, ws.getD q15 0 = z := ⟨_, rfl⟩
          obtain ⟨a7, ha7⟩ : ∃ z, ws.getD q7 0 = z := ⟨_, rfl⟩
          obtain ⟨a2, ha2⟩ : ∃ z, ws.getD q2 0 = z := ⟨_, rfl⟩
          rw [ha16] at c16 l16 hg
          rw [ha15] at c15 l15 hg
          rw [ha7] at c7 l7 hg
          rw [ha2] at c2 l2 hg
          have HG := Lib.hid hg
          have HLEN := Lib.hid hlen
          have HGG := Lib.hid (And.intro hgB hgl)
          have R1 := Lib.hid (fun W => rotated_c a15 7 7 rfl W l15 (by omega) (by omega))
          have R2 := Lib.hid (fun W => rotated_c a15 18 18 rfl W l15 (by omega) (by omega))
          have R3 := Lib.hid (fun W => rotated_c a2 17 17 rfl W l2 (by omega) (by omega))
          have R4 := Lib.hid (fun W => rotated_c a2 19 19 rfl W l2 (by omega) (by omega))
          have k1 := rotr_lt (n := 7) l15
          have k2 := rotr_lt (n := 18) l15
          have k3 := rotr_lt (n := 17) l2
          have k4 := rotr_lt (n := 19) l2
          have hnx : Sha.next a16 a15 a7 a2 = (a16 + ((Sha.rotr 7 a15 ^^^ Sha.rotr 18 a15) ^^^ a15 / 8) + a7 + ((Sha.rotr 17 a2 ^^^ Sha.rotr 19 a2) ^^^ a2 / 1024)) % 4294967296 := by unfold Sha.next Sha.mix2; rfl
          obtain ⟨r1, hr1⟩ : ∃ z, Sha.rotr 7 a15 = z := ⟨_, rfl⟩
          obtain ⟨r2, hr2⟩ : ∃ z, Sha.rotr 18 a15 = z := ⟨_, rfl⟩
          obtain ⟨r3, hr3⟩ : ∃ z, Sha.rotr 17 a2 = z := ⟨_, rfl⟩
          obtain ⟨r4, hr4⟩ : ∃ z, Sha.rotr 19 a2 = z := ⟨_, rfl⟩
          rw [hr1] at R1 k1 hnx
          rw [hr2] at R2 k2 hnx
          rw [hr3] at R3 k3 hnx
          rw [hr4] at R4 k4 hnx
          have x1 := u32_xor_nat r1 r2 k1 k2
          have x2 := u32_xor_nat r3 r4 k3 k4
          have y1 : r1 ^^^ r2 < 4294967296 := Nat.xor_lt_two_pow (n := 32) k1 k2
          have y2 : r3 ^^^ r4 < 4294967296 := Nat.xor_lt_two_pow (n := 32) k3 k4
          obtain ⟨m1, hm1⟩ : ∃ z, r1 ^^^ r2 = z := ⟨_, rfl⟩
          obtain ⟨m3, hm3⟩ : ∃ z, r3 ^^^ r4 = z := ⟨_, rfl⟩
          rw [hm1] at x1 y1 hnx
          rw [hm3] at x2 y2 hnx
          have x3 := u32_xor_nat m1 (a15 / 8) y1 (by omega)
          have x4 := u32_xor_nat m3 (a2 / 1024) y2 (by omega)
          obtain ⟨s1, hs1⟩ : ∃ z, m1 ^^^ a15 / 8 = z := ⟨_, rfl⟩
          obtain ⟨s2, hs2⟩ : ∃ z, m3 ^^^ a2 / 1024 = z := ⟨_, rfl⟩
          have y3 : m1 ^^^ a15 / 8 < 4294967296 := Nat.xor_lt_two_pow (n := 32) y1 (by omega)
          have y4 : m3 ^^^ a2 / 1024 < 4294967296 := Nat.xor_lt_two_pow (n := 32) y2 (by omega)
          rw [hs1] at x3 y3 hnx
          rw [hs2] at x4 y4 hnx
          rw [show ((a15 / 8 : Nat) : Int) = (a15 : Int) / 8 by omega] at x3
          rw [show ((a2 / 1024 : Nat) : Int) = (a2 : Int) / 1024 by omega] at x4
          obtain ⟨t1, ht1⟩ : ∃ z, (a16 + s1) % 4294967296 = z := ⟨_, rfl⟩
          obtain ⟨t2, ht2⟩ : ∃ z, (t1 + a7) % 4294967296 = z := ⟨_, rfl⟩
          obtain ⟨nx, hnx0⟩ : ∃ z, Sha.next a16 a15 a7 a2 = z := ⟨_, rfl⟩
          rw [hnx0] at hnx
          have z1 : IntKind.u32.wrap ((a16 : Int) + (s1 : Int)) = (t1 : Int) := by rw [IntKind.wrap_u32]; omega
          have z2 : IntKind.u32.wrap ((t1 : Int) + (a7 : Int)) = (t2 : Int) := by rw [IntKind.wrap_u32]; omega
          have z3 : IntKind.u32.wrap ((t2 : Int) + (s2 : Int)) = (nx : Int) := by rw [IntKind.wrap_u32]; omega
          have HNX := Lib.hid hnx0
          have HKP : Hid (∀ W, Below B w W → W.cell? ⟨g, q16, none⟩ = some (.int .u32 (a16 : Int)) → W.cell? ⟨g, q7, none⟩ = some (.int .u32 (a7 : Int)) → Below B w W ∧ W.cell? ⟨g, q16, none⟩ = some (.int .u32 (a16 : Int)) ∧ W.cell? ⟨g, q7, none⟩ = some (.int .u32 (a7 : Int))) := Lib.hid (fun W h1 h2 h3 => ⟨h1, h2, h3⟩)
          clear hq16 hq15 hq7 hq2 hget hcell hws0 hws hg hlen hgB hgl ha16 ha15 ha7 ha2 hr1 hr2 hr3 hr4 hm1 hm3 hs1 hs2 ht1 ht2 hnx hnx0 hp hc5
          go_wp2_with fail
          go_quiet (first | (go_at_call 63; with_reducible exact quiet_drew (R1.out _)) | (go_at_call 63; with_reducible exact quiet_drew (R2.out _)))
          go_wp2_with fail
          obtain ⟨W3, hW3⟩ : ∃ z, wr.drewN nq = z := ⟨_, rfl⟩
          have bW3 : Below wr.heap.size wr W3 := by rw [← hW3]; exact below_drewN (Below.refl _ _) _
          have c2b : W3.cell? ⟨g, q2, none⟩ = some (.int .u32 (a2 : Int)) := by rw [← hW3]; exact c2
          have c16b : W3.cell? ⟨g, q16, none⟩ = some (.int .u32 (a16 : Int)) := by rw [← hW3]; exact c16
          have c7b : W3.cell? ⟨g, q7, none⟩ = some (.int .u32 (a7 : Int)) := by rw [← hW3]; exact c7
          rw [hW3]
          clear hW3 c2 c16 c7 c15
          have HO3 := Lib.hid (And.intro (HS.out.1.below bW3) (HS.out.2.trans (bW3.mono (HSZ.out _ HS.out.2))))
          clear bW3
          go_quiet (first | (go_at_call 63; with_reducible exact quiet_drew (R3.out _)) | (go_at_call 63; with_reducible exact quiet_drew (R4.out _)))
          go_wp2_with fail
          obtain ⟨W4, hW4⟩ : ∃ z, W3.drewN nq = z := ⟨_, rfl⟩
          have bW4 : Below W3.heap.size W3 W4 := by rw [← hW4]; exact below_drewN (Below.refl _ _) _
          have c16 : W4.cell? ⟨g, q16, none⟩ = some (.int .u32 (a16 : Int)) := by rw [← hW4]; exact c16b
          have c7 : W4.cell? ⟨g, q7, none⟩ = some (.int .u32 (a7 : Int)) := by rw [← hW4]; exact c7b
          rw [hW4]
          clear hW4 c2b c16b c7b
          have HO4 := Lib.hid (And.intro (HO3.out.1.below bW4) (HO3.out.2.trans (bW4.mono (HSZ.out _ HO3.out.2))))
          have hbw := HO4.out.2
          have HG4 : Hid (g < W4.heap.size) := Lib.hid (World.block_lt_of_cell? W4 _ c16)
          clear bW4
          have HK4 : Hid (∀ W, Below W4.heap.size W4 W → Below W4.heap.size W4 W ∧ W.cell? ⟨g, q16, none⟩ = some (.int .u32 (a16 : Int)) ∧ W.cell? ⟨g, q7, none⟩ = some (.int .u32 (a7 : Int))) := Lib.hid (fun W hb => ⟨hb, (hb.cell (p := ⟨g, q16, none⟩) HG4.out).trans c16, (hb.cell (p := ⟨g, q7, none⟩) HG4.out).trans c7⟩)
          have hb44 := Below.refl W4.heap.size W4
          clear HKP
          refine wp_region_noPanic ?_
          go_region_law (first | ((refine step_append_one rfl (.tmp 103) (.tmp 119) 72 rfl Tryd.underlying72 uint32_info rfl (by decide) rfl ((HO4.out.1).below ((((Below.refl W4.heap.size W4).drew).alloc (Nat.le_refl _) (.cells #[.int .u32 (nx : Int)] 64)))) W4.heap.size 1 nx rfl rfl (by rw [((RowAt.new W4.drew 64 #[.int .u32 (nx : Int)])).cell 0]; rfl) (by rw [HLEN.out]; omega) (by have := HSZ.out _ HO4.out.2; simp; omega) ?_); intro v9 w9 hown hg9; have hb9 : Below B w w9 := ((HO4.out.2).trans (((((Below.refl W4.heap.size W4).drew).alloc (Nat.le_refl _) (.cells #[.int .u32 (nx : Int)] 64))).mono (HSZ.out _ (HO4.out.2)))).grown hg9 (by have := HSZ.out _ HO4.out.2; simp; omega) (fun j e => (OwnL.lt ((HO4.out.1).below ((((Below.refl W4.heap.size W4).drew).alloc (Nat.le_refl _) (.cells #[.int .u32 (nx : Int)] 64)))) j e).1)) | ((refine step_append_one rfl (.tmp 103) (.tmp 119) 72 rfl Tryd.underlying72 uint32_info rfl (by decide) rfl ((HO4.out.1).below ((((Below.refl W4.heap.size W4).drew).alloc (Nat.le_refl _) (.cells #[.int .u32 (nx : Int)] 64)).drew)) W4.heap.size 1 nx rfl rfl (by rw [((RowAt.new W4.drew 64 #[.int .u32 (nx : Int)]).drew).cell 0]; rfl) (by rw [HLEN.out]; omega) (by have := HSZ.out _ HO4.out.2; simp; omega) ?_); intro v9 w9 hown hg9; have hb9 : Below B w w9 := ((HO4.out.2).trans (((((Below.refl W4.heap.size W4).drew).alloc (Nat.le_refl _) (.cells #[.int .u32 (nx : Int)] 64)).drew).mono (HSZ.out _ (HO4.out.2)))).grown hg9 (by have := HSZ.out _ HO4.out.2; simp; omega) (fun j e => (OwnL.lt ((HO4.out.1).below ((((Below.refl W4.heap.size W4).drew).alloc (Nat.le_refl _) (.cells #[.int .u32 (nx : Int)] 64)).drew)) j e).1)) | ((refine step_append_one rfl (.tmp 103) (.tmp 119) 72 rfl Tryd.underlying72 uint32_info rfl (by decide) rfl ((HO4.out.1).below (((Below.refl W4.heap.size W4).alloc (Nat.le_refl _) (.cells #[.int .u32 (nx : Int)] 64)))) W4.heap.size 1 nx rfl rfl (by rw [((RowAt.new W4 64 #[.int .u32 (nx : Int)])).cell 0]; rfl) (by rw [HLEN.out]; omega) (by have := HSZ.out _ HO4.out.2; simp; omega) ?_); intro v9 w9 hown hg9; have hb9 : Below B w w9 := ((HO4.out.2).trans ((((Below.refl W4.heap.size W4).alloc (Nat.le_refl _) (.cells #[.int .u32 (nx : Int)] 64))).mono (HSZ.out _ (HO4.out.2)))).grown hg9 (by have := HSZ.out _ HO4.out.2; simp; omega) (fun j e => (OwnL.lt ((HO4.out.1).below (((Below.refl W4.heap.size W4).alloc (Nat.le_refl _) (.cells #[.int .u32 (nx : Int)] 64)))) j e).1)) | ((refine step_append_one rfl (.tmp 103) (.tmp 119) 72 rfl Tryd.underlying72 uint32_info rfl (by decide) rfl ((HO4.out.1).below (((Below.refl W4.heap.size W4).alloc (Nat.le_refl _) (.cells #[.int .u32 (nx : Int)] 64)).drew)) W4.heap.size 1 nx rfl rfl (by rw [((RowAt.new W4 64 #[.int .u32 (nx : Int)]).drew).cell 0]; rfl) (by rw [HLEN.out]; omega) (by have := HSZ.out _ HO4.out.2; simp; omega) ?_); intro v9 w9 hown hg9; have hb9 : Below B w w9 := ((HO4.out.2).trans ((((Below.refl W4.heap.size W4).alloc (Nat.le_refl _) (.cells #[.int .u32 (nx : Int)] 64)).drew).mono (HSZ.out _ (HO4.out.2)))).grown hg9 (by have := HSZ.out _ HO4.out.2; simp; omega) (fun j e => (OwnL.lt ((HO4.out.1).below (((Below.refl W4.heap.size W4).alloc (Nat.le_refl _) (.cells #[.int .u32 (nx : Int)] 64)).drew)) j e).1)))
          all_goals
           refine NoPanic.normal ?_
           try simp only [Act.put, List.getElem_toArray, List.getElem_cons_zero, List.getElem_cons_succ, List.setIfInBounds_toArray, List.set_cons_zero, List.set_cons_succ]
           have hap : ws ++ [nx] = Sha.growN (m + 1) (Sha.first l) := by rw [HG.out, HNX.out]
           rw [hap] at hown
           have HE := Lib.hid (And.intro hown hb9)
           clear hown hb9 hg9 hap
           go_wp2_with fail
           go_roundw
           case rel => exact ⟨m + 1, p + 1, by omega, Lib.hid (by have := HP.out; omega), by omega, by go_num, HE⟩
           case measure => simp [RowKit.intOf]; omega
        · have hpe : p = 64 := by omega
          have hm48 : m = 48 := by have := HP.out; omega
          have H5 : Hid (OwnL 64 encW wr B y5 (Sha.growN 48 (Sha.first l)) ∧ Below B w wr) := Lib.hid (by rw [← hm48]; exact HS.out)
          have hpd : decide (p < 64) = false := by simp; omega
          have hwl : (Sha.growN 48 (Sha.first l)).length = 64 := by rw [growN_len, first_len l HL.out]
          have hws := grow_lt 48 (first_lt l HBT.out)
          have hblk : Sha.block v l = Sha.plus v (runV v (Sha.growN 48 (Sha.first l)) 64) := by
            unfold Sha.block runV
            rw [List.take_of_length_le (by rw [List.length_zip, hwl]; simp [Sha.K])]
          obtain ⟨ws, hws0⟩ : ∃ z, Sha.growN 48 (Sha.first l) = z := ⟨_, rfl⟩
          rw [hws0] at H5 hwl hws hblk
          obtain ⟨A5, c5, hv5, hc5⟩ := H5.out.1.slice
          rw [hwl] at hv5 hc5
          subst hv5
          have HWG : Hid (∀ W, Below wr.heap.size wr W → ∀ j, j < 64 → ∃ g, A5 = some ⟨g, 0, none⟩ ∧ g < wr.heap.size ∧ W.cell? ⟨g, j, none⟩ = some (.int .u32 (ws.getD j 0 : Nat))) := Lib.hid (fun W hb j hj => by
            have hget : ws[j]? = some (ws.getD j 0) := by rw [List.getD_eq_getElem?_getD, List.getElem?_eq_getElem (by omega)]; rfl
            obtain ⟨g, hg, -, hl, hc, -⟩ := H5.out.1.get hget
            exact ⟨g, hg, hl, (hb.cell (p := ⟨g, j, none⟩) hl).trans hc⟩)
          obtain ⟨g, hA5, hgl, -⟩ := HWG.out wr (Below.refl _ _) 0 (by omega)
          subst hA5
          have HWC : Hid (∀ W, Below wr.heap.size wr W → ∀ j, j < 64 → W.cell? ⟨g, j, none⟩ = some (.int .u32 (ws.getD j 0 : Nat))) := Lib.hid (fun W hb j hj => by
            obtain ⟨g', hg', -, hc⟩ := HWG.out W hb j hj
            obtain rfl : g = g' := by simpa using hg'
            exact hc)
          have HWL := Lib.hid (And.intro hwl hws)
          have HBLK := Lib.hid hblk
          have HWR := Lib.hid H5.out.2
          clear hws hwl hblk hws0 HS HP HWG hc5 hgl hm48 H5
          go_wp2_with fail
          refine (constants_any wr).mono ?_
          rintro e w5 ⟨rfl, hw5⟩
          have b5 : Below wr.heap.size wr w5 := by rw [← hw5]; exact (Below.refl _ _).alloc (Nat.le_refl _) _
          have r5 : RowAt w5 wr.heap.size 64 KC := by rw [← hw5]; exact RowAt.new _ _ _
          obtain ⟨nk, hnk⟩ : ∃ z, wr.heap.size = z := ⟨_, rfl⟩
          have HB5 := Lib.hid b5
          have HWB : Hid (∀ W, Below w5.heap.size w5 W → Below B w W) := Lib.hid (fun W hb => HWR.out.trans ((b5.trans (hb.mono b5.size)).mono (HSZ.out _ HWR.out)))
          have HWC5 : Hid (∀ W, Below w5.heap.size w5 W → ∀ j, j < 64 → W.cell? ⟨g, j, none⟩ = some (.int .u32 (ws.getD j 0 : Nat))) := Lib.hid (fun W hb => HWC.out W (b5.trans (hb.mono b5.size)))
          rw [hnk] at r5 ⊢
          have HR5 := Lib.hid r5
          clear hw5 b5 r5 hnk HB5
          go_wp2_with (first | ((with_reducible refine wpList_stop (o := ⟨some 124, _, _, _, _, _⟩) ?_)))
          unfold Stop
          refine wpList_append_words (.tmp 122) (.tmp 123) w5.heap.size [] (v8n v) (.slice none 0 0) hb ho 8 hc OwnL.nil rfl (HH.out w5 (HWB.out w5 (Below.refl _ _))) (by simp [v8n]) (Nat.le_refl _) rfl rfl rfl rfl (fun v6 w6 hown hg6 => ?_)
          have b6 : Below w5.heap.size w5 w6 := (Below.refl _ _).grown hg6 (Nat.le_refl _) (fun j e => by simp [Value.ownBlock] at e)
          rw [List.nil_append] at hown
          have H6 := Lib.hid (And.intro hown b6)
          clear hown hg6 b6
          go_wp2_with fail
          go_loopw [11, 12, 13, 14, 15, 16] (fun v11 iv v13 v14 v15 v16 wr => ∃ i : Nat, i ≤ 64 ∧ iv = .int .i64 i ∧ Hid (OwnL 64 encW wr w5.heap.size v11 (v8n (runV v ws i)) ∧ Below w5.heap.size w5 wr)) (fun _ i _ _ _ _ _ => 64 - (RowKit.intOf i).toNat)
          case atStart => exact ⟨0, by omega, rfl, H6⟩
          case round =>
            obtain ⟨i3, hi3, rfl, HS3⟩ := hrel
            obtain ⟨y11, hy11⟩ : ∃ z, z = u11 := ⟨_, rfl⟩
            subst hy11
            by_cases hi3b : i3 < 64
            · have hvs := runV_succ v ws HWL.out.1 i3 hi3b
              have hok := runV_ok HV.out ws i3
              have hkl := K_lt i3
              have hxl := HWL.out.2 i3
              have ck : wr.cell? ⟨nk, i3, none⟩ = some (.int .u32 (Sha.K.getD i3 0 : Nat)) := by
                rw [(HR5.out.below HS3.out.2 HR5.out.lt).cell i3]; exact KC_get i3 hi3b
              have cw := HWC5.out wr HS3.out.2 i3 hi3b
              obtain ⟨k, hk⟩ : ∃ z, Sha.K.getD i3 0 = z := ⟨_, rfl⟩
              obtain ⟨x, hx⟩ : ∃ z, ws.getD i3 0 = z := ⟨_, rfl⟩
              rw [hk] at hvs hkl ck
              rw [hx] at hvs hxl cw
              obtain ⟨⟨pa, pb, pc, pd, pe, pf, pg, ph⟩, hvi⟩ : ∃ z, runV v ws i3 = z := ⟨_, rfl⟩
              rw [hvi] at hvs hok HS3
              have HVS := Lib.hid hvs
              obtain ⟨A11, c11, hv11, hc11⟩ := HS3.out.1.slice
              rw [show (v8n ⟨pa, pb, pc, pd, pe, pf, pg, ph⟩).length = 8 from rfl] at hv11 hc11
              subst hv11
              obtain ⟨g3, hA11, -, hg3l, c00, -⟩ := HS3.out.1.get (i := 0) (x := pa) rfl
              subst hA11
              have hcell : ∀ (j x : Nat), (v8n ⟨pa, pb, pc, pd, pe, pf, pg, ph⟩)[j]? = some x → wr.cell? ⟨g3, j, none⟩ = some (.int .u32 (x : Int)) := fun j x hj => by
                obtain ⟨g', hg', -, -, hc, -⟩ := HS3.out.1.get hj
                obtain rfl : g3 = g' := by simpa using hg'
                exact hc
              have d1 := hcell 1 pb rfl
              have d2 := hcell 2 pc rfl
              have d3 := hcell 3 pd rfl
              have d4 := hcell 4 pe rfl
              have d5 := hcell 5 pf rfl
              have d6 := hcell 6 pg rfl
              have d7 := hcell 7 ph rfl
              have c0 : wr.cell? ⟨g3, 0, none⟩ = some (.int .u32 (pa : Int)) := c00
              clear c00
              have la := hok.a
              have lb := hok.b
              have lc := hok.c
              have ld := hok.d
              have le := hok.e
              have lf := hok.f
              have lg := hok.g
              have lh := hok.h
              dsimp only at la lb lc ld le lf lg lh
              have i3n : (i3 : Int) < 64 := by omega
              clear hk hx hvi hvs hok hcell hc11
              have R1 := Lib.hid (fun W => rotated_c pe 6 6 rfl W le (by omega) (by omega))
              have R2 := Lib.hid (fun W => rotated_c pe 11 11 rfl W le (by omega) (by omega))
              have R3 := Lib.hid (fun W => rotated_c pe 25 25 rfl W le (by omega) (by omega))
              have R4 := Lib.hid (fun W => rotated_c pa 2 2 rfl W la (by omega) (by omega))
              have R5 := Lib.hid (fun W => rotated_c pa 13 13 rfl W la (by omega) (by omega))
              have R6 := Lib.hid (fun W => rotated_c pa 22 22 rfl W la (by omega) (by omega))
              have k1 := rotr_lt (n := 6) le
              have k2 := rotr_lt (n := 11) le
              have k3 := rotr_lt (n := 25) le
              have k4 := rotr_lt (n := 2) la
              have k5 := rotr_lt (n := 13) la
              have k6 := rotr_lt (n := 22) la
              have hst : Sha.step ⟨pa, pb, pc, pd, pe, pf, pg, ph⟩ (k, x) = ⟨((ph + (Sha.rotr 6 pe ^^^ Sha.rotr 11 pe ^^^ Sha.rotr 25 pe) + ((pe &&& pf) ^^^ ((4294967295 - pe) &&& pg)) + k + x) + ((Sha.rotr 2 pa ^^^ Sha.rotr 13 pa ^^^ Sha.rotr 22 pa) + ((pa &&& pb) ^^^ (pa &&& pc) ^^^ (pb &&& pc)))) % 4294967296, pa, pb, pc, (pd + (ph + (Sha.rotr 6 pe ^^^ Sha.rotr 11 pe ^^^ Sha.rotr 25 pe) + ((pe &&& pf) ^^^ ((4294967295 - pe) &&& pg)) + k + x)) % 4294967296, pe, pf, pg⟩ := rfl
              obtain ⟨r1, hr1⟩ : ∃ z, Sha.rotr 6 pe = z := ⟨_, rfl⟩
              obtain ⟨r2, hr2⟩ : ∃ z, Sha.rotr 11 pe = z := ⟨_, rfl⟩
              obtain ⟨r3, hr3⟩ : ∃ z, Sha.rotr 25 pe = z := ⟨_, rfl⟩
              obtain ⟨r4, hr4⟩ : ∃ z, Sha.rotr 2 pa = z := ⟨_, rfl⟩
              obtain ⟨r5, hr5⟩ : ∃ z, Sha.rotr 13 pa = z := ⟨_, rfl⟩
              obtain ⟨r6, hr6⟩ : ∃ z, Sha.rotr 22 pa = z := ⟨_, rfl⟩
              rw [hr1] at R1 k1 hst
              rw [hr2] at R2 k2 hst
              rw [hr3] at R3 k3 hst
              rw [hr4] at R4 k4 hst
              rw [hr5] at R5 k5 hst
              rw [hr6] at R6 k6 hst
              have x1 := u32_xor_nat r1 r2 k1 k2
              have y1 : r1 ^^^ r2 < 4294967296 := Nat.xor_lt_two_pow (n := 32) k1 k2
              have x2 := u32_xor_nat r4 r5 k4 k5
              have y2 : r4 ^^^ r5 < 4294967296 := Nat.xor_lt_two_pow (n := 32) k4 k5
              obtain ⟨m0, hm0⟩ : ∃ z, r1 ^^^ r2 = z := ⟨_, rfl⟩
              obtain ⟨m4, hm4⟩ : ∃ z, r4 ^^^ r5 = z := ⟨_, rfl⟩
              rw [hm0] at x1 y1 hst
              rw [hm4] at x2 y2 hst
              have x3 := u32_xor_nat m0 r3 y1 k3
              have x4 := u32_xor_nat m4 r6 y2 k6
              obtain ⟨m1, hm1⟩ : ∃ z, m0 ^^^ r3 = z := ⟨_, rfl⟩
              obtain ⟨m2, hm2⟩ : ∃ z, m4 ^^^ r6 = z := ⟨_, rfl⟩
              rw [hm1] at x3 hst
              rw [hm2] at x4 hst
              have a1 := u32_and_nat pe pf le lf
              have a2 := u32_not_nat pe le
              have a3 := u32_and_nat (4294967295 - pe) pg (by omega) lg
              have a4 := u32_xor_nat (pe &&& pf) ((4294967295 - pe) &&& pg) (Nat.and_lt_two_pow (n := 32) _ lf) (Nat.and_lt_two_pow (n := 32) _ lg)
              have a5 := u32_and_nat pa pb la lb
              have a6 := u32_and_nat pa pc la lc
              have a7 := u32_and_nat pb pc lb lc
              have a8 := u32_xor_nat (pa &&& pb) (pa &&& pc) (Nat.and_lt_two_pow (n := 32) _ lb) (Nat.and_lt_two_pow (n := 32) _ lc)
              have a9 := u32_xor_nat ((pa &&& pb) ^^^ (pa &&& pc)) (pb &&& pc) (Nat.xor_lt_two_pow (n := 32) (Nat.and_lt_two_pow (n := 32) _ lb) (Nat.and_lt_two_pow (n := 32) _ lc)) (Nat.and_lt_two_pow (n := 32) _ lc)
              obtain ⟨n1, hn1⟩ : ∃ z, pe &&& pf = z := ⟨_, rfl⟩
              obtain ⟨n2, hn2⟩ : ∃ z, 4294967295 - pe = z := ⟨_, rfl⟩
              obtain ⟨n3, hn3⟩ : ∃ z, (4294967295 - pe) &&& pg = z := ⟨_, rfl⟩
              obtain ⟨ch, hch⟩ : ∃ z, (pe &&& pf) ^^^ ((4294967295 - pe) &&& pg) = z := ⟨_, rfl⟩
              obtain ⟨n6, hn6⟩ : ∃ z, pa &&& pb = z := ⟨_, rfl⟩
              obtain ⟨n7, hn7⟩ : ∃ z, pa &&& pc = z := ⟨_, rfl⟩
              obtain ⟨n8, hn8⟩ : ∃ z, pb &&& pc = z := ⟨_, rfl⟩
              obtain ⟨n9, hn9⟩ : ∃ z, (pa &&& pb) ^^^ (pa &&& pc) = z := ⟨_, rfl⟩
              obtain ⟨mj, hmj⟩ : ∃ z, (pa &&& pb) ^^^ (pa &&& pc) ^^^ (pb &&& pc) = z := ⟨_, rfl⟩
              rw [hch, hmj] at hst
              rw [hch, hn1, hn3] at a4
              rw [hn3, hn2] at a3
              rw [hn2] at a2
              rw [hn1] at a1
              rw [hmj, hn9, hn8] at a9
              rw [hn9, hn6, hn7] at a8
              rw [hn6] at a5
              rw [hn7] at a6
              rw [hn8] at a7
              obtain ⟨t1, ht1⟩ : ∃ z, (ph + m1) % 4294967296 = z := ⟨_, rfl⟩
              obtain ⟨t2, ht2⟩ : ∃ z, (t1 + ch) % 4294967296 = z := ⟨_, rfl⟩
              obtain ⟨t3, ht3⟩ : ∃ z, (t2 + k) % 4294967296 = z := ⟨_, rfl⟩
              obtain ⟨t4, ht4⟩ : ∃ z, (t3 + x) % 4294967296 = z := ⟨_, rfl⟩
              obtain ⟨u1, hu1⟩ : ∃ z, (m2 + mj) % 4294967296 = z := ⟨_, rfl⟩
              obtain ⟨v0, hv0⟩ : ∃ z, (t4 + u1) % 4294967296 = z := ⟨_, rfl⟩
              obtain ⟨v4, hv4⟩ : ∃ z, (pd + t4) % 4294967296 = z := ⟨_, rfl⟩
              rw [show ((ph + m1 + ch + k + x) + (m2 + mj)) % 4294967296 = v0 by omega, show (pd + (ph + m1 + ch + k + x)) % 4294967296 = v4 by omega] at hst
              have z1 : IntKind.u32.wrap ((ph : Int) + (m1 : Int)) = (t1 : Int) := by rw [IntKind.wrap_u32]; omega
              have z2 : IntKind.u32.wrap ((t1 : Int) + (ch : Int)) = (t2 : Int) := by rw [IntKind.wrap_u32]; omega
              have z3 : IntKind.u32.wrap ((t2 : Int) + (k : Int)) = (t3 : Int) := by rw [IntKind.wrap_u32]; omega
              have z4 : IntKind.u32.wrap ((t3 : Int) + (x : Int)) = (t4 : Int) := by rw [IntKind.wrap_u32]; omega
              have z5 : IntKind.u32.wrap ((m2 : Int) + (mj : Int)) = (u1 : Int) := by rw [IntKind.wrap_u32]; omega
              have z6 : IntKind.u32.wrap ((t4 : Int) + (u1 : Int)) = (v0 : Int) := by rw [IntKind.wrap_u32]; omega
              have z7 : IntKind.u32.wrap ((pd : Int) + (t4 : Int)) = (v4 : Int) := by rw [IntKind.wrap_u32]; omega
              have zz : ((t1 : Int) + (ch : Int) + (k : Int) + (x : Int)) % 4294967296 = (t4 : Int) := by omega
              have HST := Lib.hid hst
              clear hm0 hm1 hm2 hm4 hr1 hr2 hr3 hr4 hr5 hr6 hn1 hn2 hn3 hch hn6 hn7 hn8 hn9 hmj ht1 ht2 ht3 ht4 hu1 hv0 hv4 hst
              go_wp2_with fail
              go_quiet (first | (go_at_call 63; with_reducible exact quiet_drew (R1.out _)) | (go_at_call 63; with_reducible exact quiet_drew (R2.out _)) | (go_at_call 63; with_reducible exact quiet_drew (R3.out _)))
              go_wp2_with fail
              obtain ⟨W7, hW7⟩ : ∃ z, wr.drewN nq = z := ⟨_, rfl⟩
              have b7 : Below wr.heap.size wr W7 := by rw [← hW7]; exact below_drewN (Below.refl _ _) _
              have f1 : W7.cell? ⟨g3, 1, none⟩ = some (.int .u32 (pb : Int)) := by rw [← hW7]; exact d1
              have f2 : W7.cell? ⟨g3, 2, none⟩ = some (.int .u32 (pc : Int)) := by rw [← hW7]; exact d2
              have f3 : W7.cell? ⟨g3, 3, none⟩ = some (.int .u32 (pd : Int)) := by rw [← hW7]; exact d3
              have f5 : W7.cell? ⟨g3, 5, none⟩ = some (.int .u32 (pf : Int)) := by rw [← hW7]; exact d5
              have f6 : W7.cell? ⟨g3, 6, none⟩ = some (.int .u32 (pg : Int)) := by rw [← hW7]; exact d6
              rw [hW7]
              clear hW7 c0 d1 d2 d3 d4 d5 d6 d7 ck cw zz z1 z2 z3 z4 x1 x3 a1 a2 a3 a4
              have HS7 := Lib.hid (HS3.out.2.trans (b7.mono HS3.out.2.size))
              clear b7
              go_quiet (first | (go_at_call 63; with_reducible exact quiet_drew (R4.out _)) | (go_at_call 63; with_reducible exact quiet_drew (R5.out _)) | (go_at_call 63; with_reducible exact quiet_drew (R6.out _)))
              go_wp2_with fail
              obtain ⟨W8, hW8⟩ : ∃ z, W7.drewN nq = z := ⟨_, rfl⟩
              have b8 : Below W7.heap.size W7 W8 := by rw [← hW8]; exact below_drewN (Below.refl _ _) _
              have d1 : W8.cell? ⟨g3, 1, none⟩ = some (.int .u32 (pb : Int)) := by rw [← hW8]; exact f1
              have d2 : W8.cell? ⟨g3, 2, none⟩ = some (.int .u32 (pc : Int)) := by rw [← hW8]; exact f2
              have d3 : W8.cell? ⟨g3, 3, none⟩ = some (.int .u32 (pd : Int)) := by rw [← hW8]; exact f3
              have d5 : W8.cell? ⟨g3, 5, none⟩ = some (.int .u32 (pf : Int)) := by rw [← hW8]; exact f5
              have d6 : W8.cell? ⟨g3, 6, none⟩ = some (.int .u32 (pg : Int)) := by rw [← hW8]; exact f6
              rw [hW8]
              clear hW8 f1 f2 f3 f5 f6 z5 x2 x4 a5 a6 a7 a8 a9
              have HS8 := Lib.hid (HS7.out.trans (b8.mono HS7.out.size))
              clear b8
              go_region
              have HEND : Hid (OwnL 64 encW (W8.alloc (.cells #[.int .u32 (v0 : Int), .int .u32 (pa : Int), .int .u32 (pb : Int), .int .u32 (pc : Int), .int .u32 (v4 : Int), .int .u32 (pe : Int), .int .u32 (pf : Int), .int .u32 (pg : Int)] 64)).drew w5.heap.size (.slice (some ⟨W8.heap.size, 0, none⟩) 8 8) (v8n (runV v ws (i3 + 1))) ∧ Below w5.heap.size w5 (W8.alloc (.cells #[.int .u32 (v0 : Int), .int .u32 (pa : Int), .int .u32 (pb : Int), .int .u32 (pc : Int), .int .u32 (v4 : Int), .int .u32 (pe : Int), .int .u32 (pf : Int), .int .u32 (pg : Int)] 64)).drew) := Lib.hid (by
                rw [HVS.out, HST.out]
                exact ⟨(rebase (own_words W8 [v0, pa, pb, pc, v4, pe, pf, pg] 8 rfl (by omega)) HS8.out.size).below (Below.refl _ _).drew, (HS8.out.alloc HS8.out.size _).drew⟩)
              clear HST HVS d1 d2 d3 d5 d6
              go_wp2_with fail
              go_roundw
              case rel => exact ⟨i3 + 1, by omega, by go_num, HEND⟩
              case measure => simp [RowKit.intOf]; omega
            · have hie : i3 = 64 := by omega
              have hi3d : decide (i3 < 64) = false := by simp; omega
              obtain ⟨x, hx⟩ : ∃ z, runV v ws 64 = z := ⟨_, rfl⟩
              have HX := Lib.hid (show Sha.block v l = Sha.plus v x by rw [HBLK.out, hx])
              have hxok : V8ok x := by rw [← hx]; exact runV_ok HV.out ws 64
              have HS4 : Hid (OwnL 64 encW wr w5.heap.size y11 (v8n x) ∧ Below w5.heap.size w5 wr) := Lib.hid (by
                have h := HS3.out
                rw [hie, hx] at h
                exact h)
              obtain ⟨W9, hW9⟩ : ∃ z, wr = z := ⟨_, rfl⟩
              rw [hW9] at HS4 ⊢
              clear hie hx HS3 hW9
              obtain ⟨A9, c9, hv9, hc9⟩ := HS4.out.1.slice
              rw [show (v8n x).length = 8 from rfl] at hv9 hc9
              subst hv9
              obtain ⟨g9, hA9, hg9B, hg9l, -, -⟩ := HS4.out.1.get (i := 0) (x := x.a) rfl
              subst hA9
              have HBW9 := Lib.hid (HWB.out W9 HS4.out.2)
              have HWX : Hid (∀ W, Below W9.heap.size W9 W → ∀ j, j < 8 → W.cell? ⟨g9, j, none⟩ = some (.int .u32 ((v8n x).getD j 0 : Nat)) ∧ W.cell? ⟨hb, ho + j, none⟩ = some (.int .u32 ((v8n v).getD j 0 : Nat))) := Lib.hid (fun W hbw j hj => by
                have hget : (v8n x)[j]? = some ((v8n x).getD j 0) := by rw [List.getD_eq_getElem?_getD, List.getElem?_eq_getElem (by show j < 8; exact hj)]; rfl
                obtain ⟨g', hg', -, hl, hc, -⟩ := HS4.out.1.get hget
                obtain rfl : g9 = g' := by simpa using hg'
                exact ⟨(hbw.cell (p := ⟨g9, j, none⟩) hl).trans hc, HH.out W (HBW9.out.trans (hbw.mono (HSZ.out _ HBW9.out))) j hj⟩)
              have HSZ9 : Hid (∀ W, Below W9.heap.size W9 W → Below B w W) := Lib.hid (fun W hbw => HBW9.out.trans (hbw.mono (HSZ.out _ HBW9.out)))
              clear hc9 hg9B hg9l
              go_wp2_with fail
              go_loopw [17, 18] (fun v17 iv wr => ∃ j : Nat, j ≤ 8 ∧ iv = .int .i64 j ∧ Hid (OwnL 64 encW wr W9.heap.size v17 ((v8n (Sha.plus v x)).take j) ∧ Below W9.heap.size W9 wr)) (fun _ i _ => 8 - (RowKit.intOf i).toNat)
              case atStart => exact ⟨0, by omega, rfl, Lib.hid ⟨OwnL.nil, Below.refl _ _⟩⟩
              case round =>
                obtain ⟨j, hj, rfl, HS⟩ := hrel
                obtain ⟨y17, hy17⟩ : ∃ z, z = u17 := ⟨_, rfl⟩
                subst hy17
                by_cases hj2 : j < 8
                · obtain ⟨cx, ch0⟩ := HWX.out wr HS.out.2 j hj2
                  have lx := v8n_lt hxok j
                  have lv := v8n_lt HV.out j
                  obtain ⟨xj, hxj⟩ : ∃ z, (v8n x).getD j 0 = z := ⟨_, rfl⟩
                  obtain ⟨vj, hvj⟩ : ∃ z, (v8n v).getD j 0 = z := ⟨_, rfl⟩
                  have hpl := plus_get v x j hj2
                  rw [hxj] at cx lx hpl
                  rw [hvj] at ch0 lv hpl
                  obtain ⟨sj, hsj⟩ : ∃ z, (vj + xj) % 4294967296 = z := ⟨_, rfl⟩
                  rw [hsj] at hpl
                  have z1 : IntKind.u32.wrap ((vj : Int) + (xj : Int)) = (sj : Int) := by rw [IntKind.wrap_u32]; omega
                  have HPL : Hid ((v8n (Sha.plus v x)).take j ++ [sj] = (v8n (Sha.plus v x)).take (j + 1)) := Lib.hid (by rw [List.take_add_one, hpl]; rfl)
                  have jn : (j : Int) < 8 := by omega
                  clear hxj hvj hsj hpl
                  go_wp2_with fail
                  refine wp_region_noPanic ?_
                  go_region_law (first | ((refine step_append_one rfl (.tmp 225) (.tmp 235) 72 rfl Tryd.underlying72 uint32_info rfl (by decide) rfl ((HS.out.1).below ((((Below.refl wr.heap.size wr).drew).alloc (Nat.le_refl _) (.cells #[.int .u32 (sj : Int)] 64)))) wr.heap.size 1 sj rfl rfl (by rw [((RowAt.new wr.drew 64 #[.int .u32 (sj : Int)])).cell 0]; rfl) (by rw [List.length_take]; omega) (by have := HS.out.2.size; simp; omega) ?_); intro v9 w9 hown hg9; have hb9 : Below W9.heap.size W9 w9 := ((HS.out.2).trans (((((Below.refl wr.heap.size wr).drew).alloc (Nat.le_refl _) (.cells #[.int .u32 (sj : Int)] 64))).mono HS.out.2.size)).grown hg9 (by have := HS.out.2.size; simp; omega) (fun j e => (OwnL.lt ((HS.out.1).below ((((Below.refl wr.heap.size wr).drew).alloc (Nat.le_refl _) (.cells #[.int .u32 (sj : Int)] 64)))) j e).1)) | ((refine step_append_one rfl (.tmp 225) (.tmp 235) 72 rfl Tryd.underlying72 uint32_info rfl (by decide) rfl ((HS.out.1).below ((((Below.refl wr.heap.size wr).drew).alloc (Nat.le_refl _) (.cells #[.int .u32 (sj : Int)] 64)).drew)) wr.heap.size 1 sj rfl rfl (by rw [((RowAt.new wr.drew 64 #[.int .u32 (sj : Int)]).drew).cell 0]; rfl) (by rw [List.length_take]; omega) (by have := HS.out.2.size; simp; omega) ?_); intro v9 w9 hown hg9; have hb9 : Below W9.heap.size W9 w9 := ((HS.out.2).trans (((((Below.refl wr.heap.size wr).drew).alloc (Nat.le_refl _) (.cells #[.int .u32 (sj : Int)] 64)).drew).mono HS.out.2.size)).grown hg9 (by have := HS.out.2.size; simp; omega) (fun j e => (OwnL.lt ((HS.out.1).below ((((Below.refl wr.heap.size wr).drew).alloc (Nat.le_refl _) (.cells #[.int .u32 (sj : Int)] 64)).drew)) j e).1)) | ((refine step_append_one rfl (.tmp 225) (.tmp 235) 72 rfl Tryd.underlying72 uint32_info rfl (by decide) rfl ((HS.out.1).below (((Below.refl wr.heap.size wr).alloc (Nat.le_refl _) (.cells #[.int .u32 (sj : Int)] 64)))) wr.heap.size 1 sj rfl rfl (by rw [((RowAt.new wr 64 #[.int .u32 (sj : Int)])).cell 0]; rfl) (by rw [List.length_take]; omega) (by have := HS.out.2.size; simp; omega) ?_); intro v9 w9 hown hg9; have hb9 : Below W9.heap.size W9 w9 := ((HS.out.2).trans ((((Below.refl wr.heap.size wr).alloc (Nat.le_refl _) (.cells #[.int .u32 (sj : Int)] 64))).mono HS.out.2.size)).grown hg9 (by have := HS.out.2.size; simp; omega) (fun j e => (OwnL.lt ((HS.out.1).below (((Below.refl wr.heap.size wr).alloc (Nat.le_refl _) (.cells #[.int .u32 (sj : Int)] 64)))) j e).1)) | ((refine step_append_one rfl (.tmp 225) (.tmp 235) 72 rfl Tryd.underlying72 uint32_info rfl (by decide) rfl ((HS.out.1).below (((Below.refl wr.heap.size wr).alloc (Nat.le_refl _) (.cells #[.int .u32 (sj : Int)] 64)).drew)) wr.heap.size 1 sj rfl rfl (by rw [((RowAt.new wr 64 #[.int .u32 (sj : Int)]).drew).cell 0]; rfl) (by rw [List.length_take]; omega) (by have := HS.out.2.size; simp; omega) ?_); intro v9 w9 hown hg9; have hb9 : Below W9.heap.size W9 w9 := ((HS.out.2).trans ((((Below.refl wr.heap.size wr).alloc (Nat.le_refl _) (.cells #[.int .u32 (sj : Int)] 64)).drew).mono HS.out.2.size)).grown hg9 (by have := HS.out.2.size; simp; omega) (fun j e => (OwnL.lt ((HS.out.1).below (((Below.refl wr.heap.size wr).alloc (Nat.le_refl _) (.cells #[.int .u32 (sj : Int)] 64)).drew)) j e).1)))
                  all_goals
                    refine NoPanic.normal ?_
                    try simp only [Act.put, List.getElem_toArray, List.getElem_cons_zero, List.getElem_cons_succ, List.setIfInBounds_toArray, List.set_cons_zero, List.set_cons_succ]
                    rw [HPL.out] at hown
                    have HE := Lib.hid (And.intro hown hb9)
                    clear hown hb9 hg9
                    go_wp2_with fail
                    go_roundw
                    case rel => exact ⟨j + 1, by omega, by go_num, HE⟩
                    case measure => simp [RowKit.intOf]; omega
                · have hj8 : decide (j < 8) = false := by simp; omega
                  have HE : Hid (OwnL 64 encW wr W9.heap.size y17 (v8n (Sha.plus v x)) ∧ Below W9.heap.size W9 wr) := Lib.hid (by
                    have h := HS.out
                    rwa [List.take_of_length_le (by show 8 ≤ j; omega)] at h)
                  clear HS
                  go_wp2_with fail
                  go_ret
                  rw [HX.out]
                  exact ⟨_, rfl, rebase HE.out.1 (HSZ.out _ HBW9.out), HSZ9.out _ HE.out.2⟩
end Go.Proofs.YtgmdjbhclihflaaDoor
