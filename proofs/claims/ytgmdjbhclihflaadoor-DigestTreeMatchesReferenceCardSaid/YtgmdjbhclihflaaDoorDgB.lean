/- The schedule of a block. -/
import Derived.Test.YtgmdjbhclihflaaDoorDgA
import Derived.Test.YtgmdjbhclihflaaDoorDgG
namespace Go.Proofs.YtgmdjbhclihflaaDoor
open Go Go.RowKit Go.Lib

/-- words as cells -/
def u32s (l : List Nat) : List Value := l.map fun x : Nat => .int .u32 (x : Int)
/-- the cells of an array of n words of which the first are known -/
def wCells (n : Nat) (l : List Nat) : Array Value := (u32s (l ++ List.replicate (n - l.length) 0)).toArray
theorem wCells_get {n : Nat} {l : List Nat} {i : Nat} (h : i < l.length) : (wCells n l)[i]? = some (.int .u32 (l.getD i 0 : Nat)) := by
  unfold wCells u32s
  rw [List.getElem?_toArray, List.getElem?_map, List.getElem?_append_left h, List.getD_eq_getElem?_getD, List.getElem?_eq_getElem h]
  rfl
theorem wCells_set {n : Nat} {l : List Nat} (h : l.length < n) (x : Nat) : (wCells n l).setIfInBounds l.length (.int .u32 (x : Int)) = wCells n (l ++ [x]) := by
  unfold wCells u32s
  apply Array.ext'
  rw [List.setIfInBounds_toArray]
  obtain ⟨k, hk⟩ : ∃ k, n - l.length = k + 1 := ⟨n - l.length - 1, by omega⟩
  rw [hk, List.length_append, List.length_singleton, show n - (l.length + 1) = k by omega, List.replicate_succ, List.map_append, List.map_cons, List.map_append, List.map_append]
  simp
theorem wCells_full {n : Nat} {l : List Nat} (h : l.length = n) : wCells n l = (u32s l).toArray := by
  unfold wCells
  rw [h, Nat.sub_self, List.replicate_zero, List.append_nil]
theorem u32s_one (l : List Nat) : ((u32s l).toArray).all (·.oneCell') = true := by
  rw [Array.all_eq_true_iff_forall_mem]
  intro v hv
  simp only [u32s, List.mem_toArray, List.mem_map] at hv
  obtain ⟨x, _, rfl⟩ := hv
  rfl
theorem wCells_zero {n : Nat} {l : List Nat} {i : Nat} (h : l.length ≤ i) (hi : i < n) : (wCells n l)[i]? = some (.int .u32 0) := by
  unfold wCells u32s
  rw [List.getElem?_toArray, List.getElem?_map, List.getElem?_append_right h, List.getElem?_replicate, if_pos (by omega)]
  rfl
theorem getD_lt {l : List Nat} {m : Nat} (h : ∀ x ∈ l, x < m + 1) (j : Nat) : l.getD j 0 < m + 1 := by
  rw [List.getD_eq_getElem?_getD]
  cases e : l[j]? with
  | none => simp
  | some x => exact h x (List.mem_of_getElem? e)
theorem first_len : ∀ (l : List Nat), l.length = 64 → (Sha.first l).length = 16 := by
  have h : ∀ (n : Nat) (l : List Nat), l.length = 4 * n → (Sha.first l).length = n := by
    intro n
    induction n with
    | zero => intro l h; rw [List.length_eq_zero_iff.1 (show l.length = 0 by omega)]; rfl
    | succ n ih =>
      intro l h
      match l, h with
      | a :: b :: c :: d :: l, h => rw [Sha.first, List.length_cons, ih l (by simp at h; omega)]
      | [], h => simp at h
      | [_], h => simp at h; omega
      | [_, _], h => simp at h; omega
      | [_, _, _], h => simp at h; omega
  intro l hl
  exact h 16 l (by omega)
theorem first_at : ∀ (i : Nat) (l : List Nat), 4 * i + 3 < l.length → (Sha.first l)[i]? = some (l.getD (4 * i) 0 * 16777216 + l.getD (4 * i + 1) 0 * 65536 + l.getD (4 * i + 2) 0 * 256 + l.getD (4 * i + 3) 0)
  | i, a :: b :: c :: d :: l, h => by
    rw [Sha.first]
    cases i with
    | zero => rfl
    | succ i =>
      rw [List.getElem?_cons_succ, first_at i l (by simp at h; omega)]
      rw [show 4 * (i + 1) = 4 * i + 4 by omega]
      rfl
  | i, [], h => by simp at h
  | i, [_], h => by simp at h
  | i, [_, _], h => by simp at h; omega
  | i, [_, _, _], h => by simp at h; omega
theorem first_get (l : List Nat) (hl : l.length = 64) (i : Nat) (hi : i < 16) : (Sha.first l).take (i + 1) = (Sha.first l).take i ++ [l.getD (4 * i) 0 * 16777216 + l.getD (4 * i + 1) 0 * 65536 + l.getD (4 * i + 2) 0 * 256 + l.getD (4 * i + 3) 0] := by
  rw [List.take_add_one, first_at i l (by omega)]
  rfl
theorem word_or (x0 x1 x2 x3 : Nat) (h0 : x0 < 256) (h1 : x1 < 256) (h2 : x2 < 256) (h3 : x3 < 256) :
    bits BinOp.or IntKind.u32 (bits BinOp.or IntKind.u32 (bits BinOp.or IntKind.u32 ((x0 : Int) * 16777216) ((x1 : Int) * 65536)) ((x2 : Int) * 256)) (x3 : Int) = ((x0 * 16777216 + x1 * 65536 + x2 * 256 + x3 : Nat) : Int) := by
  have e1 := Nat.two_pow_add_eq_or_of_lt (i := 24) (b := x1 * 65536) (by omega) x0
  have e2 := Nat.two_pow_add_eq_or_of_lt (i := 16) (b := x2 * 256) (by omega) (x0 * 256 + x1)
  have e3 := Nat.two_pow_add_eq_or_of_lt (i := 8) (b := x3) (by omega) (x0 * 65536 + x1 * 256 + x2)
  rw [show (x0 : Int) * 16777216 = ((x0 * 16777216 : Nat) : Int) by omega, show (x1 : Int) * 65536 = ((x1 * 65536 : Nat) : Int) by omega, u32_or_nat _ _ (by omega) (by omega),
    show x0 * 16777216 ||| x1 * 65536 = 2 ^ 16 * (x0 * 256 + x1) by rw [show x0 * 16777216 = 2 ^ 24 * x0 by omega, ← e1]; omega,
    show (x2 : Int) * 256 = ((x2 * 256 : Nat) : Int) by omega, u32_or_nat _ _ (by omega) (by omega), ← e2,
    show 2 ^ 16 * (x0 * 256 + x1) + x2 * 256 = 2 ^ 8 * (x0 * 65536 + x1 * 256 + x2) by omega, u32_or_nat _ _ (by omega) (by omega), ← e3]
  congr 1
  omega
theorem grow_len (w : List Nat) : (Sha.grow w).length = w.length + 1 := by simp [Sha.grow]
theorem growN_len : ∀ (n : Nat) (w : List Nat), (Sha.growN n w).length = w.length + n
  | 0, w => rfl
  | n + 1, w => by rw [Sha.growN, growN_len n, grow_len]; omega
theorem growN_succ : ∀ (n : Nat) (w : List Nat), Sha.growN (n + 1) w = Sha.grow (Sha.growN n w)
  | 0, w => rfl
  | n + 1, w => by
    show Sha.growN (n + 1) (Sha.grow w) = Sha.grow (Sha.growN n (Sha.grow w))
    exact growN_succ n (Sha.grow w)
theorem first_lt (l : List Nat) (h : ∀ x ∈ l, x < 256) : ∀ x ∈ Sha.first l, x < 4294967296 := by
  match l, h with
  | a :: b :: c :: d :: l, h =>
    intro x hx
    rw [Sha.first] at hx
    rcases List.mem_cons.1 hx with rfl | hx
    · have := h a (by simp)
      have := h b (by simp)
      have := h c (by simp)
      have := h d (by simp)
      omega
    · exact first_lt l (fun y hy => h y (by simp [hy])) x hx
  | [], h | [_], h | [_, _], h | [_, _, _], h => intro x hx; simp [Sha.first] at hx
theorem grow_lt {w : List Nat} (n : Nat) (h : ∀ x ∈ w, x < 4294967296) : ∀ j, (Sha.growN n w).getD j 0 < 4294967296 := by
  have g : ∀ (n : Nat) (w : List Nat), (∀ x ∈ w, x < 4294967296) → ∀ x ∈ Sha.growN n w, x < 4294967296 := by
    intro n
    induction n with
    | zero => intro w h; exact h
    | succ n ih =>
      intro w h
      refine ih (Sha.grow w) fun x hx => ?_
      unfold Sha.grow at hx
      rcases List.mem_append.1 hx with hx | hx
      · exact h x hx
      · rw [List.mem_singleton.1 hx]
        exact Nat.mod_lt _ (by decide)
  exact fun j => getD_lt (m := 4294967295) (g n w h) j
theorem row_new1 (w : World) (o : Obj) (t : TypeId) (cs : Array Value) : RowAt ((w.alloc o).alloc (.cells cs t)) (w.heap.size + 1) t cs := by
  have h := RowAt.new (w.alloc o) t cs
  simpa using h
theorem mixed2_any (x b k m : Nat) (w : World) (hx : x < 4294967296) (k1 : 1 ≤ k) (k2 : k ≤ 31) (m1 : 1 ≤ m) (m2 : m ≤ 31) (hr : RowAt w b 3 #[.int .i64 (k : Int), .int .i64 (m : Int)]) :
    Calls Tryd.prog 62 #[.int .u32 x, .slice (some ⟨b, 0, none⟩) 2 2] w fun e w' => e = .returned (.int .u32 (Sha.mix2 x k m : Nat)) ∧ w = w' := by
  rw [← mixF2]
  refine mixed_any x b 2 [k, m] w hx rfl (by omega) (by simp; omega) fun i hi => ?_
  rw [hr.cell i]
  match i, hi with
  | 0, _ | 1, _ => rfl
set_option maxRecDepth 100000 in
set_option maxHeartbeats 2000000 in
theorem schedule_any (bb o c : Nat) (l : List Nat) (w : World) (hl : l.length = 64) (hb : ∀ x ∈ l, x < 256) (hc : ∀ j, j < 64 → w.cell? ⟨bb, o + j, none⟩ = some (.int .u8 (l.getD j 0 : Nat))) (hlt : bb < w.heap.size) :
    Calls Tryd.prog 61 #[.slice (some ⟨bb, o, none⟩) 64 c] w fun e w' => e = .returned (.agg (u32s (Sha.growN 48 (Sha.first l))).toArray) ∧ Below w.heap.size w w' := by
  have HC := Lib.hid hc
  have HL := Lib.hid hl
  have HBY := Lib.hid hb
  have HLT := Lib.hid hlt
  obtain ⟨CS, hCS⟩ : ∃ z, (u32s (Sha.growN 48 (Sha.first l))).toArray = z := ⟨_, rfl⟩
  rw [hCS]
  have HCS := Lib.hid hCS
  clear hc hl hb hlt hCS
  go_enter Tryd.func61, Tryd.ntmps61
  go_wp2_with fail
  generalize hW1 : w.alloc (.cells _ 83) = W1
  have r1 : RowAt W1 w.heap.size 83 (wCells 64 []) := by rw [← hW1]; exact RowAt.new _ _ _
  have b1 : Below w.heap.size w W1 := by rw [← hW1]; exact (Below.refl _ _).alloc (Nat.le_refl _) _
  clear hW1
  obtain ⟨n2, hn2⟩ : ∃ z, w.heap.size = z := ⟨_, rfl⟩
  rw [hn2] at r1 b1 HLT ⊢
  have HN2 := Lib.hid hn2
  have H1 : Hid (RowAt W1 n2 83 (wCells 64 ((Sha.first l).take 0)) ∧ Below n2 w W1) := Lib.hid ⟨r1, b1⟩
  clear hn2 r1 b1
  go_loopw [7] (fun iv wr => ∃ i : Nat, i ≤ 16 ∧ iv = .int .i64 i ∧ Hid (RowAt wr n2 83 (wCells 64 ((Sha.first l).take i)) ∧ Below n2 w wr)) (fun i _ => 16 - (intOf i).toNat)
  case atStart => exact ⟨0, by omega, rfl, H1⟩
  case round =>
    obtain ⟨i, hi, rfl, HK⟩ := hrel
    by_cases hi2 : i < 16
    · have hfl : (Sha.first l).length = 16 := first_len l HL.out
      have cc : ∀ j, j < 64 → wr.cell? ⟨bb, o + j, none⟩ = some (.int .u8 (l.getD j 0 : Nat)) := fun j hj => (HK.out.2.cell (p := ⟨bb, o + j, none⟩) HLT.out).trans (HC.out j hj)
      have c0 := cc (4 * i) (by omega)
      have c1 := cc (4 * i + 1) (by omega)
      have c2 := cc (4 * i + 2) (by omega)
      have c3 := cc (4 * i + 3) (by omega)
      have hw : ∀ j, l.getD j 0 < 256 := getD_lt HBY.out
      have hx := first_get l HL.out i hi2
      have hb0 := hw (4 * i)
      have hb1 := hw (4 * i + 1)
      have hb2 := hw (4 * i + 2)
      have hb3 := hw (4 * i + 3)
      obtain ⟨x0, hx0⟩ : ∃ z, l.getD (4 * i) 0 = z := ⟨_, rfl⟩
      obtain ⟨x1, hx1⟩ : ∃ z, l.getD (4 * i + 1) 0 = z := ⟨_, rfl⟩
      obtain ⟨x2, hx2⟩ : ∃ z, l.getD (4 * i + 2) 0 = z := ⟨_, rfl⟩
      obtain ⟨x3, hx3⟩ : ∃ z, l.getD (4 * i + 3) 0 = z := ⟨_, rfl⟩
      rw [hx0] at c0 hb0 hx
      rw [hx1] at c1 hb1 hx
      rw [hx2] at c2 hb2 hx
      rw [hx3] at c3 hb3 hx
      have HX := Lib.hid hx
      have hz := HK.out.1.cell i
      have hf := HK.out.1.free i
      rw [wCells_zero (by rw [List.length_take, hfl]; omega) (by omega)] at hz
      have hword := word_or x0 x1 x2 x3 hb0 hb1 hb2 hb3
      obtain ⟨X, hX⟩ : ∃ z, x0 * 16777216 + x1 * 65536 + x2 * 256 + x3 = z := ⟨_, rfl⟩
      rw [hX] at hword hx
      have HXX := Lib.hid hx
      have HFL := Lib.hid (show ((Sha.first l).take i).length = i by rw [List.length_take, hfl]; omega)
      clear cc hw hx hfl hx0 hx1 hx2 hx3 HX hX
      go_wp2_with fail
      go_region
      have HEND : Hid (RowAt (wr.setCell ⟨n2, i, none⟩ (.int .u32 (X : Int))).drew n2 83 (wCells 64 ((Sha.first l).take (i + 1))) ∧ Below n2 w (wr.setCell ⟨n2, i, none⟩ (.int .u32 (X : Int))).drew) := Lib.hid (by
        have h := HK.out.1.set i (.int .u32 (X : Int))
        have h2 := wCells_set (n := 64) (l := (Sha.first l).take i) (by rw [HFL.out]; omega) X
        rw [HFL.out] at h2
        rw [h2, ← HXX.out] at h
        exact ⟨h, (HK.out.2.setCell (p := ⟨n2, i, none⟩) (Nat.le_refl _) _).drew⟩)
      go_wp2_with fail
      go_roundw
      case rel => exact ⟨i + 1, by omega, by go_num, HEND⟩
      case measure => simp [intOf]; omega
    · have hi16 : i = 16 := by omega
      have H2 : Hid (RowAt wr n2 83 (wCells 64 (Sha.growN 0 (Sha.first l))) ∧ Below n2 w wr) := Lib.hid (by
        have h := HK.out
        rw [hi16, List.take_of_length_le (by rw [first_len l HL.out]; omega)] at h
        exact h)
      obtain ⟨W2, hW2⟩ : ∃ z, wr = z := ⟨_, rfl⟩
      rw [hW2] at H2 ⊢
      clear hW2 HK hi16
      go_wp2_with fail
      go_loopw [4] (fun iv wr => ∃ m p : Nat, m ≤ 48 ∧ p = 16 + m ∧ iv = .int .i64 p ∧ Hid (RowAt wr n2 83 (wCells 64 (Sha.growN m (Sha.first l))) ∧ Below n2 w wr)) (fun i _ => 64 - (intOf i).toNat)
      case atStart => exact ⟨0, 16, by omega, rfl, rfl, H2⟩
      case round =>
        obtain ⟨m, p, hm, hp, rfl, HK⟩ := hrel
        by_cases hm2 : m < 48
        · have hp1 : 16 ≤ p := by omega
          have hp2 : p < 64 := by omega
          have hlen := growN_len m (Sha.first l)
          rw [first_len l HL.out, ← hp] at hlen
          have hws := grow_lt m (first_lt l HBY.out)
          have hg := growN_succ m (Sha.first l)
          obtain ⟨ws, hws0⟩ : ∃ z, Sha.growN m (Sha.first l) = z := ⟨_, rfl⟩
          rw [hws0] at hlen hws hg HK
          have hc := fun (j : Nat) (hj : j < p) => (HK.out.1.cell j).trans (wCells_get (n := 64) (l := ws) (by rw [hlen]; exact hj))
          have c16 := hc (p - 16) (by omega)
          have c15 := hc (p - 15) (by omega)
          have c7 := hc (p - 7) (by omega)
          have c2 := hc (p - 2) (by omega)
          have l16 := hws (p - 16)
          have l15 := hws (p - 15)
          have l7 := hws (p - 7)
          have l2 := hws (p - 2)
          unfold Sha.grow at hg
          rw [hlen] at hg
          obtain ⟨a16, ha16⟩ : ∃ z, ws.getD (p - 16) 0 = z := ⟨_, rfl⟩
          obtain ⟨a15, ha15⟩ : ∃ z, ws.getD (p - 15) 0 = z := ⟨_, rfl⟩
          obtain ⟨a7, ha7⟩ : ∃ z, ws.getD (p - 7) 0 = z := ⟨_, rfl⟩
          obtain ⟨a2, ha2⟩ : ∃ z, ws.getD (p - 2) 0 = z := ⟨_, rfl⟩
          rw [ha16] at c16 l16 hg
          rw [ha15] at c15 l15 hg
          rw [ha7] at c7 l7 hg
          rw [ha2] at c2 l2 hg
          have hz := HK.out.1.cell p
          have hf := HK.out.1.free p
          rw [wCells_zero (by omega) (by omega)] at hz
          have HG := Lib.hid hg
          have HLEN := Lib.hid hlen
          have HP := Lib.hid hp
          clear hc hws hg hlen hp ha16 ha15 ha7 ha2 hws0
          go_wp2_with fail
          go_quiet (fail)
          go_wp2_with fail
          obtain ⟨W3, hW3⟩ : ∃ z, wr.drewN nq = z := ⟨_, rfl⟩
          obtain ⟨q16, hq16⟩ : ∃ z, p - 16 = z := ⟨_, rfl⟩
          obtain ⟨q7, hq7⟩ : ∃ z, p - 7 = z := ⟨_, rfl⟩
          have e16 : IntKind.i64.wrap ((p : Int) - 16) = (q16 : Int) := by rw [← hq16, IntWalk.i64_in _ (by omega)]; omega
          have e7 : IntKind.i64.wrap ((p : Int) - 7) = (q7 : Int) := by rw [← hq7, IntWalk.i64_in _ (by omega)]; omega
          have b16 : (q16 : Int) < 64 := by omega
          have b7 : (q7 : Int) < 64 := by omega
          have n16 : ¬ p = q16 := by omega
          have n7 : ¬ p = q7 := by omega
          have d16 : W3.cell? ⟨n2, q16, none⟩ = some (.int .u32 (a16 : Int)) := by rw [← hW3, ← hq16]; exact c16
          have d7 : W3.cell? ⟨n2, q7, none⟩ = some (.int .u32 (a7 : Int)) := by rw [← hW3, ← hq7]; exact c7
          have dz : W3.cell? ⟨n2, p, none⟩ = some (.int .u32 0) := by rw [← hW3]; exact hz
          have df : W3.frozen? ⟨n2, p, none⟩ = false := by rw [← hW3]; exact hf
          have HK3 : Hid (RowAt W3 n2 83 (wCells 64 ws) ∧ Below n2 w W3) := Lib.hid (by rw [← hW3]; exact ⟨HK.out.1, below_drewN HK.out.2 _⟩)
          have hsz : n2 < W3.heap.size := HK3.out.1.lt
          rw [hW3]
          clear hW3 c16 c15 c7 c2 hz hf HK hq16 hq7
          have hm1 := mixF_lt l15 [7, 18]
          have hm2 := mixF_lt l2 [17, 19]
          have MX1 := Lib.hid (fun (b : Nat) W (h : RowAt W b 3 #[.int .i64 7, .int .i64 18]) => mixed2_any a15 b 7 18 W l15 (by omega) (by omega) (by omega) (by omega) h)
          have MX2 := Lib.hid (fun (b : Nat) W (h : RowAt W b 3 #[.int .i64 17, .int .i64 19]) => mixed2_any a2 b 17 19 W l2 (by omega) (by omega) (by omega) (by omega) h)
          have hnx : Sha.next a16 a15 a7 a2 = (a16 + (mixF a15 [7, 18] ^^^ a15 / 8) + a7 + (mixF a2 [17, 19] ^^^ a2 / 1024)) % 4294967296 := by unfold Sha.next; rw [mixF2, mixF2]
          rw [← mixF2] at MX1 MX2
          obtain ⟨m1, hm10⟩ : ∃ z, mixF a15 [7, 18] = z := ⟨_, rfl⟩
          obtain ⟨m2, hm20⟩ : ∃ z, mixF a2 [17, 19] = z := ⟨_, rfl⟩
          rw [hm10] at MX1 hm1 hnx
          rw [hm20] at MX2 hm2 hnx
          have x1 := u32_xor_nat m1 (a15 / 8) hm1 (by omega)
          have x2 := u32_xor_nat m2 (a2 / 1024) hm2 (by omega)
          have y1 : m1 ^^^ a15 / 8 < 4294967296 := Nat.xor_lt_two_pow (n := 32) hm1 (by omega)
          have y2 : m2 ^^^ a2 / 1024 < 4294967296 := Nat.xor_lt_two_pow (n := 32) hm2 (by omega)
          obtain ⟨s1, hs1⟩ : ∃ z, m1 ^^^ a15 / 8 = z := ⟨_, rfl⟩
          obtain ⟨s2, hs2⟩ : ∃ z, m2 ^^^ a2 / 1024 = z := ⟨_, rfl⟩
          rw [hs1] at x1 y1 hnx
          rw [hs2] at x2 y2 hnx
          rw [show ((a15 / 8 : Nat) : Int) = (a15 : Int) / 8 by omega] at x1
          rw [show ((a2 / 1024 : Nat) : Int) = (a2 : Int) / 1024 by omega] at x2
          clear hm10 hm20 hs1 hs2
          obtain ⟨t1, ht1⟩ : ∃ z, (a16 + s1) % 4294967296 = z := ⟨_, rfl⟩
          obtain ⟨t2, ht2⟩ : ∃ z, (t1 + a7) % 4294967296 = z := ⟨_, rfl⟩
          obtain ⟨nx, hnx0⟩ : ∃ z, Sha.next a16 a15 a7 a2 = z := ⟨_, rfl⟩
          rw [hnx0] at hnx
          have z1 : IntKind.u32.wrap ((a16 : Int) + (s1 : Int)) = (t1 : Int) := by rw [IntKind.wrap_u32]; omega
          have z2 : IntKind.u32.wrap ((t1 : Int) + (a7 : Int)) = (t2 : Int) := by rw [IntKind.wrap_u32]; omega
          have z3 : IntKind.u32.wrap ((t2 : Int) + (s2 : Int)) = (nx : Int) := by rw [IntKind.wrap_u32]; omega
          have HNX := Lib.hid hnx0
          clear ht1 ht2 hnx hnx0
          have f16 : (W3.setCell ⟨n2, p, none⟩ (.int .u32 (nx : Int))).cell? ⟨n2, q16, none⟩ = some (.int .u32 (a16 : Int)) := by rw [World.cell?_setCell_other _ _ _ _ (fun e => n16 (by cases e; rfl))]; exact d16
          have f7 : (W3.setCell ⟨n2, p, none⟩ (.int .u32 (nx : Int))).cell? ⟨n2, q7, none⟩ = some (.int .u32 (a7 : Int)) := by rw [World.cell?_setCell_other _ _ _ _ (fun e => n7 (by cases e; rfl))]; exact d7
          have HEND : Hid (∀ o1 o2, RowAt (((W3.setCell ⟨n2, p, none⟩ (.int .u32 (nx : Int))).alloc o1).alloc o2).drew n2 83 (wCells 64 (Sha.growN (m + 1) (Sha.first l))) ∧ Below n2 w (((W3.setCell ⟨n2, p, none⟩ (.int .u32 (nx : Int))).alloc o1).alloc o2).drew) := Lib.hid (fun o1 o2 => by
            have h := HK3.out.1.set p (.int .u32 (nx : Int))
            have h2 := wCells_set (n := 64) (l := ws) (by rw [HLEN.out]; exact hp2) nx
            rw [HLEN.out] at h2
            rw [HG.out, HNX.out, ← h2]
            have hb := HK3.out.2.setCell (p := ⟨n2, p, none⟩) (Nat.le_refl _) (.int .u32 (nx : Int))
            exact ⟨((h.alloc o1).alloc o2).drew, ((hb.alloc (Nat.le_of_lt h.lt) o1).alloc (Nat.le_of_lt (h.alloc o1).lt) o2).drew⟩)
          clear HG HLEN HNX
          go_region_held3 (fun w' => w'.cell? ⟨n2, q16, none⟩ = some (.int .u32 (a16 : Int)) ∧ w'.cell? ⟨n2, q7, none⟩ = some (.int .u32 (a7 : Int))) (go_keep) (first | (go_at_call 62; (with_reducible refine (MX1.out _ _ ?_).mono ?_); (first | with_reducible exact (RowAt.new W3 _ _).drew | with_reducible exact ((RowAt.new W3 _ _).alloc _).drew | with_reducible exact (row_new1 W3 _ _ _).drew); rintro e w' ⟨rfl, rfl⟩) | (go_at_call 62; (with_reducible refine (MX2.out _ _ ?_).mono ?_); (first | with_reducible exact (RowAt.new W3 _ _).drew | with_reducible exact ((RowAt.new W3 _ _).alloc _).drew | with_reducible exact (row_new1 W3 _ _ _).drew); rintro e w' ⟨rfl, rfl⟩))
          all_goals
            go_wp2_with fail
            go_roundw
            case rel => exact ⟨m + 1, p + 1, by omega, by have := HP.out; omega, by go_num, Lib.hid (HEND.out _ _)⟩
            case measure => simp [intOf]; omega
        · have hp64 : p = 64 := by omega
          have hm48 : m = 48 := by omega
          have hcs : wCells 64 (Sha.growN m (Sha.first l)) = (u32s (Sha.growN 48 (Sha.first l))).toArray := by
            rw [hm48]
            exact wCells_full (by rw [growN_len, first_len l HL.out])
          have hr := HK.out.1
          rw [hcs] at hr
          have hsz : (u32s (Sha.growN 48 (Sha.first l))).toArray.size = 64 := by simp [u32s, growN_len, first_len l HL.out]
          have hone : ((u32s (Sha.growN 48 (Sha.first l))).toArray).all (·.oneCell') = true := u32s_one _
          rw [HCS.out] at hr hsz hone
          have hi : (Tryd.prog.info? 83).map (·.size) = some CS.size := by rw [hsz]; kernel_rfl
          have HR := Lib.hid (show wr.heap[n2]? = some (.cells CS 83 (0, 0)) from hr)
          have HI := Lib.hid hi
          have HS := Lib.hid hone
          have HB := Lib.hid (show Below w.heap.size w wr by rw [HN2.out]; exact HK.out.2)
          have hge : ¬ p < 64 := by omega
          clear hr hi hone hcs hsz hp64 hm48 HK hp
          go_wp2_with (first | ((with_reducible refine wpList_load_row (o := ⟨some 83, _, _, _, _, _⟩) ?_ 83 (.tmp 2) ?_ n2 ?_ 83 CS (0, 0) _ HR.out Tryd.underlying83 ?_ HI.out ?_); rfl; rfl; rfl; rfl) | ((with_reducible refine wpList_store_row (o := ⟨none, .store _ _ _, _, _, _, _⟩) ?_ 83 (.tmp 2) (.tmp 83) ?_ n2 CS ?_ ?_ 83 CS HR.out HI.out rfl HS.out ?_); rfl; rfl; rfl; rfl))
          exact bodyPost_ret (results_cell_row rfl _ _ n2 _ CS _ _ rfl (setRow_same HR.out) Tryd.underlying83 rfl HI.out) rfl ⟨rfl, below_setRow HB.out (by rw [HN2.out]; exact Nat.le_refl _)⟩
end Go.Proofs.YtgmdjbhclihflaaDoor
