/- Sum. -/
import Derived.Test.YtgmdjbhclihflaaDoorDgF
namespace Go.Proofs.YtgmdjbhclihflaaDoor
open Go Go.RowKit Go.Lib Go.Shelf
attribute [local go_sem] Oper.semAt_some

def zn (n : Nat) : Nat := (119 - n % 64) % 64
/-- the length of a string in eight bytes -/
def be8 (x : Nat) : List UInt8 := [UInt8.ofNat (x / 2 ^ 56 % 256), UInt8.ofNat (x / 2 ^ 48 % 256), UInt8.ofNat (x / 2 ^ 40 % 256), UInt8.ofNat (x / 2 ^ 32 % 256), UInt8.ofNat (x / 2 ^ 24 % 256), UInt8.ofNat (x / 2 ^ 16 % 256), UInt8.ofNat (x / 2 ^ 8 % 256), UInt8.ofNat (x / 2 ^ 0 % 256)]
def padB (s : List UInt8) : List UInt8 := s ++ 128 :: List.replicate (zn s.length) 0 ++ be8 (8 * s.length)
def stV (p : List Nat) : Nat → Sha.V8
  | 0 => Sha.h0
  | k + 1 => Sha.block (stV p k) ((p.drop (64 * k)).take 64)
/-- the digest of a string -/
def shaB (s : List UInt8) : List UInt8 := digB (stV ((padB s).map UInt8.toNat) ((padB s).length / 64))
theorem padB_len (s : List UInt8) : ∃ m, (padB s).length = 64 * m ∧ (padB s).length / 64 = m ∧ (padB s).length ≤ s.length + 73 := by
  have e : (padB s).length = s.length + 1 + zn s.length + 8 := by simp [padB, be8]; omega
  have h : zn s.length < 64 := Nat.mod_lt _ (by decide)
  refine ⟨(padB s).length / 64, ?_, rfl, by omega⟩
  rw [e]
  unfold zn
  omega
theorem step_ok' {v x : Sha.V8} : V8ok (Sha.plus v x) := ⟨Nat.mod_lt _ (by decide), Nat.mod_lt _ (by decide), Nat.mod_lt _ (by decide), Nat.mod_lt _ (by decide), Nat.mod_lt _ (by decide), Nat.mod_lt _ (by decide), Nat.mod_lt _ (by decide), Nat.mod_lt _ (by decide)⟩
theorem h0_ok : V8ok Sha.h0 := ⟨by decide, by decide, by decide, by decide, by decide, by decide, by decide, by decide⟩
theorem stV_ok (p : List Nat) : ∀ k, V8ok (stV p k)
  | 0 => h0_ok
  | _ + 1 => step_ok'
theorem shaB_len (s : List UInt8) : (shaB s).length = 32 := by unfold shaB digB; rw [List.length_map, digN_len]
theorem be8_at (x j : Nat) (hj : j < 8) : (be8 x)[j]? = some (UInt8.ofNat (x / 2 ^ (56 - 8 * j) % 256)) := by
  match j, hj with
  | 0, _ | 1, _ | 2, _ | 3, _ | 4, _ | 5, _ | 6, _ | 7, _ => rfl
/-- where Sum stands: the words in block nb, the bytes in a row from gB on -/
structure SumAt (w : World) (nb gB : Nat) (v8 : Sha.V8) (wr : World) (v : Value) (l : List UInt8) : Prop where
  bytes : BytesAt wr gB v l
  row : RowAt wr nb 66 (v8c v8)
  below : Below nb w wr
  lt : nb < gB
  size : gB ≤ wr.heap.size
theorem SumAt.push {w : World} {nb gB : Nat} {v8 : Sha.V8} {wr w9 : World} {v v' : Value} {l : List UInt8} {b : UInt8} (h : SumAt w nb gB v8 wr v l) (o : Obj) (hown : BytesAt w9 gB v' (l ++ [b])) (hg : (wr.alloc o).grownBy w9 v.ownBlock) : SumAt w nb gB v8 w9 v' (l ++ [b]) := by
  obtain ⟨g, cap, rfl, hgb, hgl, _⟩ := h.bytes.slice3
  have ha := (Below.refl wr.heap.size wr).alloc (Nat.le_refl _) o
  have hlt := h.row.lt
  have hsz := ha.size
  refine ⟨hown, ?_, ?_, h.lt, ?_⟩
  · exact (hg.block nb (by omega) (fun e => by simp [Value.ownBlock] at e; have := h.lt; omega)).trans (h.row.below ha hlt)
  · exact (h.below.trans (ha.mono (Nat.le_of_lt hlt))).grown hg (by omega) (fun j e => by simp [Value.ownBlock] at e; have := h.lt; omega)
  · have h1 := hg.size
    have h2 := h.size
    omega
theorem chunk_any (g L c : Nat) (n : Int) (w : World) (hn : 1 ≤ n) :
    Calls Tryd.prog 48 #[.slice (some ⟨g, 0, none⟩) L c, .int .i64 n] w fun e w' => e = .returned (.func (.func 60) #[] #[.pointer (some ⟨w.heap.size, 0, none⟩), .pointer (some ⟨w.heap.size + 1, 0, none⟩)]) ∧ (w.alloc (.cells #[.slice (some ⟨g, 0, none⟩) L c] 45)).alloc (.cells #[.int .i64 n] 3) = w' := by
  go_enter Tryd.func48, Tryd.ntmps48
  go_wp2_with fail
  go_ret
  exact ⟨rfl, rfl⟩
set_option maxRecDepth 100000 in
set_option maxHeartbeats 4000000 in
theorem sum_any (s : List UInt8) (w : World) (hs : s.length ≤ 100000) (hK : KAt w) :
    Calls Tryd.prog 27 #[.string ⟨s.toArray⟩] w fun e w' => e = .returned (.string ⟨(shaB s).toArray⟩) ∧ Below w.heap.size w w' := by
  obtain ⟨R, hR⟩ : ∃ z, shaB s = z := ⟨_, rfl⟩
  rw [hR]
  have HR := Lib.hid hR
  have HK := Lib.hid hK
  clear hR hK
  refine (callsIn_wide (n := 9)).1 (callsIn_of_wp_marks Tryd.func27 rfl trivial ?_ rfl)
  simp only [Tryd.ntmps27, List.size_toArray, List.length_cons, List.length_nil, Nat.reduceAdd, Nat.reduceSub, Array.replicate_succ, Array.replicate_zero, List.push_toArray, List.append_toArray, List.nil_append, List.cons_append]
  refine wpIn_wide.2 ?_
  go_wp2_with (first | ((with_reducible refine wpList_stop (o := ⟨some 9, _, _, _, _, _⟩) ?_)))
  unfold Stop
  generalize hW1 : w.alloc (.cells _ 66) = W1
  have r1 : RowAt W1 w.heap.size 66 (v8c Sha.h0) := by rw [← hW1]; exact RowAt.new _ _ _
  have b1 : Below w.heap.size w W1 := by rw [← hW1]; exact (Below.refl _ _).alloc (Nat.le_refl _) _
  have k1 : KAt W1 := HK.out.below b1
  clear hW1
  obtain ⟨nb, hnb⟩ : ∃ z, w.heap.size = z := ⟨_, rfl⟩
  have HNB := Lib.hid hnb
  rw [hnb] at r1 b1 ⊢
  clear hnb
  have hcv := Go.Lib.run_convert_string_bytes (P := Tryd.prog) W1 9 45 5 ⟨s.toArray⟩ Tryd.underlying9 Tryd.underlying45 Tryd.underlying5
  have hby := bytesWorld_at W1 s (by omega)
  have b2 := bytesWorld_below W1 5 ⟨s.toArray⟩
  have esz : (⟨s.toArray⟩ : ByteArray).size = s.length := rfl
  rw [esz] at hcv
  obtain ⟨W2, hW2⟩ : ∃ z, Lib.bytesWorld W1 5 ⟨s.toArray⟩ = z := ⟨_, rfl⟩
  rw [hW2] at hcv hby b2
  obtain ⟨cp, hcp⟩ : ∃ z, grownCap W1 s.length 0 5 = z := ⟨_, rfl⟩
  rw [hcp] at hcv hby
  obtain ⟨gB, hgB⟩ : ∃ z, W1.heap.size = z := ⟨_, rfl⟩
  have hbg : nb < gB := by rw [← hgB]; exact r1.lt
  have r2 : RowAt W2 nb 66 (v8c Sha.h0) := r1.below b2 r1.lt
  have HB2 := Lib.hid (b1.trans (b2.mono (Nat.le_of_lt r1.lt)))
  have HK2 := Lib.hid (k1.below b2)
  have hgs : gB ≤ W2.heap.size := by rw [← hgB]; exact b2.size
  rw [hgB] at hcv hby
  have HBY := Lib.hid hby
  have HR2 := Lib.hid (And.intro r2 (And.intro hbg hgs))
  clear r1 b1 k1 hby b2 esz hW2 hcp hgB hbg r2 hgs
  go_wp2_with (first | ((with_reducible refine wpList_stop (o := ⟨some 11, _, _, _, _, _⟩) ?_)))
  unfold Stop
  refine wpList_append_byte rfl (.tmp 9) (.tmp 10) 45 rfl Tryd.underlying45 (by kernel_rfl) gB _ s rfl (HBY.out.below ((Below.refl _ _).alloc (Nat.le_refl _) _)) W2.heap.size 1 128 rfl ?_ (by omega) (by have := HR2.out.2.2; simp; omega) (fun v4 w4 hown hg => ?_)
  · rw [(RowAt.new W2 5 _).cell 0]; rfl
  have h4 : SumAt w nb gB Sha.h0 w4 v4 (s ++ 128 :: List.replicate 0 0) := by
    have h := SumAt.push (w := w) (nb := nb) (gB := gB) (v8 := Sha.h0) ⟨HBY.out, HR2.out.1, HB2.out, HR2.out.2.1, HR2.out.2.2⟩ _ hown hg
    exact h
  have H4 := Lib.hid h4
  clear hown hg h4 HBY HR2 HB2 HK2 hcv
  go_wp2_with fail
  obtain ⟨n, hn⟩ : ∃ z, s.length = z := ⟨_, rfl⟩
  have hsl := hs
  rw [hn] at hs
  have HN := Lib.hid hn
  have hz : zn n < 64 := Nat.mod_lt _ (by decide)
  have hzm : (n + 1 + zn n) % 64 = 56 := by unfold zn; omega
  obtain ⟨z, hz0⟩ : ∃ z, zn n = z := ⟨_, rfl⟩
  rw [hz0] at hz hzm
  have HZ := Lib.hid hz0
  clear hn hz0
  go_loopw [4] (fun v wr => ∃ k : Nat, k ≤ z ∧ Hid (SumAt w nb gB Sha.h0 wr v (s ++ 128 :: List.replicate k 0))) (fun v _ => match v with | .slice _ m _ => n + 1 + z - m | _ => 0)
  case atStart => exact ⟨0, by omega, H4⟩
  case round =>
    obtain ⟨k, hk, HS⟩ := hrel
    have hlen : (s ++ 128 :: List.replicate k (0 : UInt8)).length = n + 1 + k := by simp [HN.out]; omega
    obtain ⟨g, cap, hv, hgb, hgl, hlc⟩ := HS.out.bytes.slice3
    rw [hlen] at hv hlc
    have HLEN := Lib.hid hlen
    obtain ⟨L, hL⟩ : ∃ L, n + 1 + k = L := ⟨_, rfl⟩
    rw [hL] at hv hlc
    subst hv
    clear hlen
    by_cases hk2 : k < z
    · have e1 : ((L : Int) % 64 == 56) = false := by rw [beq_eq_false_iff_ne]; omega
      have HB := Lib.hid hgb
      have HL := Lib.hid hL
      clear hL hgb hgl hlc
      go_wp2_with (first | ((with_reducible refine wpList_stop (o := ⟨some 18, _, _, _, _, _⟩) ?_)))
      unfold Stop
      refine wpList_append_byte rfl (.tmp 16) (.tmp 17) 45 rfl Tryd.underlying45 (by kernel_rfl) gB _ (s ++ 128 :: List.replicate k 0) rfl (HS.out.bytes.below ((Below.refl _ _).alloc (Nat.le_refl _) _)) wr.heap.size 1 0 rfl ?_ (by rw [HLEN.out]; omega) (by have := HS.out.size; simp; omega) (fun v5 w5 hown hg => ?_)
      · rw [(RowAt.new wr 5 _).cell 0]; rfl
      have h5 : SumAt w nb gB Sha.h0 w5 v5 (s ++ 128 :: List.replicate (k + 1) 0) := by
        have h := SumAt.push HS.out _ hown hg
        rw [List.replicate_succ', ← List.cons_append, ← List.append_assoc]
        exact h
      have H5 := Lib.hid h5
      obtain ⟨g5, cap5, hv5, -, -, -⟩ := h5.bytes.slice3
      rw [show (s ++ 128 :: List.replicate (k + 1) (0 : UInt8)).length = L + 1 by have := HL.out; have := HN.out; simp; omega] at hv5
      subst hv5
      clear hown hg h5 HS
      go_wp2_with fail
      go_roundw
      case rel => exact ⟨k + 1, by omega, H5⟩
      case measure => have := HL.out; simp; omega
    · have hkz : k = z := by omega
      have e1 : (L : Int) % 64 = 56 := by omega
      have H6 : Hid (SumAt w nb gB Sha.h0 wr (.slice (some ⟨g, 0, none⟩) L cap) ((s ++ 128 :: List.replicate z 0) ++ (be8 (8 * n)).take 0)) := Lib.hid (by rw [List.take_zero, List.append_nil, ← hkz]; exact HS.out)
      have HPL := Lib.hid (show (s ++ 128 :: List.replicate z (0 : UInt8)).length = n + 1 + z by rw [← hkz]; exact HLEN.out)
      clear hkz hgb hgl hlc hL HLEN HS hk2 hk
      obtain ⟨pre, hpre⟩ : ∃ p, s ++ 128 :: List.replicate z (0 : UInt8) = p := ⟨_, rfl⟩
      rw [hpre] at H6 HPL
      have HPRE := Lib.hid hpre
      clear hpre
      go_wp2_with fail
      clear e1
      go_loopw [4, 5] (fun v iv wr => ∃ j : Nat, j ≤ 8 ∧ iv = .int .i64 (7 - (j : Int)) ∧ Hid (SumAt w nb gB Sha.h0 wr v (pre ++ (be8 (8 * n)).take j))) (fun _ i _ => (intOf i + 1).toNat)
      case atStart => exact ⟨0, by omega, by go_num, H6⟩
      case round =>
        obtain ⟨j, hj, rfl, HS⟩ := hrel
        obtain ⟨g6, cap6, hv6, hgb, hgl, hlc⟩ := HS.out.bytes.slice3
        have hlen : (pre ++ (be8 (8 * n)).take j).length = n + 1 + z + j := by rw [List.length_append, HPL.out, List.length_take]; simp [be8]; omega
        rw [hlen] at hv6
        have HLEN := Lib.hid hlen
        obtain ⟨L6, hL6⟩ : ∃ L, n + 1 + z + j = L := ⟨_, rfl⟩
        rw [hL6] at hv6
        subst hv6
        have HL6 := Lib.hid hL6
        clear hgb hgl hlc hlen hL6
        by_cases hj2 : j < 8
        · obtain ⟨q, hq⟩ : ∃ q, 7 - j = q := ⟨_, rfl⟩
          have hqi : (7 - (j : Int)) = (q : Int) := by omega
          rw [hqi]
          have hq7 : q ≤ 7 := by omega
          have hat := be8_at (8 * n) j hj2
          rw [show 56 - 8 * j = 8 * q by omega] at hat
          have HAT := Lib.hid hat
          have HQ := Lib.hid (And.intro hq hqi)
          clear hq hqi hat
          go_wp2_with (first | ((with_reducible refine wpList_stop (o := ⟨some 32, _, _, _, _, _⟩) ?_)))
          unfold Stop
          obtain ⟨b, hb⟩ : ∃ b, UInt8.ofNat (8 * n / 2 ^ (8 * q) % 256) = b := ⟨_, rfl⟩
          have hbn : (b.toNat : Int) = 8 * (s.length : Int) / 2 ^ (8 * q) % 256 := by
            rw [← hb, UInt8.toNat_ofNat', Nat.mod_eq_of_lt (Nat.lt_of_lt_of_le (Nat.mod_lt _ (by decide)) (by decide)), ← HN.out]
            simp
          rw [← hbn]
          refine wpList_append_byte rfl (.tmp 23) (.tmp 31) 45 rfl Tryd.underlying45 (by kernel_rfl) gB _ (pre ++ (be8 (8 * n)).take j) rfl (HS.out.bytes.below ((Below.refl _ _).alloc (Nat.le_refl _) _)) wr.heap.size 1 b rfl ?_ (by rw [HLEN.out]; omega) (by have := HS.out.size; simp; omega) (fun v5 w5 hown hg => ?_)
          · rw [(RowAt.new wr 5 _).cell 0]; rfl
          have h5 : SumAt w nb gB Sha.h0 w5 v5 (pre ++ (be8 (8 * n)).take (j + 1)) := by
            have h := SumAt.push HS.out _ hown hg
            rw [List.take_add_one, HAT.out, hb, ← List.append_assoc]
            exact h
          have H5 := Lib.hid h5
          obtain ⟨g5, cap5, hv5, -, -, -⟩ := h5.bytes.slice3
          rw [show (pre ++ (be8 (8 * n)).take (j + 1)).length = L6 + 1 by have := HL6.out; have := HPL.out; simp [be8]; omega] at hv5
          subst hv5
          clear hown hg h5 HS hb hbn
          go_wp2_with fail
          go_roundw
          case rel => exact ⟨j + 1, by omega, by have := HQ.out.2; congr 1; omega, H5⟩
          case measure => simp [intOf]
        · have hj8 : j = 8 := by omega
          subst hj8
          have h7 : SumAt w nb gB Sha.h0 wr (.slice (some ⟨g6, 0, none⟩) L6 cap6) (padB s) := by
            have h := HS.out
            rw [List.take_of_length_le (by simp [be8]), ← HPRE.out, ← HN.out] at h
            unfold padB
            rw [HN.out, HZ.out, ← HN.out]
            exact h
          have H7 := Lib.hid h7
          obtain ⟨m, hm1, hm2, hm3⟩ := padB_len s
          obtain ⟨_, _, hv, -, -, hlc⟩ := h7.bytes.slice3
          have hL : L6 = 64 * m := by simp only [Value.slice.injEq] at hv; omega
          have hcp : L6 ≤ cap6 := by simp only [Value.slice.injEq] at hv; omega
          have HM := Lib.hid (And.intro hm1 (And.intro hm2 (And.intro hL hcp)))
          have hLb : L6 ≤ 1000000 := by omega
          obtain ⟨W7, hW7⟩ : ∃ z, wr = z := ⟨_, rfl⟩
          rw [hW7] at H7 ⊢
          rw [show (7 - ((8 : Nat) : Int)) = -1 from rfl]
          clear h7 hm1 hm2 hm3 hv hlc hL hcp hW7 HS HLEN HL6 H6
          go_wp2_with fail
          refine (chunk_any g6 L6 cap6 64 W7 (by omega)).mono ?_
          rintro e w' ⟨rfl, rfl⟩
          go_wp2_with fail
          have hL6 := HM.out.2.2.1
          have hcc := HM.out.2.2.2
          subst hL6
          obtain ⟨W8, hW8⟩ : ∃ z, (W7.alloc (.cells #[.slice (some ⟨g6, 0, none⟩) (64 * m) cap6] 45)).alloc (.cells #[.int .i64 64] 3) = z := ⟨_, rfl⟩
          have b78 : Below W7.heap.size W7 W8 := by rw [← hW8]; exact ((Below.refl _ _).alloc (Nat.le_refl _) _).alloc (by simp) _
          have kB1 : RowAt W8 W7.heap.size 45 #[.slice (some ⟨g6, 0, none⟩) (64 * m) cap6] := by rw [← hW8]; exact (RowAt.new W7 _ _).alloc _
          have kB2 : RowAt W8 (W7.heap.size + 1) 3 #[.int .i64 64] := by rw [← hW8]; exact row_new1 W7 _ _ _
          have hs8 : W8.heap.size = W7.heap.size + 2 := by rw [← hW8]; simp
          rw [hW8]
          clear hW8
          have hnb7 : nb < W7.heap.size := H7.out.row.lt
          have hg67 : gB ≤ g6 ∧ g6 < W7.heap.size := by
            obtain ⟨_, _, hv, h1, h2, _⟩ := H7.out.bytes.slice3
            simp only [Value.slice.injEq, Option.some.injEq, Addr.mk.injEq] at hv
            obtain ⟨⟨rfl, _⟩, _⟩ := hv
            exact ⟨h1, h2⟩
          have r8 : RowAt W8 nb 66 (v8c Sha.h0) := H7.out.row.below b78 hnb7
          have hby8 := H7.out.bytes.below b78
          have hb8 := H7.out.below.trans (b78.mono (Nat.le_of_lt hnb7))
          obtain ⟨p, hp⟩ : ∃ p, (padB s).map UInt8.toNat = p := ⟨_, rfl⟩
          have hpl : p.length = 64 * m := by rw [← hp, List.length_map]; exact HM.out.1
          have hpb : ∀ x ∈ p, x < 256 := by rw [← hp]; intro x hx; obtain ⟨b, _, rfl⟩ := List.mem_map.1 hx; exact b.toNat_lt
          have hpc : ∀ j, j < 64 * m → W8.cell? ⟨g6, j, none⟩ = some (.int .u8 (p.getD j 0 : Nat)) := by
            intro j hj
            have h1 : j < (padB s).length := by rw [HM.out.1]; exact hj
            have h2 := hby8.cell j _ (List.getElem?_eq_getElem h1)
            rw [h2, ← hp, List.getD_eq_getElem?_getD, List.getElem?_map, List.getElem?_eq_getElem h1]
            rfl
          have HL : Hid (∀ W, W8.grownBy W (some nb) → (∀ b, b < W8.heap.size → b ≠ nb → W.heap[b]? = W8.heap[b]?) ∧ Below nb w W) := Lib.hid (fun W hg =>
            ⟨fun b hb hne => hg.block b hb (fun e => hne (by injection e)), hb8.grown hg (by omega) (fun r e => by cases e; exact Nat.le_refl _)⟩)
          have HPC := Lib.hid hpc
          have HPL := Lib.hid (And.intro hpl hpb)
          have HP := Lib.hid hp
          have HKB := Lib.hid (And.intro kB1 kB2)
          have HR8 := Lib.hid r8
          have HSZ := Lib.hid (And.intro hs8 (And.intro hnb7 (And.intro hg67.1 (And.intro hg67.2 H7.out.lt))))
          clear b78 kB1 kB2 r8 hby8 hb8 hpl hpb hpc hp
          refine wpIn_wide.1 (range_chunk (n := 9) (m := m) (c := cap6) (gb := g6) (by omega) hLb hcc rfl rfl
            (fun k W => RowAt W nb 66 (v8c (stV p k)) ∧ W8.grownBy W (some nb)) ?calm ?mem ?start
            (fun k => { tmps := #[.string ⟨s.toArray⟩, undef, .string ⟨#[]⟩, .pointer (some ⟨nb, 0, none⟩), .slice (some ⟨g6, 0, none⟩) (64 * m) cap6, .int .i64 (-1), .slice (some ⟨g6, 64 * k, none⟩) 64 64, .agg #[.int .u32 1779033703, .int .u32 3144134277, .int .u32 1013904242, .int .u32 2773480762, .int .u32 1359893119, .int .u32 2600822924, .int .u32 528734635, .int .u32 1541459225], .string ⟨s.toArray⟩, .slice (some ⟨gB, 0, none⟩) s.length cp, .slice (some ⟨W2.heap.size, 0, none⟩) 1 1, v4, .slice (some ⟨g, 0, none⟩) L cap, .int .i64 (L : Int), .int .i64 ((L : Int) % 64), .bool false, u16, u17, u18, .int .i64 (-1), .bool false, u21, u22, u23, u24, u25, u26, u27, u28, u29, u30, u31, u32, .slice (some ⟨g6, 0, none⟩) (64 * m) cap6, .func (.func 60) #[] #[.pointer (some ⟨W7.heap.size, 0, none⟩), .pointer (some ⟨W7.heap.size + 1, 0, none⟩)], .slice (some ⟨g6, 64 * k, none⟩) 64 64, undef, undef, undef, undef], defers := [] }) ?assign ?body ?done)
          case calm =>
            rintro k W W' row ⟨hr, hg⟩ hg2 hrow
            have hsz := HSZ.out
            refine ⟨?_, hg.andThen hg2 (fun q e => .inl (hrow q e).1)⟩
            exact (hg2.block nb hr.lt (fun e => by have := (hrow _ e.symm).1; omega)).trans hr
          case mem =>
            rintro k W ⟨hr, hg⟩
            have hsz := HSZ.out
            obtain ⟨hl, -⟩ := HL.out W hg
            have h1 : RowAt W W7.heap.size 45 _ := (hl W7.heap.size (by omega) (by omega)).trans HKB.out.1
            have h2 : RowAt W (W7.heap.size + 1) 3 _ := (hl (W7.heap.size + 1) (by omega) (by omega)).trans HKB.out.2
            exact ⟨h1.cell 0, h2.cell 0⟩
          case start => exact ⟨HR8.out, World.grownBy.refl _ _⟩
          case assign =>
            intro l k W K hK
            gi_wp2
            exact hK
          case body =>
            rintro l k W hk ⟨hr, hg⟩
            have hsz := HSZ.out
            obtain ⟨hl, hbw⟩ := HL.out W hg
            have C := add_any nb g6 (64 * k) 64 (stV p k) ((p.drop (64 * k)).take 64) W (stV_ok p k) hr (HK.out.below (by rw [HNB.out]; exact hbw)) (by rw [List.length_take, List.length_drop, HPL.out.1]; omega) (fun x hx => HPL.out.2 x (List.mem_of_mem_drop (List.mem_of_mem_take hx))) (fun j hj => by
              have h1 := HPC.out (64 * k + j) (by omega)
              have h2 : W.cell? ⟨g6, 64 * k + j, none⟩ = W8.cell? ⟨g6, 64 * k + j, none⟩ := by
                unfold World.cell?
                rw [hl g6 (by omega) (by omega)]
              rw [h2, h1, List.getD_eq_getElem?_getD, List.getD_eq_getElem?_getD, List.getElem?_take, if_pos hj, List.getElem?_drop]) (by have := hg.size; omega)
            have CC := Lib.hid C
            have HG := Lib.hid hg
            have HRR := Lib.hid hr
            clear C hg hr hl hbw
            gi_wp2
            refine ⟨trivial, (CallsIn.inRound l (callsIn_wide.2 CC.out)).mono ?_⟩
            rintro e W9 ⟨rfl, hr9, hg9⟩
            have HE := Lib.hid (And.intro hr9 hg9)
            clear hr9 hg9
            gi_wp2_with fail
            refine ⟨KeepsOthers.of_grownBy HE.out.2 (fun r o e ho => by cases e; rw [show W.heap[nb]? = _ from HRR.out] at ho; cases ho; rfl), HE.out.1, HG.out.andThen HE.out.2 (fun q e => .inr e)⟩
          case done =>
            rintro D W hD ⟨hr, hg⟩ hKD
            have hsz := HSZ.out
            obtain ⟨-, hbw⟩ := HL.out W hg
            have HRW := Lib.hid (show W.heap[nb]? = some (.cells (v8c (stV p m)) 66 (0, 0)) from hr)
            have HBW := Lib.hid hbw
            have HKD := Lib.hid (And.intro hKD (And.intro hD hg.size))
            have DG := Lib.hid (digest_any (stV p m) W (stV_ok p m))
            have hres : digB (stV p m) = R := by rw [← HR.out, ← HP.out]; unfold shaB; rw [HM.out.2.1]
            rw [hres] at DG
            clear hr hg hKD hD hbw hres
            go_wp2_with (first | ((with_reducible refine wpList_load_row (o := ⟨some 38, _, _, _, _, _⟩) ?_ 66 (.tmp 3) ?_ nb ?_ 66 (v8c (stV p m)) (0, 0) _ HRW.out Tryd.underlying66 ?_ ?_ ?_); rfl; rfl; rfl; rfl; kernel_rfl))
            refine DG.out.mono ?_
            rintro e W9 ⟨rfl, hx⟩
            have hD9 : W9.heap[D]? = some (.deferred (some [])) := (hx.block D (Array.getElem?_eq_some_iff.1 HKD.out.1).1).trans HKD.out.1
            have HD9 := Lib.hid hD9
            have HB9 := Lib.hid (HBW.out.trans (hx.mono (by have := HKD.out.2; omega)))
            have HS9 := Lib.hid (show D < W9.heap.size from (Array.getElem?_eq_some_iff.1 hD9).1)
            clear hx hD9
            go_wp2_with fail
            refine ⟨by simp, .inl ⟨_, _, rfl, run_takeDeferred HD9.out, ?_⟩⟩
            refine ⟨.string ⟨R.toArray⟩, by simp [results, Tryd.results27, go_sem], rfl, ?_⟩
            rw [HNB.out]
            exact HB9.out.grown (grownBy_putObj' W9 D _) (by have := HS9.out; have := HKD.out.2; omega) (fun r e => by cases e; have := HKD.out.2; omega)
end Go.Proofs.YtgmdjbhclihflaaDoor
