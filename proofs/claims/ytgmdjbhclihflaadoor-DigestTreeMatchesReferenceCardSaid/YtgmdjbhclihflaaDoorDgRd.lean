/- The reference's Sum, Leaf, Node and Chain. -/
import Derived.Test.YtgmdjbhclihflaaDoorDgRc
import Derived.Laws.BytesString
namespace Go.Proofs.YtgmdjbhclihflaaDoor
open Go Go.RowKit Go.Lib Go.Shelf
attribute [local go_sem] Oper.semAt_some

section
variable {α : Type} {T : TypeId} {enc : α → Value} {w w' : World} {base : Nat} {v : Value} {xs : List α}
theorem step_append_list {P : Program} {ops : Array Oper} {o : Oper} {a : Act} {K : Act → World → Prop} {Q : Exit → Act → World → Prop} {E : Prop} (hgd : o.guard = none) (s x : Operand) (TS : TypeId)
    (ho : o.op = .call { callee := .builtin .append, args := #[s, x], argTypes := #[TS, TS] }) {z : Value} {bytes : Nat} (hu : P.underlying TS = some (.slice T)) (hinfo : (P.info? T).map (fun i => (i.zero, i.size, i.bytes)) = some (some z, 1, bytes)) (hzs : z.cells.size = 1) (hby : bytes ≤ 64)
    (hs : a.eval s = v) (hown : OwnL T enc w base v xs) (b n c : Nat) (R : List α) (hx : a.eval x = .slice (some ⟨b, 0, none⟩) n c) (hn : R.length = n) (h1 : ∀ y ∈ R, (enc y).oneCell' = true) (hnew : ∀ (j : Nat) y, R[j]? = some y → w.cell? ⟨b, j, none⟩ = some (enc y)) (hlen : xs.length + n ≤ 1000000) (hbase : base ≤ w.heap.size)
    (h : ∀ v' w', OwnL T enc w' base v' (xs ++ R) → w.grownBy w' v.ownBlock → K (a.put o.dst v') w') : if Region.wanted o (yielded ops a.tmps) = true then Oper.wp P o a w K Q else E := by
  have hw : Region.wanted o (yielded ops a.tmps) = true := by simp [Region.wanted, hgd]
  rw [if_pos hw]
  obtain ⟨i0, hi, hz0, hz1, hz2⟩ := info_parts hinfo
  subst hn
  have hmul : (xs.length + R.length) * bytes ≤ (xs.length + R.length) * 64 := Nat.mul_le_mul_left _ hby
  obtain ⟨v', w', hr, h2, h3, _⟩ := run_append_own (P := P) w base TS o.type T i0 z 1 bytes hu hi hz0 hz1 hz2 hzs (by decide) v xs.length (xs.map enc) hown ⟨b, 0, none⟩ R.length c (R.map enc) (by rw [List.length_map, Nat.mul_one]) (fun j u hj => by
    rw [List.getElem?_map] at hj
    cases hrj : R[j]? with
    | none => rw [hrj] at hj; simp at hj
    | some y =>
      rw [hrj] at hj
      simp at hj
      subst hj
      rw [Go.WideShapes.add_plain, Nat.zero_add]
      exact hnew j y hrj) (fun u hu => by
      obtain ⟨y, hy, rfl⟩ := List.mem_map.1 hu
      exact h1 y hy) (by unfold maxLen; omega) (by omega) hbase
  unfold Oper.wp execOp
  simp only [ho, resolve, invoke, builtin, Sem.run_bind, Sem.run_pure, Result.andThen_ok, List.map_toArray, List.map_cons, List.map_nil, hs, hx, hr]
  refine h v' w' ?_ h3
  unfold OwnL
  rw [List.length_append, List.map_append]
  exact h2
end
theorem bytes_of (x q : Nat) : ((UInt8.ofNat (x / 2 ^ q % 256)).toNat : Int) = (x : Int) / 2 ^ q % 256 := by
  rw [UInt8.toNat_ofNat', Nat.mod_eq_of_lt (Nat.lt_of_lt_of_le (Nat.mod_lt _ (by decide)) (by decide))]
  simp
theorem digB_next (v : Sha.V8) (i : Nat) (hi : i < 8) : (digB v).take (4 * (i + 1)) = (digB v).take (4 * i) ++ [UInt8.ofNat ((v8n v).getD i 0 / 2 ^ 24 % 256), UInt8.ofNat ((v8n v).getD i 0 / 2 ^ 16 % 256), UInt8.ofNat ((v8n v).getD i 0 / 2 ^ 8 % 256), UInt8.ofNat ((v8n v).getD i 0 / 2 ^ 0 % 256)] := by
  match i, hi with
  | 0, _ | 1, _ | 2, _ | 3, _ | 4, _ | 5, _ | 6, _ | 7, _ => rfl
theorem digB_len (v : Sha.V8) : (digB v).length = 32 := by unfold digB; rw [List.length_map, digN_len]
set_option maxRecDepth 100000 in
set_option maxHeartbeats 4000000 in
theorem rsum_any (s : List UInt8) (w : World) (hs : s.length ≤ 100000) :
    Calls Tryd.prog 30 #[.string ⟨s.toArray⟩] w fun e w' => e = .returned (.string ⟨(shaB s).toArray⟩) ∧ Below w.heap.size w w' := by
  obtain ⟨m, hm1, hm2, hm3⟩ := padB_len s
  obtain ⟨R, hR⟩ : ∃ z, shaB s = z := ⟨_, rfl⟩
  rw [hR]
  have HR : Hid (digB (stV ((padB s).map UInt8.toNat) m) = R) := Lib.hid (by rw [← hR]; unfold shaB; rw [hm2])
  have EX := Lib.hid (fun W => extended_any s W hs)
  obtain ⟨bs, hbs⟩ : ∃ z, padB s = z := ⟨_, rfl⟩
  rw [hbs] at HR EX hm1 hm3
  have hm : m ≤ 2000 := by omega
  have HM := Lib.hid hm1
  clear hR hbs hm1 hm2 hm3
  obtain ⟨B, hB⟩ : ∃ B, w.heap.size = B := ⟨_, rfl⟩
  have HB0 : Hid (Below B w w) := Lib.hid (by rw [← hB]; exact Below.refl _ _)
  have HBE := Lib.hid hB
  have HSZ : Hid (∀ W, Below B w W → B ≤ W.heap.size) := Lib.hid (fun W hb => by rw [← HBE.out]; exact hb.size)
  rw [hB]
  go_enter Tryd.func30, Tryd.ntmps30
  go_wp2_with (first | ((with_reducible refine wpList_stop (o := ⟨some 10, _, _, _, _, _⟩) ?_)))
  unfold Stop
  have how := own_words w (v8n Sha.h0) 8 rfl (by omega)
  have b1 : Below w.heap.size w (w.alloc (.cells (u32s (v8n Sha.h0)).toArray 64)) := (Below.refl _ _).alloc (Nat.le_refl _) _
  rw [hB] at how b1
  generalize hW1 : w.alloc (.cells _ 64) = W1
  have hW1' : w.alloc (.cells (u32s (v8n Sha.h0)).toArray 64) = W1 := by rw [← hW1]; rfl
  rw [hW1'] at how b1
  have H1 := Lib.hid (And.intro how b1)
  clear hW1 hW1' how b1 hB
  go_wp2_with fail
  refine (EX.out W1).mono ?_
  rintro e W2 ⟨v4, rfl, hx2, hb2⟩
  obtain ⟨A4, c4, hv4, hc4⟩ := hx2.slice
  rw [HM.out] at hv4 hc4
  subst hv4
  have H2 := Lib.hid (And.intro (H1.out.1.below hb2) (And.intro hx2 (H1.out.2.trans (hb2.mono (HSZ.out _ H1.out.2)))))
  clear hx2 hb2 H1
  obtain ⟨L, hL⟩ : ∃ L, 64 * m = L := ⟨_, rfl⟩
  rw [hL] at hc4 H2 ⊢
  have HL := Lib.hid hL
  have HBW : Hid (∀ W, Below W2.heap.size W2 W → Below B w W) := Lib.hid (fun W hb => H2.out.2.2.trans (hb.mono (HSZ.out _ H2.out.2.2)))
  clear hL
  go_wp2_with fail
  go_loopw [3, 5] (fun v3 iv wr => ∃ k i : Nat, k ≤ m ∧ Hid (i = 64 * k) ∧ i ≤ L ∧ iv = .int .i64 i ∧ Hid (OwnL 64 encW wr B v3 (v8n (stV (bs.map UInt8.toNat) k)) ∧ Below W2.heap.size W2 wr)) (fun _ iv _ => L - (RowKit.intOf iv).toNat)
  case atStart => exact ⟨0, 0, by omega, Lib.hid rfl, by omega, rfl, Lib.hid ⟨H2.out.1, Below.refl _ _⟩⟩
  case round =>
    obtain ⟨k, i, hk, HI, hiL, rfl, HS⟩ := hrel
    obtain ⟨y3, hy3⟩ : ∃ z, z = u3 := ⟨_, rfl⟩
    subst hy3
    by_cases hi2 : i < L
    · have hk2 : k < m := by have h1 := HI.out; have h2 := HL.out; omega
      have hi2d : decide (i < L) = true := by simp; omega
      have hok := stV_ok (bs.map UInt8.toNat) k
      obtain ⟨A3, c3, hv3, hc3⟩ := HS.out.1.slice
      rw [show (v8n (stV (bs.map UInt8.toNat) k)).length = 8 from rfl] at hv3 hc3
      subst hv3
      obtain ⟨g3, hA3, -, hg3l, -, -⟩ := HS.out.1.get (i := 0) (x := (stV (bs.map UInt8.toNat) k).a) rfl
      subst hA3
      have hwords : ∀ j, j < 8 → wr.cell? ⟨g3, 0 + j, none⟩ = some (.int .u32 ((v8n (stV (bs.map UInt8.toNat) k)).getD j 0 : Nat)) := fun j hj => by
        have hget : (v8n (stV (bs.map UInt8.toNat) k))[j]? = some ((v8n (stV (bs.map UInt8.toNat) k)).getD j 0) := by rw [List.getD_eq_getElem?_getD, List.getElem?_eq_getElem (by show j < 8; exact hj)]; rfl
        obtain ⟨g', hg', -, -, hc, -⟩ := HS.out.1.get hget
        obtain rfl : g3 = g' := by simpa using hg'
        rw [Nat.zero_add]; exact hc
      have hbl : bs.length = L := by rw [HM.out]; exact HL.out
      have hb0 : bs[0]? = some (bs[0]'(by omega)) := List.getElem?_eq_getElem (by omega)
      obtain ⟨g4, hA4, -, hg4l, -, -⟩ := H2.out.2.1.get hb0
      subst hA4
      have hbytes : ∀ j, j < 64 → wr.cell? ⟨g4, i + j, none⟩ = some (.int .u8 ((((bs.map UInt8.toNat).drop (64 * k)).take 64).getD j 0 : Nat)) := fun j hj => by
        have hlt : i + j < bs.length := by have h1 := HI.out; have h2 := HL.out; omega
        obtain ⟨g', hg', -, hl, hc, -⟩ := H2.out.2.1.get (List.getElem?_eq_getElem hlt)
        obtain rfl : g4 = g' := by simpa using hg'
        have e : (((bs.map UInt8.toNat).drop (64 * k)).take 64).getD j 0 = (bs[i + j]'hlt).toNat := by
          rw [List.getD_eq_getElem?_getD, List.getElem?_take, if_pos hj, List.getElem?_drop, ← HI.out, List.getElem?_map, List.getElem?_eq_getElem hlt]; rfl
        rw [e]
        exact (HS.out.2.cell (p := ⟨g4, i + j, none⟩) hl).trans hc
      have hl64 : (((bs.map UInt8.toNat).drop (64 * k)).take 64).length = 64 := by
        rw [List.length_take, List.length_drop, List.length_map, HM.out]; omega
      have hlt256 : ∀ x ∈ ((bs.map UInt8.toNat).drop (64 * k)).take 64, x < 256 := fun x hx => by
        obtain ⟨b, _, rfl⟩ := List.mem_map.1 (List.mem_of_mem_drop (List.mem_of_mem_take hx))
        exact b.toNat_lt
      have BK := Lib.hid (block_any g3 0 c3 g4 i (c4 - i) (stV (bs.map UInt8.toNat) k) _ wr hok hwords hg3l hl64 hlt256 hbytes (Nat.lt_of_lt_of_le hg4l HS.out.2.size))
      rw [show Sha.block (stV (bs.map UInt8.toNat) k) (((bs.map UInt8.toNat).drop (64 * k)).take 64) = stV (bs.map UInt8.toNat) (k + 1) from rfl] at BK
      obtain ⟨i2, hi64⟩ : ∃ z, i + 64 = z := ⟨_, rfl⟩
      have hi2L : i2 ≤ L := by have h1 := HI.out; have h2 := HL.out; omega
      have hLb : L ≤ 128000 := by have h2 := HL.out; omega
      have e1 : IntKind.i64.wrap ((i : Int) + 64) = (i2 : Int) := by rw [IntWalk.i64_in _ (by omega)]; omega
      have s1 : i ≤ i2 := by omega
      have s2 : i2 ≤ c4 := by omega
      have s3 : ¬ c4 = i := by omega
      have s4 : i2 - i = 64 := by omega
      have s5 : i ≤ c4 := by omega
      have HI2 := Lib.hid (show i2 = 64 * (k + 1) by have h1 := HI.out; omega)
      have hi2x : i < i2 := by omega
      clear hok hwords hbl hb0 hbytes hl64 hlt256 hi64 hg3l hg4l hc3
      go_wp2_with fail
      refine BK.out.mono ?_
      rintro e Y ⟨v', rfl, hoy, hby⟩
      have HE : Hid (OwnL 64 encW Y B v' (v8n (stV (bs.map UInt8.toNat) (k + 1))) ∧ Below W2.heap.size W2 Y) := Lib.hid ⟨rebase hoy (HSZ.out _ (HBW.out _ HS.out.2)), HS.out.2.trans (hby.mono HS.out.2.size)⟩
      clear hoy hby
      go_wp2_with fail
      go_roundw
      case rel => exact ⟨k + 1, i2, by omega, HI2, hi2L, by go_num, HE⟩
      case measure => simp [RowKit.intOf]; omega
    · have hi2d : decide (i < L) = false := by simp; omega
      have hkm : k = m := by have h1 := HI.out; have h2 := HL.out; omega
      obtain ⟨v8, hv8⟩ : ∃ z, stV (bs.map UInt8.toNat) m = z := ⟨_, rfl⟩
      have HV8 : Hid (V8ok v8) := Lib.hid (by rw [← hv8]; exact stV_ok _ _)
      have HS5 : Hid (OwnL 64 encW wr B y3 (v8n v8) ∧ Below W2.heap.size W2 wr) := Lib.hid (by have h := HS.out; rwa [hkm, hv8] at h)
      rw [hv8] at HR
      obtain ⟨W5, hW5⟩ : ∃ z, wr = z := ⟨_, rfl⟩
      rw [hW5] at HS5 ⊢
      clear hv8 HS hW5 hkm
      obtain ⟨A3, c3, hv3, hc3⟩ := HS5.out.1.slice
      rw [show (v8n v8).length = 8 from rfl] at hv3 hc3
      subst hv3
      obtain ⟨g3, hA3, -, hg3l, -, -⟩ := HS5.out.1.get (i := 0) (x := v8.a) rfl
      subst hA3
      have HWC : Hid (∀ W, Below W5.heap.size W5 W → ∀ j, j < 8 → W.cell? ⟨g3, j, none⟩ = some (.int .u32 ((v8n v8).getD j 0 : Nat))) := Lib.hid (fun W hb j hj => by
        have hget : (v8n v8)[j]? = some ((v8n v8).getD j 0) := by rw [List.getD_eq_getElem?_getD, List.getElem?_eq_getElem (by show j < 8; exact hj)]; rfl
        obtain ⟨g', hg', -, hl, hc, -⟩ := HS5.out.1.get hget
        obtain rfl : g3 = g' := by simpa using hg'
        exact (hb.cell (p := ⟨g3, j, none⟩) hl).trans hc)
      clear hg3l hc3
      go_wp2_with fail
      go_loopw [6, 7] (fun v6 iv wr => ∃ j : Nat, j ≤ 8 ∧ iv = .int .i64 j ∧ Hid (OwnL 5 encB wr W5.heap.size v6 ((digB v8).take (4 * j)) ∧ Below W5.heap.size W5 wr)) (fun _ iv _ => 8 - (RowKit.intOf iv).toNat)
      case atStart => exact ⟨0, by omega, rfl, Lib.hid ⟨OwnL.nil, Below.refl _ _⟩⟩
      case round =>
        obtain ⟨j, hj, rfl, HS⟩ := hrel
        obtain ⟨y6, hy6⟩ : ∃ z, z = u6 := ⟨_, rfl⟩
        subst hy6
        by_cases hj2 : j < 8
        · have c0 := HWC.out wr HS.out.2 j hj2
          have lx := v8n_lt HV8.out j
          have hnx := digB_next v8 j hj2
          have HXC : Hid (∀ W, Below W5.heap.size W5 W → W.cell? ⟨g3, j, none⟩ = some (.int .u32 ((v8n v8).getD j 0 : Nat))) := Lib.hid (fun W hb => HWC.out W hb j hj2)
          obtain ⟨x, hx⟩ : ∃ z, (v8n v8).getD j 0 = z := ⟨_, rfl⟩
          rw [hx] at c0 lx hnx HXC
          have t24 := bytes_of x 24
          have t16 := bytes_of x 16
          have t8 := bytes_of x 8
          have t0 := bytes_of x 0
          obtain ⟨b24, hb24⟩ : ∃ z, UInt8.ofNat (x / 2 ^ 24 % 256) = z := ⟨_, rfl⟩
          obtain ⟨b16, hb16⟩ : ∃ z, UInt8.ofNat (x / 2 ^ 16 % 256) = z := ⟨_, rfl⟩
          obtain ⟨b8, hb8⟩ : ∃ z, UInt8.ofNat (x / 2 ^ 8 % 256) = z := ⟨_, rfl⟩
          obtain ⟨b0, hb0⟩ : ∃ z, UInt8.ofNat (x / 2 ^ 0 % 256) = z := ⟨_, rfl⟩
          rw [hb24] at t24 hnx
          rw [hb16] at t16 hnx
          rw [hb8] at t8 hnx
          rw [hb0] at t0 hnx
          have z24 : IntKind.u8.wrap ((x : Int) / 16777216) = (b24.toNat : Int) := by rw [IntKind.wrap_u8, t24]; rfl
          have z16 : IntKind.u8.wrap ((x : Int) / 65536) = (b16.toNat : Int) := by rw [IntKind.wrap_u8, t16]; rfl
          have z8 : IntKind.u8.wrap ((x : Int) / 256) = (b8.toNat : Int) := by rw [IntKind.wrap_u8, t8]; rfl
          have z0 : IntKind.u8.wrap (x : Int) = (b0.toNat : Int) := by rw [IntKind.wrap_u8, t0]; simp
          have HNX := Lib.hid hnx.symm
          have jn : (j : Int) < 8 := by omega
          clear hx hnx hb24 hb16 hb8 hb0 t24 t16 t8 t0
          go_wp2_with fail
          go_region_held3 (fun W => W.cell? ⟨g3, j, none⟩ = some (.int .u32 (x : Int))) (first | assumption | go_keep) (first | ((refine step_append_list rfl (.tmp 28) (.tmp 52) 45 rfl Tryd.underlying45 uint8_info rfl (by decide) rfl (HS.out.1.below ((((Below.refl wr.heap.size wr).drew).alloc (Nat.le_refl _) (.cells #[.int .u8 (b24.toNat : Int), .int .u8 (b16.toNat : Int), .int .u8 (b8.toNat : Int), .int .u8 (b0.toNat : Int)] 5)))) wr.heap.size 4 4 [b24, b16, b8, b0] rfl rfl (fun y hy => rfl) (fun q y hq => by rw [((RowAt.new wr.drew 5 #[.int .u8 (b24.toNat : Int), .int .u8 (b16.toNat : Int), .int .u8 (b8.toNat : Int), .int .u8 (b0.toNat : Int)])).cell q]; match q, hq with | 0, hq => simp at hq; subst hq; rfl | 1, hq => simp at hq; subst hq; rfl | 2, hq => simp at hq; subst hq; rfl | 3, hq => simp at hq; subst hq; rfl | q + 4, hq => simp at hq) (by rw [List.length_take, digB_len]; omega) (by have := HS.out.2.size; simp; omega) ?_); intro v9 w9 hown hg9; have hb9 : Below W5.heap.size W5 w9 := (HS.out.2.trans (((((Below.refl wr.heap.size wr).drew).alloc (Nat.le_refl _) (.cells #[.int .u8 (b24.toNat : Int), .int .u8 (b16.toNat : Int), .int .u8 (b8.toNat : Int), .int .u8 (b0.toNat : Int)] 5))).mono HS.out.2.size)).grown hg9 (by have := HS.out.2.size; simp; omega) (fun j e => (OwnL.lt (HS.out.1.below ((((Below.refl wr.heap.size wr).drew).alloc (Nat.le_refl _) (.cells #[.int .u8 (b24.toNat : Int), .int .u8 (b16.toNat : Int), .int .u8 (b8.toNat : Int), .int .u8 (b0.toNat : Int)] 5)))) j e).1); have hc9 := HXC.out w9 hb9) | ((refine step_append_list rfl (.tmp 28) (.tmp 52) 45 rfl Tryd.underlying45 uint8_info rfl (by decide) rfl (HS.out.1.below ((((Below.refl wr.heap.size wr).drew).alloc (Nat.le_refl _) (.cells #[.int .u8 (b24.toNat : Int), .int .u8 (b16.toNat : Int), .int .u8 (b8.toNat : Int), .int .u8 (b0.toNat : Int)] 5)).drew)) wr.heap.size 4 4 [b24, b16, b8, b0] rfl rfl (fun y hy => rfl) (fun q y hq => by rw [((RowAt.new wr.drew 5 #[.int .u8 (b24.toNat : Int), .int .u8 (b16.toNat : Int), .int .u8 (b8.toNat : Int), .int .u8 (b0.toNat : Int)]).drew).cell q]; match q, hq with | 0, hq => simp at hq; subst hq; rfl | 1, hq => simp at hq; subst hq; rfl | 2, hq => simp at hq; subst hq; rfl | 3, hq => simp at hq; subst hq; rfl | q + 4, hq => simp at hq) (by rw [List.length_take, digB_len]; omega) (by have := HS.out.2.size; simp; omega) ?_); intro v9 w9 hown hg9; have hb9 : Below W5.heap.size W5 w9 := (HS.out.2.trans (((((Below.refl wr.heap.size wr).drew).alloc (Nat.le_refl _) (.cells #[.int .u8 (b24.toNat : Int), .int .u8 (b16.toNat : Int), .int .u8 (b8.toNat : Int), .int .u8 (b0.toNat : Int)] 5)).drew).mono HS.out.2.size)).grown hg9 (by have := HS.out.2.size; simp; omega) (fun j e => (OwnL.lt (HS.out.1.below ((((Below.refl wr.heap.size wr).drew).alloc (Nat.le_refl _) (.cells #[.int .u8 (b24.toNat : Int), .int .u8 (b16.toNat : Int), .int .u8 (b8.toNat : Int), .int .u8 (b0.toNat : Int)] 5)).drew)) j e).1); have hc9 := HXC.out w9 hb9) | ((refine step_append_list rfl (.tmp 28) (.tmp 52) 45 rfl Tryd.underlying45 uint8_info rfl (by decide) rfl (HS.out.1.below (((Below.refl wr.heap.size wr).alloc (Nat.le_refl _) (.cells #[.int .u8 (b24.toNat : Int), .int .u8 (b16.toNat : Int), .int .u8 (b8.toNat : Int), .int .u8 (b0.toNat : Int)] 5)))) wr.heap.size 4 4 [b24, b16, b8, b0] rfl rfl (fun y hy => rfl) (fun q y hq => by rw [((RowAt.new wr 5 #[.int .u8 (b24.toNat : Int), .int .u8 (b16.toNat : Int), .int .u8 (b8.toNat : Int), .int .u8 (b0.toNat : Int)])).cell q]; match q, hq with | 0, hq => simp at hq; subst hq; rfl | 1, hq => simp at hq; subst hq; rfl | 2, hq => simp at hq; subst hq; rfl | 3, hq => simp at hq; subst hq; rfl | q + 4, hq => simp at hq) (by rw [List.length_take, digB_len]; omega) (by have := HS.out.2.size; simp; omega) ?_); intro v9 w9 hown hg9; have hb9 : Below W5.heap.size W5 w9 := (HS.out.2.trans ((((Below.refl wr.heap.size wr).alloc (Nat.le_refl _) (.cells #[.int .u8 (b24.toNat : Int), .int .u8 (b16.toNat : Int), .int .u8 (b8.toNat : Int), .int .u8 (b0.toNat : Int)] 5))).mono HS.out.2.size)).grown hg9 (by have := HS.out.2.size; simp; omega) (fun j e => (OwnL.lt (HS.out.1.below (((Below.refl wr.heap.size wr).alloc (Nat.le_refl _) (.cells #[.int .u8 (b24.toNat : Int), .int .u8 (b16.toNat : Int), .int .u8 (b8.toNat : Int), .int .u8 (b0.toNat : Int)] 5)))) j e).1); have hc9 := HXC.out w9 hb9) | ((refine step_append_list rfl (.tmp 28) (.tmp 52) 45 rfl Tryd.underlying45 uint8_info rfl (by decide) rfl (HS.out.1.below (((Below.refl wr.heap.size wr).alloc (Nat.le_refl _) (.cells #[.int .u8 (b24.toNat : Int), .int .u8 (b16.toNat : Int), .int .u8 (b8.toNat : Int), .int .u8 (b0.toNat : Int)] 5)).drew)) wr.heap.size 4 4 [b24, b16, b8, b0] rfl rfl (fun y hy => rfl) (fun q y hq => by rw [((RowAt.new wr 5 #[.int .u8 (b24.toNat : Int), .int .u8 (b16.toNat : Int), .int .u8 (b8.toNat : Int), .int .u8 (b0.toNat : Int)]).drew).cell q]; match q, hq with | 0, hq => simp at hq; subst hq; rfl | 1, hq => simp at hq; subst hq; rfl | 2, hq => simp at hq; subst hq; rfl | 3, hq => simp at hq; subst hq; rfl | q + 4, hq => simp at hq) (by rw [List.length_take, digB_len]; omega) (by have := HS.out.2.size; simp; omega) ?_); intro v9 w9 hown hg9; have hb9 : Below W5.heap.size W5 w9 := (HS.out.2.trans ((((Below.refl wr.heap.size wr).alloc (Nat.le_refl _) (.cells #[.int .u8 (b24.toNat : Int), .int .u8 (b16.toNat : Int), .int .u8 (b8.toNat : Int), .int .u8 (b0.toNat : Int)] 5)).drew).mono HS.out.2.size)).grown hg9 (by have := HS.out.2.size; simp; omega) (fun j e => (OwnL.lt (HS.out.1.below (((Below.refl wr.heap.size wr).alloc (Nat.le_refl _) (.cells #[.int .u8 (b24.toNat : Int), .int .u8 (b16.toNat : Int), .int .u8 (b8.toNat : Int), .int .u8 (b0.toNat : Int)] 5)).drew)) j e).1); have hc9 := HXC.out w9 hb9))
          rw [HNX.out] at hown
          have HE := Lib.hid (And.intro hown hb9)
          clear hown hb9 hg9 hc9
          go_wp2_with fail
          go_roundw
          case rel => exact ⟨j + 1, by omega, by go_num, HE⟩
          case measure => simp [RowKit.intOf]; omega
        · have hj8 : decide (j < 8) = false := by simp; omega
          have HE : Hid (OwnL 5 encB wr W5.heap.size y6 R ∧ Below W5.heap.size W5 wr) := Lib.hid (by
            have h := HS.out
            rwa [List.take_of_length_le (by rw [digB_len]; omega), HR.out] at h)
          have hRl : R.length = 32 := by rw [← HR.out]; exact digB_len _
          obtain ⟨A6, c6, hv6, hc6⟩ := HE.out.1.slice
          rw [hRl] at hv6 hc6
          subst hv6
          obtain ⟨g6, hA6, -, -, -, -⟩ := HE.out.1.get (i := 0) (x := R[0]'(by omega)) (List.getElem?_eq_getElem _)
          subst hA6
          have hcv : (convert 45 9 (.slice (some ⟨g6, 0, none⟩) R.length c6)).run Tryd.prog wr = .ok (.string ⟨R.toArray⟩) wr := by
            refine run_convert_bytes_back (P := Tryd.prog) wr 45 9 5 ⟨g6, 0, none⟩ c6 R Tryd.underlying45 Tryd.underlying5 Tryd.underlying9 (fun q hq => ?_)
            obtain ⟨g', hg', -, -, hc, -⟩ := HE.out.1.get (List.getElem?_eq_getElem hq)
            obtain rfl : g6 = g' := by simpa using hg'
            rw [Go.WideShapes.add_plain, Nat.zero_add]
            exact hc
          rw [hRl] at hcv
          clear HS hc6 hRl
          go_wp2_with fail
          go_ret
          exact ⟨rfl, HBW.out _ (HS5.out.2.trans (HE.out.2.mono HS5.out.2.size))⟩
end Go.Proofs.YtgmdjbhclihflaaDoor
