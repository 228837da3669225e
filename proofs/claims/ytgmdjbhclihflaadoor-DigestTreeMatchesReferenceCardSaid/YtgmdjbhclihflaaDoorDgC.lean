/- A block is added to the words. -/
import Derived.Test.YtgmdjbhclihflaaDoorDgB
import Derived.ChangeKeysEq
import Derived.Laws.CopyOwn
import Derived.Deep.RegionLaw
namespace Go.Proofs.YtgmdjbhclihflaaDoor
open Go Go.RowKit Go.Lib

/-- the table lies where the program's text lays it -/
def KAt (w : World) : Prop := ∀ j : Nat, j < 64 → w.cell? ⟨0, j, none⟩ = some (.int .u32 ((Sha.K.getD j 0 : Nat) : Int))
theorem KAt.lt {w : World} (h : KAt w) : 0 < w.heap.size := World.block_lt_of_cell? w _ (h 0 (by decide))
theorem KAt.below {w w' : World} (h : KAt w) (hb : Below w.heap.size w w') : KAt w' := fun j hj => (hb.cell (p := ⟨0, j, none⟩) h.lt).trans (h j hj)
def KC : Array Value := (u32s Sha.K).toArray
theorem KC_size : KC.size = 64 := by simp [KC, u32s, Sha.K]
theorem KC_get (j : Nat) (hj : j < 64) : KC[j]? = some (.int .u32 ((Sha.K.getD j 0 : Nat) : Int)) := by
  unfold KC u32s
  rw [List.getElem?_toArray, List.getElem?_map, List.getD_eq_getElem?_getD, List.getElem?_eq_getElem (by simpa [Sha.K] using hj)]
  rfl
theorem KAt.cells {w : World} (h : KAt w) : ∀ j v, KC[j]? = some v → w.cell? ⟨0, 0 + j, none⟩ = some v := fun j v hv => by
  have hj : j < 64 := by rw [← KC_size]; exact (Array.getElem?_eq_some_iff.1 hv).1
  rw [KC_get j hj] at hv
  cases hv
  rw [Nat.zero_add]
  exact h j hj
theorem run_index_at {P : Program} (t e : TypeId) (n i : Nat) (cs : Array Value) (v : Value) (hu : P.underlying t = some (.array n e)) (hs : (P.info? e).map (·.size) = some 1) (he : P.plainKey e = true) (hi : i < n) (hv : cs[i]? = some v) (w : World) :
    (Instr.index t (.agg cs) (.int .i64 (i : Int))).run P w = .ok v w := by
  cases hq : P.info? e with
  | none => simp [hq] at hs
  | some d =>
    have hd : d.size = 1 := by simpa [hq] using hs
    have h1 : (0 : Int) ≤ (i : Int) ∧ (i : Int) < (n : Int) := by omega
    simp [Instr.index, asIntOf, Sem.run_bind, run_underlying hu, h1, hi, sizeOf, typeInfo, hq, hd, run_part_plain w he hv]
/-- the cells of eight words -/
def v8c (v : Sha.V8) : Array Value := #[.int .u32 v.a, .int .u32 v.b, .int .u32 v.c, .int .u32 v.d, .int .u32 v.e, .int .u32 v.f, .int .u32 v.g, .int .u32 v.h]
structure V8ok (v : Sha.V8) : Prop where
  a : v.a < 4294967296
  b : v.b < 4294967296
  c : v.c < 4294967296
  d : v.d < 4294967296
  e : v.e < 4294967296
  f : v.f < 4294967296
  g : v.g < 4294967296
  h : v.h < 4294967296
def runV (v : Sha.V8) (ws : List Nat) (i : Nat) : Sha.V8 := ((Sha.K.zip ws).take i).foldl Sha.step v
theorem step_ok {v : Sha.V8} (h : V8ok v) (kw : Nat × Nat) : V8ok (Sha.step v kw) := ⟨Nat.mod_lt _ (by decide), h.a, h.b, h.c, Nat.mod_lt _ (by decide), h.e, h.f, h.g⟩
theorem runV_succ (v : Sha.V8) (ws : List Nat) (hw : ws.length = 64) (i : Nat) (hi : i < 64) : runV v ws (i + 1) = Sha.step (runV v ws i) (Sha.K.getD i 0, ws.getD i 0) := by
  unfold runV
  have hk : i < Sha.K.length := by simpa [Sha.K] using hi
  have hz : i < (Sha.K.zip ws).length := by rw [List.length_zip]; omega
  rw [List.take_succ_eq_append_getElem hz, List.foldl_append, List.getElem_zip, List.getD_eq_getElem?_getD, List.getD_eq_getElem?_getD, List.getElem?_eq_getElem hk, List.getElem?_eq_getElem (by omega)]
  rfl
theorem runV_ok {v : Sha.V8} (h : V8ok v) (ws : List Nat) (i : Nat) : V8ok (runV v ws i) := by
  unfold runV
  have g : ∀ (l : List (Nat × Nat)) (v : Sha.V8), V8ok v → V8ok (l.foldl Sha.step v) := by
    intro l
    induction l with
    | nil => intro v h; exact h
    | cons x l ih => intro v h; exact ih _ (step_ok h x)
  exact g _ v h
theorem mixed3_any (x b k m n : Nat) (w : World) (hx : x < 4294967296) (k1 : 1 ≤ k) (k2 : k ≤ 31) (m1 : 1 ≤ m) (m2 : m ≤ 31) (n1 : 1 ≤ n) (n2 : n ≤ 31) (hr : RowAt w b 3 #[.int .i64 (k : Int), .int .i64 (m : Int), .int .i64 (n : Int)]) :
    Calls Tryd.prog 62 #[.int .u32 x, .slice (some ⟨b, 0, none⟩) 3 3] w fun e w' => e = .returned (.int .u32 (Sha.mix3 x k m n : Nat)) ∧ w = w' := by
  rw [← mixF3]
  refine mixed_any x b 3 [k, m, n] w hx rfl (by omega) (by simp; omega) fun i hi => ?_
  rw [hr.cell i]
  match i, hi with
  | 0, _ | 1, _ | 2, _ => rfl
theorem u32_not_nat (a : Nat) (ha : a < 4294967296) : bits BinOp.xor IntKind.u32 IntKind.u32.max (a : Int) = ((4294967295 - a : Nat) : Int) := by
  have h := u32_xor_nat 4294967295 a (by omega) ha
  have e : 4294967295 ^^^ a = 4294967295 - a := by
    have h1 : (BitVec.allOnes 32 ^^^ BitVec.ofNat 32 a).toNat = 4294967295 ^^^ a := by
      rw [BitVec.toNat_xor, BitVec.toNat_allOnes, BitVec.toNat_ofNat, Nat.mod_eq_of_lt (by omega)]
    have h2 : (BitVec.allOnes 32 ^^^ BitVec.ofNat 32 a).toNat = 4294967295 - a := by
      rw [BitVec.allOnes_xor, BitVec.toNat_not, BitVec.toNat_ofNat, Nat.mod_eq_of_lt (by omega)]
    rw [← h1, h2]
  rw [e] at h
  exact h
def v8l (v : Sha.V8) : List Value := [.int .u32 v.a, .int .u32 v.b, .int .u32 v.c, .int .u32 v.d, .int .u32 v.e, .int .u32 v.f, .int .u32 v.g, .int .u32 v.h]
theorem v8_src {w : World} {n : Nat} {t : TypeId} {v : Sha.V8} (h : w.heap[n]? = some (.cells (v8l v).toArray t (0, 0))) (j : Nat) (u : Value) (hu : ((v8l v).take 7)[j]? = some u) : w.cell? ((⟨n, 0, none⟩ : Addr).add j) = some u := by
  rw [addr_add, RowAt.cell (show RowAt w n t _ from h) j, List.getElem?_toArray]
  rw [List.getElem?_take] at hu
  split at hu
  · exact hu
  · cases hu
theorem grown_of_below {w w' : World} (h : Below w.heap.size w w') (nb : Nat) : w.grownBy w' (some nb) := ⟨h.os, h.tape, h.output, h.size, fun k hk _ => h.block k hk⟩
theorem grown_set {w w' : World} {nb : Nat} (h : w.grownBy w' (some nb)) (j : Nat) (v : Value) : w.grownBy (w'.setCell ⟨nb, j, none⟩ v).drew (some nb) :=
  ⟨h.os, h.tape, h.output, by simpa [World.setCell] using h.size, fun k hk hne => (Below.heap_setCell w' ⟨nb, j, none⟩ v k (fun e => hne (by rw [e]))).trans (h.block k hk hne)⟩
def v8n (v : Sha.V8) : List Nat := [v.a, v.b, v.c, v.d, v.e, v.f, v.g, v.h]
def mixC (v x : Sha.V8) (j : Nat) : Array Value := (u32s ((v8n (Sha.plus v x)).take j ++ (v8n v).drop j)).toArray
theorem mixC_at (v x : Sha.V8) (j : Nat) (hj : j < 8) : (mixC v x j)[j]? = some (.int .u32 ((v8n v).getD j 0 : Nat)) := by
  match j, hj with
  | 0, _ | 1, _ | 2, _ | 3, _ | 4, _ | 5, _ | 6, _ | 7, _ => rfl
theorem v8c_at (x : Sha.V8) (j : Nat) (hj : j < 8) : (v8c x)[j]? = some (.int .u32 ((v8n x).getD j 0 : Nat)) := by
  match j, hj with
  | 0, _ | 1, _ | 2, _ | 3, _ | 4, _ | 5, _ | 6, _ | 7, _ => rfl
theorem mixC_set (v x : Sha.V8) (j : Nat) (hj : j < 8) : (mixC v x j).setIfInBounds j (.int .u32 ((((v8n v).getD j 0 + (v8n x).getD j 0) % 4294967296 : Nat) : Int)) = mixC v x (j + 1) := by
  match j, hj with
  | 0, _ | 1, _ | 2, _ | 3, _ | 4, _ | 5, _ | 6, _ | 7, _ => rfl
theorem mixC_all (v x : Sha.V8) : mixC v x 8 = v8c (Sha.plus v x) := rfl
theorem K_lt (j : Nat) : Sha.K.getD j 0 < 4294967296 := getD_lt (m := 4294967295) (by decide) j
set_option maxRecDepth 100000 in
set_option maxHeartbeats 4000000 in
theorem add_any (nb bb o c : Nat) (v : Sha.V8) (l : List Nat) (w : World) (hv : V8ok v) (hr : RowAt w nb 66 (v8c v)) (hK : KAt w) (hl : l.length = 64) (hb : ∀ x ∈ l, x < 256) (hc : ∀ j, j < 64 → w.cell? ⟨bb, o + j, none⟩ = some (.int .u8 (l.getD j 0 : Nat))) (hlt : bb < w.heap.size) :
    Calls Tryd.prog 49 #[.pointer (some ⟨nb, 0, none⟩), .slice (some ⟨bb, o, none⟩) 64 c] w fun e w' => e = .returned (.tuple #[]) ∧ RowAt w' nb 66 (v8c (Sha.block v l)) ∧ w.grownBy w' (some nb) := by
  have SCH := Lib.hid (schedule_any bb o c l w hl hb hc hlt)
  have hwl : (Sha.growN 48 (Sha.first l)).length = 64 := by rw [growN_len, first_len l hl]
  have hws := grow_lt 48 (first_lt l hb)
  have hblk : Sha.block v l = Sha.plus v (runV v (Sha.growN 48 (Sha.first l)) 64) := by
    unfold Sha.block runV
    rw [List.take_of_length_le (by rw [List.length_zip, hwl]; simp [Sha.K])]
  rw [hblk]
  obtain ⟨ws, hws0⟩ : ∃ z, Sha.growN 48 (Sha.first l) = z := ⟨_, rfl⟩
  rw [hws0] at hwl hws SCH ⊢
  obtain ⟨CS, hCS⟩ : ∃ z, (u32s ws).toArray = z := ⟨_, rfl⟩
  rw [hCS] at SCH
  have hcs : CS.size = 64 ∧ CS.all (·.oneCell') = true := by rw [← hCS]; exact ⟨by simp [u32s, hwl], u32s_one _⟩
  have hcg : ∀ i, i < 64 → CS[i]? = some (.int .u32 (ws.getD i 0 : Nat)) := fun i hi => by rw [← hCS, ← wCells_full hwl]; exact wCells_get (by omega)
  have HCG := Lib.hid hcg
  have hi83 : (Tryd.prog.info? 83).map (·.size) = some CS.size := by rw [hcs.1]; kernel_rfl
  have HI := Lib.hid hi83
  have HONE := Lib.hid hcs.2
  have HSZ := Lib.hid hcs.1
  have HWL := Lib.hid (And.intro hwl hws)
  have HR := Lib.hid hr
  have HKA := Lib.hid hK
  have HV := Lib.hid hv
  clear hv hr hK hl hb hc hlt hblk hws0 hwl hws hCS hcs hcg hi83
  go_enter Tryd.func49, Tryd.ntmps49
  go_wp2_with fail
  refine SCH.out.mono ?_
  rintro e w1 ⟨rfl, hx⟩
  have hr1 := HR.out.below hx HR.out.lt
  have hk1 := HKA.out.below hx
  have HX1 := Lib.hid (And.intro hr1 (And.intro hk1 hx))
  have HH := Lib.hid (show w1.heap[nb]? = some (.cells (v8c v) 66 (0, 0)) from hr1)
  clear hx hr1 hk1 SCH HR HKA
  go_wp2_with (first | ((with_reducible refine wpList_store_new (o := ⟨none, .store _ _ _, _, _, _, _⟩) ?_ 83 (.tmp 4) (.tmp 14) ?_ ?_ _ CS ?_ HI.out ?_ HONE.out ?_); rfl; rfl; rfl; rfl; exact HSZ.out.symm) | ((with_reducible refine wpList_stop (o := ⟨some 17, _, _, _, _, _⟩) ?_)))
  unfold Stop
  obtain ⟨W2, hW2⟩ : ∃ z, w1.alloc (.cells CS 83) = z := ⟨_, rfl⟩
  have b2 : Below w1.heap.size w1 W2 := by rw [← hW2]; exact (Below.refl _ _).alloc (Nat.le_refl _) _
  have r4 : RowAt W2 w1.heap.size 83 CS := by rw [← hW2]; exact RowAt.new w1 _ _
  rw [hW2]
  clear hW2
  obtain ⟨n4, hn4⟩ : ∃ z, w1.heap.size = z := ⟨_, rfl⟩
  rw [hn4] at r4 ⊢
  have rb : RowAt W2 nb 66 (v8c v) := HX1.out.1.below b2 HX1.out.1.lt
  have HB2 := Lib.hid (HX1.out.2.2.trans (b2.mono HX1.out.2.2.size))
  have HK2 := Lib.hid (HX1.out.2.1.below b2)
  have HR4 := Lib.hid r4
  have HRB := Lib.hid (show W2.heap[nb]? = some (.cells (v8c v) 66 (0, 0)) from rb)
  clear b2 r4 hn4 rb HX1 HH
  go_wp2_with (first | ((with_reducible refine wpList_load_row (o := ⟨some 17, _, _, _, _, _⟩) ?_ 66 (.tmp 16) ?_ nb ?_ 66 (v8c v) (0, 0) _ HRB.out Tryd.underlying66 ?_ ?_ ?_); rfl; rfl; rfl; rfl; kernel_rfl) | ((with_reducible refine wpList_store_new (o := ⟨none, .store _ _ _, _, _, _, _⟩) ?_ 66 (.tmp 5) (.tmp 17) ?_ ?_ _ (v8c v) ?_ ?_ ?_ ?_ ?_); rfl; rfl; rfl; rfl; kernel_rfl; rfl; kernel_rfl) | ((with_reducible refine wpList_stop (o := ⟨some 18, _, _, _, _, _⟩) ?_)))
  unfold Stop
  obtain ⟨W3, hW3⟩ : ∃ z, W2.alloc (.cells (v8c v) 66) = z := ⟨_, rfl⟩
  have b3 : Below W2.heap.size W2 W3 := by rw [← hW3]; exact (Below.refl _ _).alloc (Nat.le_refl _) _
  have r5 : RowAt W3 W2.heap.size 66 (v8c v) := by rw [← hW3]; exact RowAt.new W2 _ _
  rw [hW3]
  clear hW3
  obtain ⟨n5, hn5⟩ : ∃ z, W2.heap.size = z := ⟨_, rfl⟩
  rw [hn5] at r5 ⊢
  have hnb5 : nb < n5 := by rw [← hn5]; exact RowAt.lt HRB.out
  have hn45 : n4 < n5 := by rw [← hn5]; exact HR4.out.lt
  have r4 : RowAt W3 n4 83 CS := HR4.out.below b3 HR4.out.lt
  have rb : RowAt W3 nb 66 (v8c v) := RowAt.below HRB.out b3 (RowAt.lt HRB.out)
  have HKC := Lib.hid ((HK2.out.below b3).cells)
  have HB3 := Lib.hid (HB2.out.trans (b3.mono HB2.out.size))
  have hw5 : w.heap.size ≤ n5 := by rw [← hn5]; exact HB2.out.size
  have HS3 := Lib.hid (And.intro r4 (And.intro rb (And.intro hnb5 (And.intro hn45 hw5))))
  have H5 : Hid (RowAt W3 n5 66 (v8c (runV v ws 0)) ∧ Below n5 W3 W3) := Lib.hid ⟨r5, Below.refl _ _⟩
  clear b3 r5 hn5 r4 rb hnb5 hn45 hw5 HB2 HK2 HR4 HRB
  go_wp2_with (first | ((with_reducible refine wpList_load_at (o := ⟨some 18, _, _, _, _, _⟩) ?_ 83 (.global 0) ?_ 0 0 ?_ KC _ HKC.out Tryd.underlying83 ?_ ?_ ?_); rfl; rfl; rfl; rfl; kernel_rfl))
  go_loopw [19] (fun iv wr => ∃ i : Nat, i ≤ 64 ∧ iv = .int .i64 i ∧ Hid (RowAt wr n5 66 (v8c (runV v ws i)) ∧ Below n5 W3 wr)) (fun i _ => 64 - (intOf i).toNat)
  case atStart => exact ⟨0, by omega, rfl, H5⟩
  case round =>
    obtain ⟨i, hi, rfl, HK⟩ := hrel
    by_cases hi2 : i < 64
    · have hix := run_index_at (P := Tryd.prog) 83 64 64 i KC (.int .u32 (Sha.K.getD i 0 : Nat)) Tryd.underlying83 (by kernel_rfl) (by kernel_rfl) hi2 (KC_get i hi2)
      have hvs := runV_succ v ws HWL.out.1 i hi2
      have hok := runV_ok HV.out ws i
      have c4 : wr.cell? ⟨n4, i, none⟩ = some (.int .u32 (ws.getD i 0 : Nat)) := (HK.out.2.cell (p := ⟨n4, i, none⟩) HS3.out.2.2.2.1).trans ((HS3.out.1.cell i).trans (HCG.out i hi2))
      have hkl := K_lt i
      have hxl := HWL.out.2 i
      obtain ⟨k, hk⟩ : ∃ z, Sha.K.getD i 0 = z := ⟨_, rfl⟩
      obtain ⟨x, hx⟩ : ∃ z, ws.getD i 0 = z := ⟨_, rfl⟩
      rw [hk] at hix hvs hkl
      rw [hx] at hvs c4 hxl
      obtain ⟨⟨pa, pb, pc, pd, pe, pf, pg, ph⟩, hvi⟩ : ∃ z, runV v ws i = z := ⟨_, rfl⟩
      rw [hvi] at hvs hok HK
      have HVS := Lib.hid hvs
      have c0 : wr.cell? ⟨n5, 0, none⟩ = some (.int .u32 (pa : Int)) := HK.out.1.cell 0
      have c44 : wr.cell? ⟨n5, 4, none⟩ = some (.int .u32 (pe : Int)) := HK.out.1.cell 4
      have la := hok.a
      have lb := hok.b
      have lc := hok.c
      have ld := hok.d
      have le := hok.e
      have lf := hok.f
      have lg := hok.g
      have lh := hok.h
      dsimp only at la lb lc ld le lf lg lh
      clear hk hx hvi hvs hok
      go_wp2_with fail
      go_quiet (fail)
      go_wp2_with fail
      obtain ⟨W6, hW6⟩ : ∃ z, wr.drewN nq = z := ⟨_, rfl⟩
      have r6 : RowAt W6 n5 66 (v8c ⟨pa, pb, pc, pd, pe, pf, pg, ph⟩) := by rw [← hW6]; exact HK.out.1
      have b6 : Below n5 W3 W6 := by rw [← hW6]; exact below_drewN HK.out.2 _
      have d7 : W6.cell? ⟨n5, 7, none⟩ = some (.int .u32 (ph : Int)) := r6.cell 7
      have d5 : W6.cell? ⟨n5, 5, none⟩ = some (.int .u32 (pf : Int)) := r6.cell 5
      have d6 : W6.cell? ⟨n5, 6, none⟩ = some (.int .u32 (pg : Int)) := r6.cell 6
      have d4 : W6.cell? ⟨n4, i, none⟩ = some (.int .u32 (x : Int)) := by rw [← hW6]; exact c4
      have HR6 := Lib.hid (And.intro r6 b6)
      rw [hW6]
      clear hW6 r6 b6 c0 c44 c4 HK hix
      have MX := Lib.hid (fun (b : Nat) W (h : RowAt W b 3 #[.int .i64 6, .int .i64 11, .int .i64 25]) => mixed3_any pe b 6 11 25 W le (by omega) (by omega) (by omega) (by omega) (by omega) (by omega) h)
      have MY := Lib.hid (fun (b : Nat) W (h : RowAt W b 3 #[.int .i64 2, .int .i64 13, .int .i64 22]) => mixed3_any pa b 2 13 22 W la (by omega) (by omega) (by omega) (by omega) (by omega) (by omega) h)
      have hst : Sha.step ⟨pa, pb, pc, pd, pe, pf, pg, ph⟩ (k, x) = ⟨((ph + Sha.mix3 pe 6 11 25 + ((pe &&& pf) ^^^ ((4294967295 - pe) &&& pg)) + k + x) + (Sha.mix3 pa 2 13 22 + ((pa &&& pb) ^^^ (pa &&& pc) ^^^ (pb &&& pc)))) % 4294967296, pa, pb, pc, (pd + (ph + Sha.mix3 pe 6 11 25 + ((pe &&& pf) ^^^ ((4294967295 - pe) &&& pg)) + k + x)) % 4294967296, pe, pf, pg⟩ := rfl
      obtain ⟨m1, hm1⟩ : ∃ z, Sha.mix3 pe 6 11 25 = z := ⟨_, rfl⟩
      obtain ⟨m2, hm2⟩ : ∃ z, Sha.mix3 pa 2 13 22 = z := ⟨_, rfl⟩
      have a1 := u32_and_nat pe pf le lf
      have a2 := u32_not_nat pe le
      have a3 := u32_and_nat (4294967295 - pe) pg (by omega) lg
      have a4 := u32_xor_nat (pe &&& pf) ((4294967295 - pe) &&& pg) (Nat.and_lt_two_pow (n := 32) _ lf) (Nat.and_lt_two_pow (n := 32) _ lg)
      have a5 := u32_and_nat pa pb la lb
      have a6 := u32_and_nat pa pc la lc
      have a7 := u32_and_nat pb pc lb lc
      have a8 := u32_xor_nat (pa &&& pb) (pa &&& pc) (Nat.and_lt_two_pow (n := 32) _ lb) (Nat.and_lt_two_pow (n := 32) _ lc)
      have a9 := u32_xor_nat ((pa &&& pb) ^^^ (pa &&& pc)) (pb &&& pc) (Nat.xor_lt_two_pow (n := 32) (Nat.and_lt_two_pow (n := 32) _ lb) (Nat.and_lt_two_pow (n := 32) _ lc)) (Nat.and_lt_two_pow (n := 32) _ lc)
      obtain ⟨n1, hn1⟩ : ∃ z, pe &&& pf = z := ⟨_, rfl⟩
      obtain ⟨n2, hn2⟩ : ∃ z, 4294967295 - pe = z := ⟨_, rfl⟩
      obtain ⟨n3, hn3⟩ : ∃ z, (4294967295 - pe) &&& pg = z := ⟨_, rfl⟩
      obtain ⟨ch, hch⟩ : ∃ z, (pe &&& pf) ^^^ ((4294967295 - pe) &&& pg) = z := ⟨_, rfl⟩
      obtain ⟨n6, hn6⟩ : ∃ z, pa &&& pb = z := ⟨_, rfl⟩
      obtain ⟨n7, hn7⟩ : ∃ z, pa &&& pc = z := ⟨_, rfl⟩
      obtain ⟨n8, hn8⟩ : ∃ z, pb &&& pc = z := ⟨_, rfl⟩
      obtain ⟨n9, hn9⟩ : ∃ z, (pa &&& pb) ^^^ (pa &&& pc) = z := ⟨_, rfl⟩
      obtain ⟨mj, hmj⟩ : ∃ z, (pa &&& pb) ^^^ (pa &&& pc) ^^^ (pb &&& pc) = z := ⟨_, rfl⟩
      rw [hm1, hm2, hch, hmj] at hst
      rw [hm1] at MX
      rw [hm2] at MY
      rw [hch, hn1, hn3] at a4
      rw [hn3, hn2] at a3
      rw [hn2] at a2
      rw [hn1] at a1
      rw [hmj, hn9, hn8] at a9
      rw [hn9, hn6, hn7] at a8
      rw [hn6] at a5
      rw [hn7] at a6
      rw [hn8] at a7
      obtain ⟨t1, ht1⟩ : ∃ z, (ph + m1) % 4294967296 = z := ⟨_, rfl⟩
      obtain ⟨t2, ht2⟩ : ∃ z, (t1 + ch) % 4294967296 = z := ⟨_, rfl⟩
      obtain ⟨t3, ht3⟩ : ∃ z, (t2 + k) % 4294967296 = z := ⟨_, rfl⟩
      obtain ⟨t4, ht4⟩ : ∃ z, (t3 + x) % 4294967296 = z := ⟨_, rfl⟩
      obtain ⟨u1, hu1⟩ : ∃ z, (m2 + mj) % 4294967296 = z := ⟨_, rfl⟩
      obtain ⟨v0, hv0⟩ : ∃ z, (t4 + u1) % 4294967296 = z := ⟨_, rfl⟩
      obtain ⟨v4, hv4⟩ : ∃ z, (pd + t4) % 4294967296 = z := ⟨_, rfl⟩
      rw [show ((ph + m1 + ch + k + x) + (m2 + mj)) % 4294967296 = v0 by omega, show (pd + (ph + m1 + ch + k + x)) % 4294967296 = v4 by omega] at hst
      have z1 : IntKind.u32.wrap ((ph : Int) + (m1 : Int)) = (t1 : Int) := by rw [IntKind.wrap_u32]; omega
      have z2 : IntKind.u32.wrap ((t1 : Int) + (ch : Int)) = (t2 : Int) := by rw [IntKind.wrap_u32]; omega
      have z3 : IntKind.u32.wrap ((t2 : Int) + (k : Int)) = (t3 : Int) := by rw [IntKind.wrap_u32]; omega
      have z4 : IntKind.u32.wrap ((t3 : Int) + (x : Int)) = (t4 : Int) := by rw [IntKind.wrap_u32]; omega
      have z5 : IntKind.u32.wrap ((m2 : Int) + (mj : Int)) = (u1 : Int) := by rw [IntKind.wrap_u32]; omega
      have z6 : IntKind.u32.wrap ((t4 : Int) + (u1 : Int)) = (v0 : Int) := by rw [IntKind.wrap_u32]; omega
      have z7 : IntKind.u32.wrap ((pd : Int) + (t4 : Int)) = (v4 : Int) := by rw [IntKind.wrap_u32]; omega
      have HST := Lib.hid hst
      have HZ := Lib.hid (And.intro z6 z7)
      have HZ5 := Lib.hid z5
      have HA := Lib.hid (And.intro a5 (And.intro a6 (And.intro a7 (And.intro a8 a9))))
      clear hm1 hm2 hn1 hn2 hn3 hch hn6 hn7 hn8 hn9 hmj ht1 ht2 ht3 ht4 hu1 hv0 hv4 hst a5 a6 a7 a8 a9 z5 z6 z7
      go_region_held3 (fun w' => w'.cell? ⟨n5, 7, none⟩ = some (.int .u32 (ph : Int)) ∧ w'.cell? ⟨n5, 5, none⟩ = some (.int .u32 (pf : Int)) ∧ w'.cell? ⟨n5, 6, none⟩ = some (.int .u32 (pg : Int)) ∧ w'.cell? ⟨n4, i, none⟩ = some (.int .u32 (x : Int))) (go_keep) (first | (go_at_call 62; (with_reducible refine (MX.out _ _ ?_).mono ?_); (first | with_reducible exact (RowAt.new W6 _ _).drew); rintro e w' ⟨rfl, rfl⟩))
      obtain ⟨W7, hW7⟩ : ∃ z, (W6.alloc (.cells #[.int .i64 6, .int .i64 11, .int .i64 25] 3)).drew = z := ⟨_, rfl⟩
      have r7 : RowAt W7 n5 66 (v8c ⟨pa, pb, pc, pd, pe, pf, pg, ph⟩) := by rw [← hW7]; exact (HR6.out.1.alloc _).drew
      have b7 : Below n5 W3 W7 := by rw [← hW7]; exact (HR6.out.2.alloc (Nat.le_of_lt HR6.out.1.lt) _).drew
      have f1 : W7.cell? ⟨n5, 1, none⟩ = some (.int .u32 (pb : Int)) := r7.cell 1
      have f2 : W7.cell? ⟨n5, 2, none⟩ = some (.int .u32 (pc : Int)) := r7.cell 2
      have HR7 := Lib.hid (And.intro r7 b7)
      rw [hW7]
      have a5 := HA.out.1
      have a6 := HA.out.2.1
      have a7 := HA.out.2.2.1
      have a8 := HA.out.2.2.2.1
      have a9 := HA.out.2.2.2.2
      have z5 := HZ5.out
      clear hW7 r7 b7 d7 d5 d6 d4 a1 a2 a3 a4 z1 z2 z3 z4 HR6 MX
      go_wp2_with fail
      go_region_held3 (fun w' => w'.cell? ⟨n5, 1, none⟩ = some (.int .u32 (pb : Int)) ∧ w'.cell? ⟨n5, 2, none⟩ = some (.int .u32 (pc : Int))) (go_keep) (first | (go_at_call 62; (with_reducible refine (MY.out _ _ ?_).mono ?_); (first | with_reducible exact (RowAt.new W7 _ _).drew); rintro e w' ⟨rfl, rfl⟩))
      obtain ⟨W8, hW8⟩ : ∃ z, (W7.alloc (.cells #[.int .i64 2, .int .i64 13, .int .i64 22] 3)).drew = z := ⟨_, rfl⟩
      have r8 : RowAt W8 n5 66 (v8c ⟨pa, pb, pc, pd, pe, pf, pg, ph⟩) := by rw [← hW8]; exact (HR7.out.1.alloc _).drew
      have b8 : Below n5 W3 W8 := by rw [← hW8]; exact (HR7.out.2.alloc (Nat.le_of_lt HR7.out.1.lt) _).drew
      have HR8 := Lib.hid (And.intro (show W8.drew.heap[n5]? = some (.cells (v8l ⟨pa, pb, pc, pd, pe, pf, pg, ph⟩).toArray 66 (0, 0)) from r8) (show Below n5 W3 W8.drew from b8.drew))
      rw [hW8]
      clear hW8 r8 b8 f1 f2 a5 a6 a7 a8 a9 z5 HR7 MY HA
      go_wp2_with fail
      go_region_law (refine step_copy_splice rfl (.tmp 69) (.tmp 70) 72 72 rfl 64 Tryd.underlying72 (by kernel_rfl) (some ⟨n5, 1, none⟩) (some ⟨n5, 0, none⟩) 7 7 7 8 rfl rfl n5 1 (v8l ⟨pa, pb, pc, pd, pe, pf, pg, ph⟩) 66 HR8.out.1 ((v8l ⟨pa, pb, pc, pd, pe, pf, pg, ph⟩).take 7) rfl (fun _ => ⟨rfl, _, rfl, v8_src HR8.out.1⟩) (Nat.le_refl 8) (fun u hu => by simp [v8l] at hu; rcases hu with rfl | rfl | rfl | rfl | rfl | rfl | rfl <;> rfl) n5 W3 HR8.out.2 (Nat.le_refl _) ?_; intro w9 hg9 hb9)
      have r9 : RowAt w9 n5 66 (v8c ⟨pa, pa, pb, pc, pd, pe, pf, pg⟩) := hg9.out
      have k0 : w9.cell? ⟨n5, 0, none⟩ = some (.int .u32 (pa : Int)) := r9.cell 0
      have k4 : w9.cell? ⟨n5, 4, none⟩ = some (.int .u32 (pd : Int)) := r9.cell 4
      have g0 : w9.frozen? ⟨n5, 0, none⟩ = false := r9.free 0
      have g4 : w9.frozen? ⟨n5, 4, none⟩ = false := r9.free 4
      have z6 := HZ.out.1
      have z7 := HZ.out.2
      have HEND : Hid (RowAt ((w9.setCell ⟨n5, 0, none⟩ (.int .u32 (v0 : Int))).setCell ⟨n5, 4, none⟩ (.int .u32 (v4 : Int))) n5 66 (v8c (runV v ws (i + 1))) ∧ Below n5 W3 ((w9.setCell ⟨n5, 0, none⟩ (.int .u32 (v0 : Int))).setCell ⟨n5, 4, none⟩ (.int .u32 (v4 : Int)))) := Lib.hid (by
        refine ⟨?_, (hb9.setCell (p := ⟨n5, 0, none⟩) (Nat.le_refl _) _).setCell (p := ⟨n5, 4, none⟩) (Nat.le_refl _) _⟩
        rw [HVS.out, HST.out]
        exact (r9.set 0 _).set 4 _)
      clear hg9 hb9 r9 HR8 HVS HST HZ HZ5
      go_wp2_with fail
      go_roundw
      case rel => exact ⟨i + 1, by omega, by go_num, HEND⟩
      case measure => simp [intOf]; omega
    · have hi64 : i = 64 := by omega
      have hf := HK.out
      rw [hi64] at hf
      obtain ⟨W9, hW9⟩ : ∃ z, wr = z := ⟨_, rfl⟩
      rw [hW9] at hf ⊢
      have hok := runV_ok HV.out ws 64
      obtain ⟨x, hx⟩ : ∃ z, runV v ws 64 = z := ⟨_, rfl⟩
      have HXV := Lib.hid hx
      rw [hx] at hf hok
      have HOK := Lib.hid hok
      have H9 := Lib.hid hf
      clear hW9 hf hok hx HK hi64
      have hg9 : w.grownBy W9 (some nb) := grown_of_below (HB3.out.trans (H9.out.2.mono HS3.out.2.2.2.2)) nb
      have hrb9 : RowAt W9 nb 66 (mixC v x 0) := RowAt.below HS3.out.2.1 H9.out.2 HS3.out.2.2.1
      have HL : Hid (RowAt W9 nb 66 (mixC v x 0) ∧ RowAt W9 n5 66 (v8c x) ∧ w.grownBy W9 (some nb)) := Lib.hid ⟨hrb9, H9.out.1, hg9⟩
      clear hg9 hrb9 H9
      go_wp2_with fail
      go_loopw [82] (fun iv wr => ∃ j : Nat, j ≤ 8 ∧ iv = .int .i64 j ∧ Hid (RowAt wr nb 66 (mixC v x j) ∧ RowAt wr n5 66 (v8c x) ∧ w.grownBy wr (some nb))) (fun i _ => 8 - (intOf i).toNat)
      case atStart => exact ⟨0, by omega, rfl, HL⟩
      case round =>
        obtain ⟨j, hj, rfl, HJ⟩ := hrel
        by_cases hj2 : j < 8
        · have c1 := (HJ.out.1.cell j).trans (mixC_at v x j hj2)
          have c2 := (HJ.out.2.1.cell j).trans (v8c_at x j hj2)
          have g1 := HJ.out.1.free j
          have hset := mixC_set v x j hj2
          obtain ⟨p, hp⟩ : ∃ z, (v8n v).getD j 0 = z := ⟨_, rfl⟩
          obtain ⟨q, hq⟩ : ∃ z, (v8n x).getD j 0 = z := ⟨_, rfl⟩
          rw [hp] at c1 hset
          rw [hq] at c2 hset
          obtain ⟨s, hs⟩ : ∃ z, (p + q) % 4294967296 = z := ⟨_, rfl⟩
          rw [hs] at hset
          have z1 : IntKind.u32.wrap ((p : Int) + (q : Int)) = (s : Int) := by rw [IntKind.wrap_u32]; omega
          have z2 : ((p : Int) + (q : Int)) % 4294967296 = (s : Int) := by omega
          have HEND : Hid (RowAt (wr.setCell ⟨nb, j, none⟩ (.int .u32 (s : Int))).drew nb 66 (mixC v x (j + 1)) ∧ RowAt (wr.setCell ⟨nb, j, none⟩ (.int .u32 (s : Int))).drew n5 66 (v8c x) ∧ w.grownBy (wr.setCell ⟨nb, j, none⟩ (.int .u32 (s : Int))).drew (some nb)) := Lib.hid (by
            refine ⟨?_, ?_, ?_⟩
            · have h := HJ.out.1.set j (.int .u32 (s : Int))
              rw [hset] at h
              exact h
            · exact (Below.heap_setCell wr ⟨nb, j, none⟩ _ n5 (by have := HS3.out.2.2.1; dsimp only; omega)).trans HJ.out.2.1
            · exact grown_set HJ.out.2.2 j _)
          clear hset hp hq hs HJ
          go_wp2_with fail
          go_region
          go_wp2_with fail
          go_roundw
          case rel => exact ⟨j + 1, by omega, by go_num, HEND⟩
          case measure => simp [intOf]; omega
        · have hj8 : j = 8 := by omega
          have hf := HJ.out
          rw [hj8, mixC_all] at hf
          have HE := Lib.hid (And.intro hf.1 hf.2.2)
          clear hf hj8 HJ
          go_wp2_with fail
          go_end0
          exact ⟨rfl, by rw [HXV.out]; exact HE.out.1, HE.out.2⟩
end Go.Proofs.YtgmdjbhclihflaaDoor
