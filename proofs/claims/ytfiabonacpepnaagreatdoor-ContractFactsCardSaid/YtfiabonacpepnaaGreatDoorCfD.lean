/- fact.Decode of what Encode wrote. -/
import Derived.Test.YtfiabonacpepnaaGreatDoorWireC
import Derived.Test.YtfiabonacpepnaaGreatDoorBase
import Derived.Test.YtfiabonacpepnaaGreatDoorCfR
import Derived.Defers
import Derived.Recover
import Derived.Deep.Cut
import Derived.WalkMore
namespace Go.Proofs.YtfiabonacpepnaaGreatDoor.Fb
open Go Go.RowKit

/-- what String returns: the string, the end, the error -/
def strSpec (l : List UInt8) (a : Int) : List UInt8 × Int × Int :=
  let r := intSpec l a
  if r.2.2 ≠ 0 then ([], 0, r.2.2)
  else if r.1 < 0 ∨ 65536 < r.1 ∨ (l.length : Int) - r.2.1 < r.1 then ([], 0, 10)
  else ((l.drop r.2.1.toNat).take r.1.toNat, r.2.1 + r.1, 0)
def V3s (r : List UInt8 × Int × Int) : Value := .tuple #[.string ⟨r.1.toArray⟩, .int .i64 r.2.1, .int .i64 r.2.2]

theorem intSpec_bd (l : List UInt8) (a : Int) (h1 : -9223372036854775808 ≤ a) (h2 : a ≤ 9223372036854775807) :
    -4611686018427387903 ≤ (intSpec l a).1 ∧ (intSpec l a).1 ≤ 4611686018427387903 ∧ 0 ≤ (intSpec l a).2.1 ∧ (intSpec l a).2.1 ≤ l.length ∧ 0 ≤ (intSpec l a).2.2 ∧ (intSpec l a).2.2 ≤ 10 := by
  unfold intSpec
  split
  · simp
  · rename_i h
    unfold intOk
    split
    · simp
    · rename_i n k hd
      obtain ⟨b1, b2, _, _, _, _, b3⟩ := WireP.dec_some hd
      rw [List.length_drop] at b3
      refine ⟨b1, b2, by dsimp only; omega, by dsimp only; omega, by simp, by simp⟩

set_option maxRecDepth 100000 in
set_option maxHeartbeats 1000000 in
theorem string_any (s : ByteArray) (a : Int) (w : World) (hs : s.size ≤ 140737488351232) (h1 : -9223372036854775808 ≤ a) (h2 : a ≤ 9223372036854775807) :
    Calls Tryz.prog 52 #[.string s, .int .i64 a] w fun e w' => e = .returned (V3s (strSpec s.data.toList a)) ∧ w = w' := by
  have hb := intSpec_bd s.data.toList a h1 h2
  have H0 : strSpec s.data.toList a = strSpec s.data.toList a := rfl
  conv at H0 => rhs; unfold strSpec
  obtain ⟨r, hr⟩ : ∃ r, intSpec s.data.toList a = r := ⟨_, rfl⟩
  have hcall := int_any s a w hs h1 h2
  rw [hr] at hb H0 hcall
  obtain ⟨n, x, er⟩ := r
  dsimp only at hb H0
  rw [show s.data.toList.length = s.size from by simp] at hb H0
  clear hr
  have H := Lib.hid H0; clear H0
  have HC := Lib.hid hcall; clear hcall
  by_cases he : er = 0
  · subst he
    by_cases hbad : n < 0 ∨ 65536 < n ∨ (s.size : Int) - x < n
    · rcases Classical.em (n < 0) with c1 | c1
      · go_enter Tryz.func52, Tryz.ntmps52
        go_wp2_with fail
        refine HC.out.mono ?_
        rintro e w' ⟨rfl, rfl⟩
        unfold V3
        go_wp2
        go_ret3
        exact ⟨by rw [H.out, if_neg (by omega), if_pos hbad]; rfl, rfl⟩
      · rcases Classical.em (65536 < n) with c2 | c2
        · go_enter Tryz.func52, Tryz.ntmps52
          go_wp2_with fail
          refine HC.out.mono ?_
          rintro e w' ⟨rfl, rfl⟩
          unfold V3
          go_wp2
          go_ret3
          exact ⟨by rw [H.out, if_neg (by omega), if_pos hbad]; rfl, rfl⟩
        · have c3 : (s.size : Int) - x < n := by omega
          have HB := Lib.hid hbad; clear hbad
          go_enter Tryz.func52, Tryz.ntmps52
          go_wp2_with fail
          refine HC.out.mono ?_
          rintro e w' ⟨rfl, rfl⟩
          unfold V3
          go_wp2
          go_ret3
          exact ⟨by rw [H.out, if_neg (by omega), if_pos HB.out]; rfl, rfl⟩
    · obtain ⟨m, rfl⟩ : ∃ m : Nat, n = (m : Int) := ⟨n.toNat, by omega⟩
      obtain ⟨y, rfl⟩ : ∃ y : Nat, x = (y : Int) := ⟨x.toNat, by omega⟩
      have c1 : m ≤ 65536 := by omega
      have c2 : y + m ≤ s.size := by omega
      clear hbad
      go_enter Tryz.func52, Tryz.ntmps52
      go_wp2_with fail
      refine HC.out.mono ?_
      rintro e w' ⟨rfl, rfl⟩
      unfold V3
      have hsl : ∀ wx, (Instr.slice 9 (.string s) (some (.int .i64 (y : Int))) (some (.int .i64 ((y : Int) + m))) none).run Tryz.prog wx = .ok (.string (s.extract y (y + m))) wx := fun wx => by
        have := run_slice_string (P := Tryz.prog) (w := wx) 9 s .i64 .i64 (y : Int) ((y : Int) + m) Tryz.underlying9 (by omega) (by omega) (by omega)
        rw [this, show ((y : Int) + m).toNat = y + m by omega]; rfl
      go_wp2
      go_ret3
      refine ⟨?_, rfl⟩
      rw [H.out, if_neg (by omega), if_neg (by omega)]
      exact congrArg (fun v => Ending.returned (.tuple #[.string v, .int .i64 (y + m), .int .i64 0])) (extract_list s y m)
  · go_enter Tryz.func52, Tryz.ntmps52
    go_wp2_with fail
    refine HC.out.mono ?_
    rintro e w' ⟨rfl, rfl⟩
    unfold V3
    go_wp2
    go_ret3
    exact ⟨by rw [H.out, if_pos he]; rfl, rfl⟩
end Go.Proofs.YtfiabonacpepnaaGreatDoor.Fb
namespace Go.Proofs.YtfiabonacpepnaaGreatDoor.Fb
open Go Go.RowKit Go.Lib

theorem encN_split (f : FactV) : ∀ (d k : Nat), ∃ r, encN f (k + d) = encN f k ++ r
  | 0, k => ⟨[], by simp⟩
  | d + 1, k => by
    obtain ⟨r, hr⟩ := encN_split f d k
    exact ⟨r ++ (putSpec (f.n (k + d))).1, by rw [← Nat.add_assoc, encN_succ, hr, List.append_assoc]⟩
theorem dec_here {n : Int} (h : Bd n) (a r : List UInt8) : intSpec (a ++ ((putSpec n).1 ++ r)) (a.length : Int) = (n, ((a.length + (putSpec n).1.length : Nat) : Int), 0) := by
  unfold intSpec intOk
  rw [if_neg (by rw [List.length_append]; omega), Int.toNat_natCast, List.drop_left, put_bd h, WireP.dec_enc h.1 h.2]
theorem enc_at {f : FactV} (hv : validB f = true) {k : Nat} (hk : k < 17) : intSpec (encL f) ((encN f k).length : Int) = (f.n k, ((encN f (k + 1)).length : Int), 0) := by
  obtain ⟨r, hr⟩ := encN_split f (17 - (k + 1)) (k + 1)
  rw [show k + 1 + (17 - (k + 1)) = 17 by omega, encN_succ f k] at hr
  unfold encL
  rw [hr, List.append_assoc, List.append_assoc, dec_here (valid_bd hv k hk), encN_succ f k, List.length_append]
theorem enc_text {f : FactV} (hv : validB f = true) : strSpec (encL f) ((encN f 17).length : Int) = (f.text.data.toList, ((encL f).length : Int), 0) := by
  have ht := valid_text hv
  have hl : f.text.data.toList.length = f.text.size := by simp
  obtain ⟨t, htt⟩ : ∃ t, f.text.data.toList = t := ⟨_, rfl⟩
  rw [htt] at hl ⊢
  have hp : (putStrSpec t).1 = (putSpec (t.length : Int)).1 ++ t := by
    unfold putStrSpec putSpec
    rw [if_neg (by omega), if_neg (by omega)]
  have e : encL f = encN f 17 ++ ((putSpec (t.length : Int)).1 ++ t) := by unfold encL; rw [htt, hp]
  rw [e]
  unfold strSpec
  rw [dec_here ⟨by omega, by omega⟩]
  simp only
  rw [if_neg (by simp), if_neg (by rw [List.length_append, List.length_append]; omega)]
  have e2 : List.take (t.length : Int).toNat (List.drop ((((encN f 17).length + (putSpec (t.length : Int)).1.length : Nat) : Int)).toNat (encN f 17 ++ ((putSpec (t.length : Int)).1 ++ t))) = t := by
    rw [Int.toNat_natCast, Int.toNat_natCast, ← List.append_assoc, ← List.length_append, List.drop_left, List.take_length]
  rw [e2]
  simp only [Prod.mk.injEq, true_and, and_true]
  rw [List.length_append, List.length_append]
  omega
/-- a fact's first k numbers -/
def recF (f : FactV) (k : Nat) : FactV := ⟨fun j => if j < k then f.n j else 0, ⟨#[]⟩⟩
theorem recF_set (f : FactV) (k : Nat) (hk : k < 17) : (recF f k).cells.setIfInBounds k (.int .i64 (f.n k)) = (recF f (k + 1)).cells := by
  apply Array.ext_getElem?
  intro j
  rw [Array.getElem?_setIfInBounds]
  have hs : (recF f k).cells.size = 18 := rfl
  by_cases hij : k = j
  · subst hij
    rw [if_pos rfl, if_pos (by omega), cells_get _ k hk]
    simp [recF]
  · rw [if_neg hij]
    by_cases hj : j < 17
    · rw [cells_get _ j hj, cells_get _ j hj]
      have : (j < k) = (j < k + 1) := by rw [eq_iff_iff]; omega
      simp only [recF, this]
    · by_cases h17 : j = 17
      · subst h17; rfl
      · rw [Array.getElem?_eq_none (by show 18 ≤ j; omega), Array.getElem?_eq_none (by show 18 ≤ j; omega)]
theorem recF_text (f : FactV) : (recF f 17).cells.setIfInBounds 17 (.string f.text) = f.cells := by
  simp [recF, FactV.cells]
theorem recF_zero (f : FactV) : (recF f 0).cells = zf.cells := by
  simp [recF, zf, FactV.cells]
end Go.Proofs.YtfiabonacpepnaaGreatDoor.Fb
namespace Go.Proofs.YtfiabonacpepnaaGreatDoor.Fb
open Go Go.RowKit Go.Lib Go.Shelf Go.Maps

theorem assert_nil (w : World) : (Instr.typeAssert Value.nilIface 20 63 true).run Tryz.prog w = .ok (.tuple #[.nilIface, .bool false]) w := by
  have hz : (zeroValue 63).run Tryz.prog w = .ok .nilIface w := Tryz.zeroValue63 w
  simp [Instr.typeAssert, run_underlying Tryz.underlying63, hz, Result.andThen]
set_option linter.unusedSimpArgs false in
set_option maxRecDepth 100000 in
/-- the deferred closure of a call that returns does nothing -/
theorem decode1_idle (a b : Addr) (w : World) : CallsD Tryz.prog 48 #[.pointer (some a), .pointer (some b)] .returning w fun e u' w' => e = .returned (.tuple #[]) ∧ u' = .returning ∧ w' = w := by
  have hta := fun w => assert_nil w
  refine callsD_of_wpS Tryz.func48 rfl fun c₀ cs hu => ?_
  apply wpS_seq
  apply wpS_region
  simp [wpOpsS, go_sem, recoverD, hu, Tryz.ntmps48, Exit.thenS, hta]
  apply wpS_seq
  apply wpS_region
  simp [wpOpsS, go_sem, Region.wanted, yielded, recoverD, hu, Tryz.ntmps48, Exit.thenS, Array.replicate]
  refine wpS_cond (t := false) (by simp [Act.eval, Array.replicate]) ?_
  simp only [Bool.false_eq_true, if_false]
  refine wpS_of_wp (wp_skip ?_)
  cases c₀
  simp_all [bodyPostS, results, Tryz.results48]
theorem check_ok (w : World) : Calls Tryz.prog 51 #[.int .i64 0] w fun e w' => e = .returned (.tuple #[]) ∧ w = w' := by
  go_enter Tryz.func51, Tryz.ntmps51
  go_wp2
  first | go_end0 | (refine bodyPost_ret (results_none rfl _ _ _) rfl ?_)
  all_goals first | done | exact ⟨rfl, rfl⟩
theorem results_two {P : Program} {fn : Func} {p q : Tmp} {ty ty2 : TypeId} (h : fn.results = #[.cell p ty, .cell q ty2]) (tmps : Array Value) (w : World) (ad ad2 : Addr) (v v2 : Value) (hp : tmps.getD p undef = .pointer (some ad)) (hq : tmps.getD q undef = .pointer (some ad2))
    (hl : (loadVar ty ad).run P w = .ok v w) (hl2 : (loadVar ty2 ad2).run P w = .ok v2 w) : (results fn tmps).run P w = .ok (.tuple #[v, v2]) w := by
  have hp' : tmps[p]?.getD undef = .pointer (some ad) := by simpa using hp
  have hq' : tmps[q]?.getD undef = .pointer (some ad2) := by simpa using hq
  simp [results, h, hp', hq', asAddr, hl, hl2]
theorem errno_load (W : World) (b : Nat) (h : RowAt W b 29 #[.int .i64 0]) : (loadVar 29 ⟨b, 0, none⟩).run Tryz.prog W = .ok (.int .i64 0) W := by
  have hc : W.cell? ⟨b, 0, none⟩ = some (.int .i64 0) := h.cell 0
  simp [loadVar, hc, go_sem]
theorem below_setCellF {B g i : Nat} {u : Value} {a w : World} (h : Below B a w) (hg : B ≤ g) : Below B a (w.setCell ⟨g, i, none⟩ u) :=
  ⟨h.os, h.tape, h.output, by simpa [World.setCell] using h.size, fun k hk => (Below.heap_setCell w ⟨g, i, none⟩ u k (by show k ≠ g; omega)).trans (h.block k hk)⟩
set_option linter.unusedSimpArgs false in
set_option maxRecDepth 100000 in
set_option maxHeartbeats 16000000 in
theorem decode_good (f : FactV) (w : World) (hok : FactOk f) (hv : validB f = true) :
    Calls Tryz.prog 26 #[.string ⟨(encL f).toArray⟩] w fun e w' => e = .returned (.tuple #[.agg f.cells, .int .i64 0]) ∧ Below w.heap.size w w' := by
  have hmf : ∀ (fn : Fn) (first cap : Array Value) (w : World), (Instr.makeFunc fn first cap).run Tryz.prog w = .ok (.func fn first cap) w := fun _ _ _ _ => rfl
  have ht := valid_text hv
  have hEl : (encL f).length ≤ 3000 := by
    have h1 := encN_len f 17
    have h2 := putStrSpec_len f.text.data.toList
    have h3 : f.text.data.toList.length = f.text.size := by simp
    unfold encL
    rw [List.length_append]
    omega
  obtain ⟨a, ha⟩ : ∃ a : Nat → Nat, ∀ k, (encN f k).length = a k := ⟨_, fun _ => rfl⟩
  have hab : ∀ k, k ≤ 17 → a k ≤ 200 := fun k hk => by have := encN_len f k; rw [ha] at this; omega
  have HAB := Lib.hid hab
  have HA0 : Hid (a 0 = 0) := Lib.hid (by rw [← ha]; rfl)
  have HIN : Hid (∀ k, k < 17 → ∀ W, Calls Tryz.prog 50 #[.string ⟨(encL f).toArray⟩, .int .i64 (a k : Int)] W fun e w' => e = .returned (.tuple #[.int .i64 (f.n k), .int .i64 (a (k + 1) : Int), .int .i64 0]) ∧ W = w') := Lib.hid (fun k hk W => by
    have h1 := int_any ⟨(encL f).toArray⟩ (a k) W (by show (encL f).length ≤ _; omega) (by omega) (by have := hab k (by omega); omega)
    have h2 := enc_at hv hk
    rw [ha, ha] at h2
    rw [show (⟨(encL f).toArray⟩ : ByteArray).data.toList = encL f from rfl, h2] at h1
    exact h1)
  obtain ⟨T, hT⟩ : ∃ T, f.text.data.toList = T := ⟨_, rfl⟩
  have HTT : Hid (f.text = ⟨T.toArray⟩) := Lib.hid (by rw [← hT])
  obtain ⟨el, hel⟩ : ∃ z, (encL f).length = z := ⟨_, rfl⟩
  have HST : Hid (∀ W, Calls Tryz.prog 52 #[.string ⟨(encL f).toArray⟩, .int .i64 (a 17 : Int)] W fun e w' => e = .returned (.tuple #[.string ⟨T.toArray⟩, .int .i64 (el : Int), .int .i64 0]) ∧ W = w') := Lib.hid (fun W => by
    have h1 := string_any ⟨(encL f).toArray⟩ (a 17) W (by show (encL f).length ≤ _; omega) (by omega) (by have := hab 17 (by omega); omega)
    have h2 := enc_text hv
    rw [ha, hT, hel] at h2
    rw [show (⟨(encL f).toArray⟩ : ByteArray).data.toList = encL f from rfl, h2] at h1
    exact h1)
  have HVA := Lib.hid (fun W => valid_any f W (hok 0).1 (hok 0).2)
  simp only [hv] at HVA
  obtain ⟨E, hE⟩ : ∃ z, encL f = z := ⟨_, rfl⟩
  rw [hE] at HIN HST hel hEl ⊢
  obtain ⟨N, hN⟩ : ∃ z, w.heap.size = z := ⟨_, rfl⟩
  have HNN := Lib.hid hN
  obtain ⟨W3, hW3⟩ : ∃ z, ((w.alloc (.cells #[.int .i64 0, .int .i64 0, .int .i64 0, .int .i64 0, .int .i64 0, .int .i64 0, .int .i64 0, .int .i64 0, .int .i64 0, .int .i64 0, .int .i64 0, .int .i64 0, .int .i64 0, .int .i64 0, .int .i64 0, .int .i64 0, .int .i64 0, .string ⟨#[]⟩] 47)).alloc (.cells #[.int .i64 0] 29)).alloc (.cells #[.int .i64 0, .int .i64 0, .int .i64 0, .int .i64 0, .int .i64 0, .int .i64 0, .int .i64 0, .int .i64 0, .int .i64 0, .int .i64 0, .int .i64 0, .int .i64 0, .int .i64 0, .int .i64 0, .int .i64 0, .int .i64 0, .int .i64 0, .string ⟨#[]⟩] 76) = z := ⟨_, rfl⟩
  have H3 : Hid (RowAt W3 N 47 zf.cells ∧ RowAt W3 (N + 1) 29 #[.int .i64 0] ∧ RowAt W3 (N + 1 + 1) 76 (recF f 0).cells ∧ Below N w W3) := Lib.hid (by
    have r0 := RowAt.new w 47 zf.cells
    have r1 := RowAt.new (w.alloc (.cells zf.cells 47)) 29 #[.int .i64 0]
    have r2 := RowAt.new ((w.alloc (.cells zf.cells 47)).alloc (.cells #[.int .i64 0] 29)) 76 zf.cells
    have b := ((((Below.refl w.heap.size w).alloc (Nat.le_refl _) (.cells zf.cells 47)).alloc (by simp) (.cells #[.int .i64 0] 29)).alloc (by simp; omega) (.cells zf.cells 76))
    rw [recF_zero, ← hN, ← hW3]
    simp only [World.size_alloc] at r1 r2
    exact ⟨(r0.alloc _).alloc _, r1.alloc _, r2, b⟩)
  have HW3 := Lib.hid hW3
  have HEL := Lib.hid hel
  clear hok hv ht hab ha hT hE hW3
  go_enter_defers Tryz.func26, Tryz.ntmps26
  go_upto_region 4 with fail
  rw [HW3.out]
  clear hN
  go_wp2_with fail
  refine (fnumbers_any (N + 1 + 1) _).mono ?_
  rintro e W4 ⟨rfl, hb4⟩
  have H4 : Hid (RowAt W4 N 47 zf.cells ∧ RowAt W4 (N + 1) 29 #[.int .i64 0] ∧ RowAt W4 (N + 1 + 1) 76 (recF f 0).cells ∧ Below N w W4) := Lib.hid ⟨H3.out.1.below hb4 H3.out.1.lt, H3.out.2.1.below hb4 H3.out.2.1.lt, H3.out.2.2.1.below hb4 H3.out.2.2.1.lt, H3.out.2.2.2.trans (hb4.mono (Nat.le_of_lt H3.out.1.lt))⟩
  clear hb4
  obtain ⟨PS, hPS⟩ : ∃ z, ptrs (N + 1 + 1) = z := ⟨_, rfl⟩
  have HPS := Lib.hid hPS
  rw [hPS]
  clear hPS
  go_wp2_with fail
  go_loopw [5, 18] (fun v5 v18 wr => ∃ k : Nat, v18 = .int .i64 k ∧ k ≤ 17 ∧ v5 = .int .i64 (a k) ∧ Hid (RowAt wr N 47 zf.cells ∧ RowAt wr (N + 1) 29 #[.int .i64 0] ∧ RowAt wr (N + 1 + 1) 76 (recF f k).cells ∧ Below N w wr)) (fun _ v18 _ => 17 - (RowKit.intOf v18).toNat)
  case atStart => exact ⟨0, rfl, by omega, by rw [HA0.out]; rfl, H4⟩
  case round =>
    obtain ⟨k, rfl, hk, rfl, HS⟩ := hrel
    by_cases hk2 : k < 17
    · have hkd : decide ((k : Int) < 17) = true := by simp; omega
      have hix := index_ptrs (N + 1 + 1) k hk2
      rw [HPS.out] at hix
      have ha1 := HAB.out k hk
      have ha2 := HAB.out (k + 1) (by omega)
      have HCALL := Lib.hid (HIN.out k hk2)
      have HSET := Lib.hid (recF_set f k hk2)
      obtain ⟨x, hx⟩ : ∃ z, f.n k = z := ⟨_, rfl⟩
      rw [hx] at HCALL HSET
      obtain ⟨a2, ha3⟩ : ∃ z, a (k + 1) = z := ⟨_, rfl⟩
      rw [ha3] at HCALL ha2
      have HA2 := Lib.hid ha3
      have fM : wr.frozen? ⟨N + 1 + 1, k, none⟩ = false := HS.out.2.2.1.free k
      have cM : wr.cell? ⟨N + 1 + 1, k, none⟩ = some (.int .i64 0) := by rw [HS.out.2.2.1.cell, cells_get _ k hk2]; simp [recF]
      clear hx ha3
      go_wp2_with fail
      refine (HCALL.out _).mono ?_
      rintro e W5 ⟨rfl, rfl⟩
      go_wp2_with fail
      refine (check_ok _).mono ?_
      rintro e W6 ⟨rfl, rfl⟩
      go_wp2_with fail
      go_roundw
      case rel => exact ⟨k + 1, by go_num, by omega, by rw [HA2.out], Lib.hid ⟨HS.out.1.far (p := ⟨N + 1 + 1, k, none⟩) (by show N ≠ N + 1 + 1; omega) _, HS.out.2.1.far (p := ⟨N + 1 + 1, k, none⟩) (by show N + 1 ≠ N + 1 + 1; omega) _, by rw [← HSET.out]; exact HS.out.2.2.1.set k _, below_setCellF HS.out.2.2.2 (by omega)⟩⟩
      case measure => simp [RowKit.intOf]; omega
    · obtain rfl : k = 17 := by omega
      have ha17 := HAB.out 17 hk
      have fE : wr.frozen? ⟨N + 1, 0, none⟩ = false := HS.out.2.1.free 0
      have cE : wr.cell? ⟨N + 1, 0, none⟩ = some (.int .i64 0) := HS.out.2.1.cell 0
      obtain ⟨W6, hW6⟩ : ∃ z, wr.setCell ⟨N + 1, 0, none⟩ (.int .i64 0) = z := ⟨_, rfl⟩
      have H6 : Hid (RowAt W6 N 47 zf.cells ∧ RowAt W6 (N + 1) 29 #[.int .i64 0] ∧ RowAt W6 (N + 1 + 1) 76 (recF f 17).cells ∧ Below N w W6) := Lib.hid (by
        rw [← hW6]
        exact ⟨HS.out.1.far (p := ⟨N + 1, 0, none⟩) (by show N ≠ N + 1; omega) _, HS.out.2.1.set 0 _, HS.out.2.2.1.far (p := ⟨N + 1, 0, none⟩) (by show N + 1 + 1 ≠ N + 1; omega) _, below_setCellF HS.out.2.2.2 (by omega)⟩)
      have HW6 := Lib.hid hW6
      clear hW6
      go_wp2_with fail
      refine (HST.out _).mono ?_
      rintro e W5 ⟨rfl, rfl⟩
      go_upto_region 12 with fail
      rw [HW6.out]
      have cE6 : W6.cell? ⟨N + 1, 0, none⟩ = some (.int .i64 0) := H6.out.2.1.cell 0
      have fM : W6.frozen? ⟨N + 1 + 1, 17, none⟩ = false := H6.out.2.2.1.free 17
      have cM : W6.cell? ⟨N + 1 + 1, 17, none⟩ = some (.string ⟨#[]⟩) := by rw [H6.out.2.2.1.cell]; rfl
      obtain ⟨W7, hW7⟩ : ∃ z, W6.setCell ⟨N + 1 + 1, 17, none⟩ (.string ⟨T.toArray⟩) = z := ⟨_, rfl⟩
      have H7 : Hid (RowAt W7 N 47 zf.cells ∧ RowAt W7 (N + 1) 29 #[.int .i64 0] ∧ RowAt W7 (N + 1 + 1) 76 f.cells ∧ Below N w W7) := Lib.hid (by
        rw [← hW7, ← recF_text f, HTT.out]
        exact ⟨H6.out.1.far (p := ⟨N + 1 + 1, 17, none⟩) (by show N ≠ N + 1 + 1; omega) _, H6.out.2.1.far (p := ⟨N + 1 + 1, 17, none⟩) (by show N + 1 ≠ N + 1 + 1; omega) _, H6.out.2.2.1.set 17 _, below_setCellF H6.out.2.2.2 (by omega)⟩)
      have HW7 := Lib.hid hW7
      have hel2 : decide (el < el) = false := by simp
      clear hW7
      go_wp2_with fail
      refine (check_ok _).mono ?_
      rintro e W8 ⟨rfl, rfl⟩
      go_upto_region 16 with fail
      rw [HW7.out]
      obtain ⟨cf, hcf⟩ : ∃ z, f.cells = z := ⟨_, rfl⟩
      have HI : Hid ((Tryz.prog.info? 47).map (·.size) = some f.cells.size ∧ f.cells.all (·.oneCell') = true ∧ zf.cells.size = f.cells.size) := Lib.hid ⟨fact_size, f.cells_one, rfl⟩
      have HFL := Lib.hid (fun W h => fact_load W N f h)
      rw [hcf] at HI HFL H7
      have HCF := Lib.hid hcf
      simp only [hcf] at HVA
      have HL7 : Hid (∀ j v, cf[j]? = some v → W7.cell? ⟨N + 1 + 1, 0 + j, none⟩ = some v) := Lib.hid (fun j v h => by rw [Nat.zero_add, H7.out.2.2.1.cell]; exact h)
      clear hcf
      go_wp2_with (first | ((with_reducible refine load_at (o := ⟨some 57, _, _, _, _, _⟩) (.tmp 56) (N + 1 + 1) 0 cf HL7.out HI.out.1 ?_ ?_ ?_ ?_); rfl; rfl; rfl))
      refine (HVA.out _).mono ?_
      rintro e W8 ⟨rfl, hb8⟩
      have H8 : Hid (RowAt W8 N 47 zf.cells ∧ RowAt W8 (N + 1) 29 #[.int .i64 0] ∧ RowAt W8 (N + 1 + 1) 76 cf ∧ Below N w W8) := Lib.hid ⟨H7.out.1.below hb8 H7.out.1.lt, H7.out.2.1.below hb8 H7.out.2.1.lt, H7.out.2.2.1.below hb8 H7.out.2.2.1.lt, H7.out.2.2.2.trans (hb8.mono (Nat.le_of_lt H7.out.1.lt))⟩
      have HL8 : Hid (∀ j v, cf[j]? = some v → W8.cell? ⟨N + 1 + 1, 0 + j, none⟩ = some v) := Lib.hid (fun j v h => by rw [Nat.zero_add, H8.out.2.2.1.cell]; exact h)
      have hr9 : RowAt (W8.setRow N cf) (N + 1) 29 #[.int .i64 0] := (setRow_far (by omega)).trans H8.out.2.1
      have fE9 : (W8.setRow N cf).frozen? ⟨N + 1, 0, none⟩ = false := hr9.free 0
      have cE9 : (W8.setRow N cf).cell? ⟨N + 1, 0, none⟩ = some (.int .i64 0) := hr9.cell 0
      have HEND : Hid (RowAt ((W8.setRow N cf).setCell ⟨N + 1, 0, none⟩ (.int .i64 0)) N 47 cf ∧ RowAt ((W8.setRow N cf).setCell ⟨N + 1, 0, none⟩ (.int .i64 0)) (N + 1) 29 #[.int .i64 0] ∧ Below N w ((W8.setRow N cf).setCell ⟨N + 1, 0, none⟩ (.int .i64 0))) := Lib.hid ⟨(setRow_at H8.out.1 : RowAt (W8.setRow N cf) N 47 cf).far (p := ⟨N + 1, 0, none⟩) (by show N ≠ N + 1; omega) _, hr9.set 0 _, below_setCellF (below_setR H8.out.2.2.2 (Nat.le_refl _)) (by omega)⟩
      clear hb8 hr9
      go_wp2_with (first | ((with_reducible refine load_at (o := ⟨some 64, _, _, _, _, _⟩) (.tmp 63) (N + 1 + 1) 0 cf HL8.out HI.out.1 ?_ ?_ ?_ ?_); rfl; rfl; rfl) | ((with_reducible refine store_fact_row (o := ⟨none, _, _, _, _, _⟩) (.tmp 2) (.tmp 64) N cf _ H8.out.1 HI.out.1 HI.out.2.2 HI.out.2.1 ?_ ?_ ?_ ?_ ?_); rfl; rfl; rfl; rfl))
      refine leaves_cons (f := 48) (args := #[.pointer (some ⟨N, 0, none⟩), .pointer (some ⟨N + 1, 0, none⟩)]) (by simp) (by simp [go_sem]) ?_
      refine (decode1_idle ⟨N, 0, none⟩ ⟨N + 1, 0, none⟩ _).mono ?_
      rintro e u' w'' ⟨rfl, rfl, rfl⟩
      refine ⟨_, results_two rfl _ _ _ _ _ _ rfl rfl (HFL.out _ HEND.out.1) (errno_load _ _ HEND.out.2.1), by rw [HCF.out], by rw [HNN.out]; exact HEND.out.2.2⟩
end Go.Proofs.YtfiabonacpepnaaGreatDoor.Fb
