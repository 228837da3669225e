/- PutInt of package wire: the walk. -/
import Derived.Test.YtfiabonacpepnaaGreatDoorWireG
namespace Go.Proofs.YtfiabonacpepnaaGreatDoor.Fb
open Go Go.RowKit Go.Shelf
attribute [local go_sem] Oper.semAt_some

theorem or128 (z : Nat) : bits BinOp.or IntKind.u8 ((z : Int) % 128) 128 = ((z % 128 + 128 : Nat) : Int) := by
  have h := u8_or_nat (z % 128) 128 (by omega) (by omega)
  have h2 : z % 128 ||| 128 = z % 128 + 128 := by
    have := Nat.two_pow_add_eq_or_of_lt (i := 7) (b := z % 128) (by omega) 1
    simp only [Nat.reducePow, Nat.mul_one] at this
    rw [Nat.or_comm]
    omega
  rw [h2] at h
  rw [show (z : Int) % 128 = ((z % 128 : Nat) : Int) by omega]
  exact h

set_option maxRecDepth 100000 in
set_option maxHeartbeats 4000000 in
theorem putInt_in (k : Int) (w : World) (h0 : -4611686018427387903 ≤ k) (h1 : k ≤ 4611686018427387903) :
    CallsIn Fence.wide 9 Tryz.prog 46 #[.int .i64 k] w fun e w' => e = .returned (.tuple #[.string ⟨(WireP.enc (WireP.zz k)).toArray⟩, .int .i64 0]) ∧ Below w.heap.size w w' := by
  have d1 : decide (k < -4611686018427387903) = false := by simp; omega
  have d2 : decide (4611686018427387903 < k) = false := by simp; omega
  have hzlt := WireP.zz_lt h0 h1
  obtain ⟨i0, hi, hz0, hz1, hz2⟩ := info_parts info_u8
  refine callsIn_of_wp_marks Tryz.func46 rfl trivial ?_ rfl
  simp only [Tryz.ntmps46, List.size_toArray, List.length_cons, List.length_nil, Nat.reduceAdd, Nat.reduceSub, Array.replicate_succ, Array.replicate_zero, List.push_toArray, List.append_toArray, List.nil_append, List.cons_append]
  gi_wp2_with fail
  rw [zig_eq k h0 h1]
  refine ⟨trivial, callsIn_wide.2 ((groups_any (WireP.zz k) _).mono ?_)⟩
  rintro e w' ⟨rfl, rfl⟩
  gi_wp2_with fail
  have bO := Boxed.new w 59 (.slice none 0 0)
  have bZ := Boxed.new (w.alloc (.cells #[.slice none 0 0] 59)) 128 (.int .u64 (WireP.zz k : Nat))
  rw [World.size_alloc] at bZ
  refine range_groups (z := WireP.zz k) (by omega) rfl rfl bZ (by omega) (PutAt k w) (PutEnd k w) (putAt_calm k w) (putEnd_calm k w)
    ⟨[], 8, _, rfl, by omega, rfl, bO.alloc _, World.ownsRow_nil _ _ _ _, ((Below.refl _ w).alloc (Nat.le_refl _) _).alloc (by simp) _, by simp⟩
    (fun z => { tmps := #[Value.int IntKind.i64 k, undef, Value.string { data := #[] }, Value.int IntKind.i64 0,
                    Value.pointer (some { block := w.heap.size, off := 0 }), .int .u8 ((z : Int) % 128), .bool (decide ((z : Int) < 128)), Value.int IntKind.i64 k,
                    Value.bool false, Value.bool false, Value.int IntKind.i64 k, Value.bool false, Value.bool false,
                    Value.int IntKind.i64 k, Value.int IntKind.u64 (IntKind.u64.wrap k),
                    Value.int IntKind.u64 (IntKind.u64.wrap (IntKind.u64.wrap k * 2)), Value.int IntKind.i64 k,
                    Value.int IntKind.i64 (k / 9223372036854775808),
                    Value.int IntKind.u64 (IntKind.u64.wrap (k / 9223372036854775808)),
                    Value.int IntKind.u64 (WireP.zz k : Nat),
                    Value.func (Fn.func 115) #[] #[Value.pointer (some { block := w.heap.size + 1, off := 0 })], .int .u8 ((z : Int) % 128), .bool (decide ((z : Int) < 128)),
                    undef, undef, undef, undef, undef, undef, undef, undef, undef, undef], defers := [] }) ?assign ?body ?done
  case assign =>
    intro l z W K hK
    gi_wp2
    exact hK
  case body =>
    rintro l z W ⟨done, f, v, g1, g2, g3, g4, g5, g6, g7⟩ hz
    have hc := g4.cell
    have hf := g4.frozen
    have hor := or128 z
    have hlen : done.length ≤ 8 := by omega
    clear d1 d2
    by_cases h128 : z < 128
    · have d3 : decide ((z : Int) < 128) = true := by simp; omega
      rw [d3]
      gi_wp2_with (gi_at_builtin; refine wpListIn_append_own _ rfl _ _ 59 rfl (w.heap.size + 2) 5 i0 (.int .u8 0) 1 1 Tryz.underlying59 hi hz0 hz1 hz2 rfl (by decide) _ _ _ rfl (g5.alloc _) ⟨W.heap.size, 0, none⟩ 1 1 _ rfl (by rfl) (cell_one_new _ _ _) (by simp [Value.oneCell']) (by unfold maxLen; omega) (by omega) (by simp; omega) ?_; intro v' w1 hown' hgrow _; obtain ⟨g', cap', rfl⟩ := ownsRow_succ hown'; obtain ⟨hv1, hv2, hr2, hk2, hb2, hz2, hs2⟩ := put_appended g4 g5 g7 hown' hgrow; have hc1 := hv1.cell; have hf1 := hv1.frozen)
      have e : (((UInt8.ofNat z).toNat : Nat) : Int) = (z : Int) % 128 := by
        rw [WireP.ofNat_toNat (by omega)]; omega
      have R := putAt_step (b := UInt8.ofNat z) g1 g2 g3 (by rw [if_pos h128]) hv2 (by rw [e]; exact hr2) (g6.trans hb2) hs2
      rwa [if_pos h128] at R
    · have d3 : decide ((z : Int) < 128) = false := by simp; omega
      rw [d3]
      gi_wp2_with (gi_at_builtin; refine wpListIn_append_own _ rfl _ _ 59 rfl (w.heap.size + 2) 5 i0 (.int .u8 0) 1 1 Tryz.underlying59 hi hz0 hz1 hz2 rfl (by decide) _ _ _ rfl (g5.alloc _) ⟨W.heap.size, 0, none⟩ 1 1 _ rfl (by rfl) (cell_one_new _ _ _) (by simp [Value.oneCell']) (by unfold maxLen; omega) (by omega) (by simp; omega) ?_; intro v' w1 hown' hgrow _; obtain ⟨g', cap', rfl⟩ := ownsRow_succ hown'; obtain ⟨hv1, hv2, hr2, hk2, hb2, hz2, hs2⟩ := put_appended g4 g5 g7 hown' hgrow; have hc1 := hv1.cell; have hf1 := hv1.frozen)
      have e : (((UInt8.ofNat (z % 128 + 128)).toNat : Nat) : Int) = ((z % 128 + 128 : Nat) : Int) := by
        rw [WireP.ofNat_toNat (by omega)]
      have R := putAt_step (b := UInt8.ofNat (z % 128 + 128)) g1 g2 g3 (by rw [if_neg h128]) hv2 (by rw [e]; exact hr2) (g6.trans hb2) hs2
      rwa [if_neg h128] at R
  case done =>
    rintro D W hD ⟨v, g1, g2, g3, g4⟩ hK
    have hlen : (WireP.enc (WireP.zz k)).length = ((WireP.enc (WireP.zz k)).length - 1) + 1 := by
      have := WireP.encF_pos 8 (WireP.zz k)
      unfold WireP.enc; omega
    rw [hlen] at g2
    obtain ⟨g, cap, rfl⟩ := ownsRow_succ g2
    have hc := g1.cell
    have hcv := run_string_of_row (P := Tryz.prog) W 59 9 5 ⟨g, 0, none⟩ ((WireP.enc (WireP.zz k)).length - 1 + 1) cap (WireP.enc (WireP.zz k)) Tryz.underlying59 Tryz.underlying5 Tryz.underlying9 hlen (g2.cells rfl)
    clear hlen d1 d2
    gi_wp2
    refine ⟨by simp, .inl ⟨_, _, rfl, run_takeDeferred hK, ?_⟩⟩
    exact ⟨_, results_tmp2 rfl _ _ _, rfl, g3.grown (grownBy_putObj' W D _) g3.size (fun r e => by cases e; simp at hD; omega)⟩
end Go.Proofs.YtfiabonacpepnaaGreatDoor.Fb
