/- math/bits.Div64 at a million. -/
import Derived.Test.YtejkgnlflhngbaaAmtA
namespace Go.Proofs.Ytejkgnlflhngbaa
open Go Go.RowKit Go.Lib

set_option maxRecDepth 100000 in
set_option maxHeartbeats 1000000 in
theorem div64_small (lo : Nat) (hlo : lo < 18446744073709551616) (w : World) :
    Calls Try.prog 59 #[.int .u64 0, .int .u64 (lo : Int), .int .u64 1000000] w fun e w' => e = .returned (.tuple #[.int .u64 ((lo / 1000000 : Nat) : Int), .int .u64 ((lo % 1000000 : Nat) : Int)]) ∧ ∃ n, w' = w.drewN n := by
  obtain ⟨q, hq⟩ : ∃ q, lo / 1000000 = q := ⟨_, rfl⟩
  obtain ⟨r, hr⟩ : ∃ r, lo % 1000000 = r := ⟨_, rfl⟩
  have hq' : (lo : Int) / 1000000 = (q : Int) := by omega
  have hr' : (lo : Int) % 1000000 = (r : Int) := by omega
  have hw : IntKind.u64.wrap (q : Int) = (q : Int) := AmtP.wrapN q (by omega)
  rw [hq, hr]
  clear hlo hq hr
  go_enter Try.func59, Try.ntmps59
  go_wp2_with fail
  go_quiet (fail)
  go_wp2_with fail
  go_ret2
  exact ⟨by rw [← hr']; rfl, _, rfl⟩

theorem u64_or_add (h l : Nat) (hl : l < 17592186044416) (hh : h < 1048576) : bits .or .u64 ((h * 17592186044416 : Nat) : Int) (l : Int) = ((h * 17592186044416 + l : Nat) : Int) := by
  rw [bits_or_u64_nat _ _ (by omega) (by omega)]
  congr 1
  have := Nat.two_pow_add_eq_or_of_lt (i := 44) (b := l) (by omega) h
  rw [show (17592186044416 : Nat) = 2 ^ 44 by decide, Nat.mul_comm, ← this]

structure DivEqs (hi lo y Y N H L U G u q R V q' R' Q r : Nat) : Prop where
  e1 : IntKind.u64.wrap ((y : Int) * 17592186044416) = (Y : Int)
  e2 : (Y : Int) / 4294967296 = (N : Int)
  e3 : bits .and .u64 (Y : Int) 4294967295 = 0
  e4 : IntKind.u64.wrap ((hi : Int) * 17592186044416) = (H : Int)
  e5 : (lo : Int) / 1048576 = (L : Int)
  e6 : bits .or .u64 (H : Int) (L : Int) = (U : Int)
  e7 : IntKind.u64.wrap ((lo : Int) * 17592186044416) = (G : Int)
  e8 : (G : Int) / 4294967296 = (u : Int)
  e9 : bits .and .u64 (G : Int) 4294967295 = 0
  f1 : (U : Int) / (N : Int) = (q : Int)
  f0 : IntKind.u64.wrap (q : Int) = (q : Int)
  g0 : IntKind.u64.wrap (q' : Int) = (q' : Int)
  f2 : IntKind.u64.wrap ((U : Int) - IntKind.u64.wrap ((q : Int) * (N : Int))) = (R : Int)
  f3 : decide (4294967296 ≤ (q : Int)) = false
  f4 : 0 ≤ IntKind.u64.wrap (IntKind.u64.wrap (4294967296 * (R : Int)) + (u : Int))
  f5 : IntKind.u64.wrap (IntKind.u64.wrap (IntKind.u64.wrap ((U : Int) * 4294967296) + (u : Int)) - IntKind.u64.wrap ((q : Int) * (Y : Int))) = (V : Int)
  g1 : (V : Int) / (N : Int) = (q' : Int)
  g2 : IntKind.u64.wrap ((V : Int) - IntKind.u64.wrap ((q' : Int) * (N : Int))) = (R' : Int)
  g3 : decide (4294967296 ≤ (q' : Int)) = false
  g4 : 0 ≤ IntKind.u64.wrap (4294967296 * (R' : Int))
  h1 : IntKind.u64.wrap (IntKind.u64.wrap ((q : Int) * 4294967296) + (q' : Int)) = (Q : Int)
  h2 : IntKind.u64.wrap (IntKind.u64.wrap (IntKind.u64.wrap ((V : Int) * 4294967296)) - IntKind.u64.wrap ((q' : Int) * (Y : Int))) / 17592186044416 = (r : Int)
  k1 : Q = (hi * 18446744073709551616 + lo) / 1000000
  k2 : r = (hi * 18446744073709551616 + lo) % 1000000
  n1 : 1 ≤ N

theorem w_mul {a b p : Nat} (hp : p = a * b) (h : p < 18446744073709551616) : IntKind.u64.wrap ((a : Int) * (b : Int)) = (p : Int) := by
  rw [AmtP.mulN, ← hp, AmtP.wrapN _ h]
theorem w_mul_sub {U q N R : Nat} (h : U = q * N + R) (hU : U < 18446744073709551616) : IntKind.u64.wrap ((U : Int) - IntKind.u64.wrap ((q : Int) * (N : Int))) = (R : Int) := by
  obtain ⟨p, hp⟩ : ∃ p, p = q * N := ⟨_, rfl⟩
  rw [← hp] at h
  rw [w_mul hp (by omega), show (U : Int) - (p : Int) = (R : Int) by omega, AmtP.wrapN _ (by omega)]
theorem w_add_l (a b : Int) : IntKind.u64.wrap (IntKind.u64.wrap a + b) = IntKind.u64.wrap (a + b) := by
  rw [IntKind.wrap_u64, IntKind.wrap_u64, IntKind.wrap_u64]; omega
theorem w_sub (a b : Int) : IntKind.u64.wrap (IntKind.u64.wrap a - IntKind.u64.wrap b) = IntKind.u64.wrap (a - b) := by
  rw [IntKind.wrap_u64, IntKind.wrap_u64, IntKind.wrap_u64, IntKind.wrap_u64]; omega
theorem w_idem (a : Int) : IntKind.u64.wrap (IntKind.u64.wrap a) = IntKind.u64.wrap a := by
  rw [IntKind.wrap_u64, IntKind.wrap_u64]; omega
theorem w_nonneg (a : Int) : 0 ≤ IntKind.u64.wrap a := by rw [IntKind.wrap_u64]; omega
theorem w_step {U u q N Y R V : Nat} (hY : Y = N * 4294967296) (hU : U = q * N + R) (hV : V = R * 4294967296 + u) (h : V < 18446744073709551616) :
    IntKind.u64.wrap (IntKind.u64.wrap (IntKind.u64.wrap ((U : Int) * 4294967296) + (u : Int)) - IntKind.u64.wrap ((q : Int) * (Y : Int))) = (V : Int) := by
  rw [w_add_l, w_sub]
  have e : (q : Int) * (Y : Int) = ((q * N : Nat) : Int) * 4294967296 := by
    rw [hY, Int.natCast_mul, Int.natCast_mul, Int.mul_assoc]; rfl
  rw [e]
  obtain ⟨p, hp⟩ : ∃ p, q * N = p := ⟨_, rfl⟩
  rw [hp] at hU ⊢
  rw [show (U : Int) * 4294967296 + (u : Int) - (p : Int) * 4294967296 = (V : Int) by omega, AmtP.wrapN _ h]
set_option maxRecDepth 100000 in
theorem w_step0 {U q N Y R V : Nat} (hY : Y = N * 4294967296) (hU : U = q * N + R) (hV : V = R * 4294967296) (h : V < 18446744073709551616) :
    IntKind.u64.wrap (IntKind.u64.wrap ((U : Int) * 4294967296) - IntKind.u64.wrap ((q : Int) * (Y : Int))) = (V : Int) := by
  rw [w_sub]
  have e : (q : Int) * (Y : Int) = ((q * N : Nat) : Int) * 4294967296 := by
    rw [hY, Int.natCast_mul, Int.natCast_mul, Int.mul_assoc]; rfl
  rw [e]
  obtain ⟨p, hp⟩ : ∃ p, q * N = p := ⟨_, rfl⟩
  rw [hp] at hU ⊢
  rw [show (U : Int) * 4294967296 - (p : Int) * 4294967296 = (V : Int) by omega, AmtP.wrapN _ h]
theorem w_shl44 {a p : Nat} (hp : p = a * 17592186044416) (h : p < 18446744073709551616) : IntKind.u64.wrap ((a : Int) * 17592186044416) = (p : Int) := by
  rw [show (a : Int) * 17592186044416 = (p : Int) by omega, AmtP.wrapN _ h]
theorem w_comb {q q' Q : Nat} (hQ : Q = q * 4294967296 + q') (h : Q < 18446744073709551616) : IntKind.u64.wrap (IntKind.u64.wrap ((q : Int) * 4294967296) + (q' : Int)) = (Q : Int) := by
  rw [w_add_l, show (q : Int) * 4294967296 + (q' : Int) = (Q : Int) by omega, AmtP.wrapN _ h]

theorem div_nat {hi lo L l0 U q R V q' R' N : Nat} (hN : N = 4096000000) (hlo2 : lo = L * 1048576 + l0) (hU : U = hi * 17592186044416 + L) (hUq : U = q * N + R) (hV : V = R * 4294967296 + l0 * 4096)
    (hVq : V = q' * N + R') (hR2' : R' < N) : q * 4294967296 + q' = (hi * 18446744073709551616 + lo) / 1000000 ∧ R' / 4096 = (hi * 18446744073709551616 + lo) % 1000000 := by
  subst hN
  obtain ⟨t, ht⟩ : ∃ t, R' = 4096 * t := ⟨R' / 4096, by omega⟩
  have key : hi * 18446744073709551616 + lo = 1000000 * (q * 4294967296 + q') + t := by omega
  have ht2 : t < 1000000 := by omega
  have e3 : R' / 4096 = t := by omega
  rw [key, Nat.mul_add_div (by omega), Nat.div_eq_of_lt ht2, Nat.mul_add_mod, Nat.mod_eq_of_lt ht2, e3]
  exact ⟨(Nat.add_zero _).symm, rfl⟩

set_option maxRecDepth 100000 in
theorem div_eqs (hi lo : Nat) (hh : hi < 1000000) (hlo : lo < 18446744073709551616) : ∃ y Y N H L U G u q R V q' R' Q r, y = 1000000 ∧ DivEqs hi lo y Y N H L U G u q R V q' R' Q r := by
  obtain ⟨L, hL⟩ : ∃ L, lo / 1048576 = L := ⟨_, rfl⟩
  obtain ⟨l0, hl0⟩ : ∃ l, lo % 1048576 = l := ⟨_, rfl⟩
  have hlo2 : lo = L * 1048576 + l0 := by omega
  have hL2 : L < 17592186044416 := by omega
  have hl2 : l0 < 1048576 := by omega
  obtain ⟨N, hN⟩ : ∃ N, N = 4096000000 := ⟨_, rfl⟩
  obtain ⟨y, hy⟩ : ∃ N, N = 1000000 := ⟨_, rfl⟩
  obtain ⟨Y, hY⟩ : ∃ Y, Y = N * 4294967296 := ⟨_, rfl⟩
  obtain ⟨H, hH⟩ : ∃ H, H = hi * 17592186044416 := ⟨_, rfl⟩
  obtain ⟨G, hG⟩ : ∃ G, G = l0 * 17592186044416 := ⟨_, rfl⟩
  obtain ⟨u, hu⟩ : ∃ u, u = l0 * 4096 := ⟨_, rfl⟩
  obtain ⟨U, hU⟩ : ∃ U, U = hi * 17592186044416 + L := ⟨_, rfl⟩
  have hU2 : U < 17592186044416000000 := by omega
  obtain ⟨q, hq⟩ : ∃ q, U / N = q := ⟨_, rfl⟩
  obtain ⟨R, hR⟩ : ∃ R, U % N = R := ⟨_, rfl⟩
  have hUq : U = q * N + R := by rw [← hq, ← hR, Nat.mul_comm]; exact (Nat.div_add_mod U N).symm
  have hR2 : R < N := by rw [← hR]; exact Nat.mod_lt _ (by omega)
  have hq2 : q < 4294967296 := by subst hN; omega
  obtain ⟨V, hV⟩ : ∃ V, V = R * 4294967296 + l0 * 4096 := ⟨_, rfl⟩
  have hV2 : V < 17592186044416000000 := by omega
  obtain ⟨q', hq'⟩ : ∃ q, V / N = q := ⟨_, rfl⟩
  obtain ⟨R', hR'⟩ : ∃ R, V % N = R := ⟨_, rfl⟩
  have hVq : V = q' * N + R' := by rw [← hq', ← hR', Nat.mul_comm]; exact (Nat.div_add_mod V N).symm
  have hR2' : R' < N := by rw [← hR']; exact Nat.mod_lt _ (by omega)
  have hq2' : q' < 4294967296 := by subst hN; omega
  obtain ⟨k1, k2⟩ := div_nat hN hlo2 hU hUq hV hVq hR2'
  refine ⟨y, Y, N, H, L, U, G, u, q, R, V, q', R', q * 4294967296 + q', R' / 4096, hy, ?_⟩
  have hG0 : G % 4294967296 = 0 := by omega
  have hY0 : Y % 4294967296 = 0 := by omega
  have hGb : G < 18446744073709551616 := by omega
  have hYb : Y < 18446744073709551616 := by omega
  constructor
  · exact w_shl44 (by rw [hy, hY, hN]) hYb
  · omega
  · have hm := AmtP.maskN Y hYb
    rw [hY0] at hm
    exact hm
  · exact w_shl44 hH (by omega)
  · omega
  · rw [hH, u64_or_add _ _ hL2 (by omega), ← hU]
  · rw [IntKind.wrap_u64]; omega
  · omega
  · have hm := AmtP.maskN G hGb
    rw [hG0] at hm
    exact hm
  · rw [← hq]; rfl
  · exact AmtP.wrapN _ (by omega)
  · exact AmtP.wrapN _ (by omega)
  · exact w_mul_sub hUq (by omega)
  · simp; omega
  · exact w_nonneg _
  · exact w_step hY hUq (by omega) (by omega)
  · rw [← hq']; rfl
  · exact w_mul_sub hVq (by omega)
  · simp; omega
  · exact w_nonneg _
  · exact w_comb rfl (by omega)
  · rw [w_idem, w_step0 hY hVq rfl (by omega)]; omega
  · exact k1
  · exact k2
  · omega

set_option maxRecDepth 100000 in
set_option maxHeartbeats 1000000 in
theorem div64_big (hi lo y Y N H L U G u q R V q' R' Q r : Nat) (h0 : 1 ≤ hi) (hh : hi < y) (LZ : ∀ w, Calls Try.prog 60 #[.int .u64 (y : Int)] w fun e w' => e = .returned (.int .i64 44) ∧ w = w')
    (E : DivEqs hi lo y Y N H L U G u q R V q' R' Q r) (w : World) :
    Calls Try.prog 59 #[.int .u64 (hi : Int), .int .u64 (lo : Int), .int .u64 (y : Int)] w fun e w' => e = .returned (.tuple #[.int .u64 (Q : Int), .int .u64 (r : Int)]) ∧ ∃ n, w' = w.drewN n := by
  have d0 : ((hi : Int) == 0) = false := by rw [beq_eq_false_iff_ne]; omega
  have d1 : ((y : Int) == 0) = false := by rw [beq_eq_false_iff_ne]; omega
  have HLZ := Lib.hid LZ; clear LZ
  obtain ⟨e1, e2, e3, e4, e5, e6, e7, e8, e9, f1, f0, g0, f2, f3, f4, f5, g1, g2, g3, g4, h1, h2, -, -, n1⟩ := E
  go_enter Try.func59, Try.ntmps59
  go_wp2_with fail
  refine (HLZ.out _).mono ?_
  rintro e w' ⟨rfl, rfl⟩
  go_wp2_with fail
  refine wp_loop_rounds 1 ?_
  rw [rounds_succ]
  go_wp2_with fail
  refine wp_loop_rounds 1 ?_
  rw [rounds_succ]
  go_wp2_with fail
  go_ret2
  exact ⟨rfl, 0, rfl⟩

theorem div64_million (hi lo : Nat) (hh : hi < 1000000) (hlo : lo < 18446744073709551616) (w : World) :
    Calls Try.prog 59 #[.int .u64 (hi : Int), .int .u64 (lo : Int), .int .u64 1000000] w fun e w' =>
      e = .returned (.tuple #[.int .u64 (((hi * 18446744073709551616 + lo) / 1000000 : Nat) : Int), .int .u64 (((hi * 18446744073709551616 + lo) % 1000000 : Nat) : Int)]) ∧ ∃ n, w' = w.drewN n := by
  by_cases h0 : hi = 0
  · subst h0
    have := div64_small lo hlo w
    rw [Nat.zero_mul, Nat.zero_add]
    exact this
  · obtain ⟨y, Y, N, H, L, U, G, u, q, R, V, q', R', Q, r, hy, E⟩ := div_eqs hi lo hh hlo
    have hyc : (y : Int) = 1000000 := by omega
    have LZ : ∀ w, Calls Try.prog 60 #[.int .u64 (y : Int)] w fun e w' => e = .returned (.int .i64 44) ∧ w = w' := by
      rw [hyc]; exact lead64_million
    have := div64_big hi lo y Y N H L U G u q R V q' R' Q r (by omega) (by omega) LZ E w
    rw [hyc, E.k1, E.k2] at this
    exact this
end Go.Proofs.Ytejkgnlflhngbaa
