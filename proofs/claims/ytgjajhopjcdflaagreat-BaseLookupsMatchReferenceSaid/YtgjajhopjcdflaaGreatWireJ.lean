import Derived.Test.YtgjajhopjcdflaaGreatProg
import Derived.WalkKit
import Derived.WalkLawsBesides
import Derived.Lib.Hide
import Derived.RangeFuncNested
import Derived.RangeFuncBound
import Derived.RangeFuncCalls
import Derived.RangeFuncLeaves
import Derived.Shelf.Abstract
import Derived.Shelf.RegionOpen
import Derived.OwnWalkIn
import Derived.TacticsInMore
import Derived.LoopNIn
import Derived.LoopIn
import Derived.Maps.AppendAt
import Derived.Test.YtgjajhopjcdflaaGreatBaseD
namespace Go.Proofs.YtgjajhopjcdflaaGreat.WireP

def zz (n : Int) : Nat := if n < 0 then (-2 * n - 1).toNat else (2 * n).toNat
def unzz (z : Nat) : Int := if z % 2 = 0 then ((z / 2 : Nat) : Int) else -((z / 2 : Nat) : Int) - 1

theorem zz_unzz (z : Nat) : zz (unzz z) = z := by
  unfold zz unzz; split <;> split <;> omega
theorem unzz_zz (n : Int) : unzz (zz n) = n := by
  unfold zz unzz; split <;> split <;> omega
theorem zz_lt {n : Int} (h0 : -4611686018427387903 ≤ n) (h1 : n ≤ 4611686018427387903) : zz n < 9223372036854775807 := by
  unfold zz; split <;> omega
theorem unzz_le {z : Nat} (h : z < 9223372036854775808) : unzz z ≤ 4611686018427387903 := by
  unfold unzz; split <;> omega

def encF : Nat → Nat → List UInt8
  | 0, z => [UInt8.ofNat z]
  | f + 1, z => if z < 128 then [UInt8.ofNat z] else UInt8.ofNat (z % 128 + 128) :: encF f (z / 128)
def enc (z : Nat) : List UInt8 := encF 8 z

def decF : Nat → Nat → Nat → List UInt8 → Option (Int × Nat)
  | 0, _, _, _ => none
  | _ + 1, _, _, [] => none
  | f + 1, i, acc, b :: r =>
    if 128 ≤ b.toNat then decF f (i + 1) (acc + b.toNat % 128 * 128 ^ i) r
    else if (b.toNat = 0 ∧ 0 < i) ∨ unzz (acc + b.toNat % 128 * 128 ^ i) < -4611686018427387903 then none
    else some (unzz (acc + b.toNat % 128 * 128 ^ i), i + 1)
def dec (l : List UInt8) : Option (Int × Nat) := decF 9 0 0 l

theorem ofNat_toNat {n : Nat} (h : n < 256) : (UInt8.ofNat n).toNat = n := by
  simp [UInt8.toNat_ofNat']; omega

theorem encF_pos (f z : Nat) : 0 < (encF f z).length := by
  cases f with
  | zero => simp [encF]
  | succ f => unfold encF; split <;> simp
theorem encF_len (f z : Nat) : (encF f z).length ≤ f + 1 := by
  induction f generalizing z with
  | zero => simp [encF]
  | succ f ih => unfold encF; split <;> simp; exact ih _

theorem pow_step (z i : Nat) : z % 128 * 128 ^ i + z / 128 * 128 ^ (i + 1) = z * 128 ^ i := by
  rw [Nat.pow_succ, Nat.mul_comm (128 ^ i) 128, ← Nat.mul_assoc, ← Nat.add_mul, Nat.mul_comm (z / 128) 128, Nat.mod_add_div]

theorem decF_encF (f : Nat) : ∀ (i acc z : Nat) (rest : List UInt8), z < 128 ^ (f + 1) → (i = 0 ∨ 0 < z) →
    decF (f + 1) i acc (encF f z ++ rest) =
      if unzz (acc + z * 128 ^ i) < -4611686018427387903 then none else some (unzz (acc + z * 128 ^ i), i + (encF f z).length) := by
  induction f with
  | zero =>
    intro i acc z rest hz h0
    have hz' : z < 128 := by simpa using hz
    have hb := ofNat_toNat (n := z) (by omega)
    simp only [encF, List.cons_append, List.nil_append, decF, hb, Nat.mod_eq_of_lt hz', List.length_cons, List.length_nil]
    rw [if_neg (by omega)]
    by_cases hu : unzz (acc + z * 128 ^ i) < -4611686018427387903
    · rw [if_pos (Or.inr hu), if_pos hu]
    · rw [if_neg (by omega), if_neg hu]
  | succ f ih =>
    intro i acc z rest hz h0
    by_cases hz' : z < 128
    · have hb := ofNat_toNat (n := z) (by omega)
      simp only [encF, if_pos hz', List.cons_append, List.nil_append, decF, hb, Nat.mod_eq_of_lt hz', List.length_cons, List.length_nil]
      rw [if_neg (by omega)]
      by_cases hu : unzz (acc + z * 128 ^ i) < -4611686018427387903
      · rw [if_pos (Or.inr hu), if_pos hu]
      · rw [if_neg (by omega), if_neg hu]
    · have hb := ofNat_toNat (n := z % 128 + 128) (by omega)
      have hdiv : z / 128 < 128 ^ (f + 1) := by
        rw [Nat.div_lt_iff_lt_mul (by omega)]; rw [Nat.pow_succ] at hz; exact hz
      simp only [encF, if_neg hz', List.cons_append]
      rw [decF, hb, if_pos (by omega), ih (i + 1) _ (z / 128) rest hdiv (Or.inr (by omega))]
      have e : acc + (z % 128 + 128) % 128 * 128 ^ i + z / 128 * 128 ^ (i + 1) = acc + z * 128 ^ i := by
        rw [Nat.add_assoc, show (z % 128 + 128) % 128 = z % 128 by omega, pow_step]
      rw [e, List.length_cons]
      simp only [show i + 1 + (encF f (z / 128)).length = i + ((encF f (z / 128)).length + 1) by omega]

theorem decF_some (f : Nat) : ∀ (i acc : Nat) (l : List UInt8) (n : Int) (k : Nat), decF (f + 1) i acc l = some (n, k) →
    ∃ z, z < 128 ^ (f + 1) ∧ (i = 0 ∨ 0 < z) ∧ n = unzz (acc + z * 128 ^ i) ∧ -4611686018427387903 ≤ n ∧ k = i + (encF f z).length ∧ l.take (encF f z).length = encF f z ∧ (encF f z).length ≤ l.length := by
  induction f with
  | zero =>
    intro i acc l n k h
    cases l with
    | nil => simp [decF] at h
    | cons b r =>
      rw [decF] at h
      by_cases hb : 128 ≤ b.toNat
      · rw [if_pos hb] at h; simp [decF] at h
      · rw [if_neg hb] at h
        split at h
        · cases h
        · rename_i hc
          simp only [Option.some.injEq, Prod.mk.injEq] at h
          obtain ⟨h1, h2⟩ := h
          have hm : b.toNat % 128 = b.toNat := Nat.mod_eq_of_lt (by omega)
          rw [hm] at h1 hc
          refine ⟨b.toNat, by simpa using (by omega : b.toNat < 128), by omega, h1.symm, by omega, by simp [encF]; omega, by simp [encF], by simp [encF]⟩
  | succ f ih =>
    intro i acc l n k h
    cases l with
    | nil => simp [decF] at h
    | cons b r =>
      have hp : 128 ≤ 128 ^ (f + 1) := by rw [Nat.pow_succ]; have := Nat.pow_pos (n := f) (show 0 < 128 by omega); omega
      rw [decF] at h
      by_cases hb : 128 ≤ b.toNat
      · rw [if_pos hb] at h
        obtain ⟨z, hz, h0, hn, hlo, hk, ht, hl⟩ := ih _ _ _ _ _ h
        have hz0 : 0 < z := by omega
        have hlt := b.toNat_lt
        have hm : (b.toNat % 128 + z * 128) % 128 = b.toNat % 128 := by omega
        have hd : (b.toNat % 128 + z * 128) / 128 = z := by omega
        have hbb : UInt8.ofNat (b.toNat % 128 + 128) = b := by
          rw [show b.toNat % 128 + 128 = b.toNat by omega]; exact UInt8.ofNat_toNat
        have he : encF (f + 1) (b.toNat % 128 + z * 128) = b :: encF f z := by
          rw [encF, if_neg (by omega), hm, hd, hbb]
        refine ⟨b.toNat % 128 + z * 128, ?_, Or.inr (by omega), ?_, hlo, ?_, ?_, ?_⟩
        · rw [Nat.pow_succ]; omega
        · rw [hn, Nat.add_assoc]
          have := pow_step (b.toNat % 128 + z * 128) i
          rw [hm, hd] at this
          rw [this]
        · rw [he, hk, List.length_cons]; omega
        · rw [he, List.length_cons, List.take_succ_cons, ht]
        · rw [he, List.length_cons, List.length_cons]; omega
      · rw [if_neg hb] at h
        split at h
        · cases h
        · rename_i hc
          simp only [Option.some.injEq, Prod.mk.injEq] at h
          obtain ⟨h1, h2⟩ := h
          have hm : b.toNat % 128 = b.toNat := Nat.mod_eq_of_lt (by omega)
          rw [hm] at h1 hc
          have he : encF (f + 1) b.toNat = [b] := by
            rw [encF, if_pos (by omega)]; simp
          refine ⟨b.toNat, by rw [Nat.pow_succ]; omega, by omega, h1.symm, by omega, by rw [he]; simp; omega, by rw [he]; simp, by rw [he]; simp⟩

theorem dec_enc {n : Int} (h0 : -4611686018427387903 ≤ n) (h1 : n ≤ 4611686018427387903) (rest : List UInt8) :
    dec (enc (zz n) ++ rest) = some (n, (enc (zz n)).length) := by
  have hz := zz_lt h0 h1
  unfold dec enc
  rw [decF_encF 8 0 0 (zz n) rest (by omega) (Or.inl rfl)]
  simp only [Nat.pow_zero, Nat.mul_one, Nat.zero_add, unzz_zz]
  rw [if_neg (by omega)]

theorem dec_some {l : List UInt8} {n : Int} {k : Nat} (h : dec l = some (n, k)) :
    -4611686018427387903 ≤ n ∧ n ≤ 4611686018427387903 ∧ k = (enc (zz n)).length ∧ l.take k = enc (zz n) ∧ 0 < k ∧ k ≤ 9 ∧ k ≤ l.length := by
  obtain ⟨z, hz, _, hn, hlo, hk, ht, hl⟩ := decF_some 8 0 0 l n k h
  simp only [Nat.pow_zero, Nat.mul_one, Nat.zero_add] at hn hk
  subst hn
  have hz' : z < 9223372036854775808 := by simpa using hz
  unfold enc
  rw [zz_unzz]
  refine ⟨hlo, unzz_le hz', hk, by rw [hk]; exact ht, by rw [hk]; exact encF_pos _ _, by rw [hk]; exact encF_len _ _, by omega⟩

theorem decF_none_of_high (f : Nat) : ∀ (i acc : Nat) (l : List UInt8), (∀ b ∈ l, 128 ≤ b.toNat) → decF f i acc l = none := by
  induction f with
  | zero => intro i acc l _; rfl
  | succ f ih =>
    intro i acc l h
    cases l with
    | nil => rfl
    | cons b r =>
      rw [decF, if_pos (h b (List.mem_cons_self ..))]
      exact ih _ _ _ (fun c hc => h c (List.mem_cons_of_mem _ hc))

theorem encF_high (f : Nat) : ∀ (z m : Nat), m < (encF f z).length → ∀ b ∈ (encF f z).take m, 128 ≤ b.toNat := by
  induction f with
  | zero => intro z m hm b hb; simp [encF] at hm; subst hm; simp at hb
  | succ f ih =>
    intro z m hm b hb
    unfold encF at hm hb
    by_cases hz : z < 128
    · rw [if_pos hz] at hm hb; simp at hm; subst hm; simp at hb
    · rw [if_neg hz] at hm hb
      cases m with
      | zero => simp at hb
      | succ m =>
        rw [List.take_succ_cons, List.mem_cons] at hb
        rcases hb with rfl | hb
        · rw [ofNat_toNat (by omega)]; omega
        · exact ih _ m (by simpa using hm) b hb

/-- no proper beginning of an encoding is accepted -/
theorem dec_take_enc (n : Int) (m : Nat) (h : m < (enc (zz n)).length) : dec ((enc (zz n)).take m) = none :=
  decF_none_of_high _ _ _ _ (encF_high 8 _ m h)

/-- encodings are not beginnings of each other -/
theorem enc_prefix {a b : Int} (a0 : -4611686018427387903 ≤ a) (a1 : a ≤ 4611686018427387903) (b0 : -4611686018427387903 ≤ b) (b1 : b ≤ 4611686018427387903)
    (h : (enc (zz b)).take (enc (zz a)).length = enc (zz a)) : a = b := by
  have h1 := dec_enc a0 a1 ((enc (zz b)).drop (enc (zz a)).length)
  have h2 := dec_enc b0 b1 []
  rw [List.append_nil] at h2
  have e : enc (zz a) ++ (enc (zz b)).drop (enc (zz a)).length = enc (zz b) := by
    have := List.take_append_drop (enc (zz a)).length (enc (zz b))
    rw [h] at this
    exact this
  rw [e, h2] at h1
  simp only [Option.some.injEq, Prod.mk.injEq] at h1
  exact h1.1.symm

end Go.Proofs.YtgjajhopjcdflaaGreat.WireP
namespace Go.Proofs.YtgjajhopjcdflaaGreat
open Go Go.RowKit

theorem and127 (b : Nat) (hb : b < 256) : bits BinOp.and IntKind.u8 (b : Int) 127 = ((b % 128 : Nat) : Int) := by
  have := u8_and_nat b 127 hb (by omega)
  rw [nat_mask7] at this
  exact this
theorem u64_wrap_nat (n : Nat) (h : n < 18446744073709551616) : IntKind.u64.wrap (n : Int) = (n : Int) := by
  rw [IntKind.wrap_u64]; omega
theorem u64_or_add (a b k : Nat) (ha : a < 2 ^ k) (hs : a + b * 2 ^ k < 18446744073709551616) : bits BinOp.or IntKind.u64 (a : Int) ((b * 2 ^ k : Nat) : Int) = ((a + b * 2 ^ k : Nat) : Int) := by
  rw [u64_or_nat a _ (by omega) (by omega), Nat.or_comm, Nat.mul_comm b, ← Nat.two_pow_add_eq_or_of_lt ha, Nat.add_comm]
end Go.Proofs.YtgjajhopjcdflaaGreat
namespace Go.Proofs.YtgjajhopjcdflaaGreat
open Go Go.RowKit Go.Shelf
attribute [local go_sem] Oper.semAt_some

/-- a box that holds a number -/
def BoxU (w : World) (B z : Nat) : Prop := w.heap[B]? = some (.cells #[.int .u64 (z : Int)] 122 (0, 0))
def zOf (w : World) (B : Nat) : Nat := match w.heap[B]? with
  | some (.cells cs _ _) => (intOf (cs.getD 0 undef)).toNat
  | _ => 0
theorem BoxU.z {w : World} {B z : Nat} (h : BoxU w B z) : zOf w B = z := by unfold BoxU at h; unfold zOf; rw [h]; simp [intOf]
theorem BoxU.cell {w : World} {B z : Nat} (h : BoxU w B z) : w.cell? ⟨B, 0, none⟩ = some (.int .u64 (z : Int)) := cell_of_one h
theorem BoxU.free {w : World} {B z : Nat} (h : BoxU w B z) : w.frozen? ⟨B, 0, none⟩ = false := free_of_one h
theorem BoxU.set {w : World} {B z : Nat} (h : BoxU w B z) (z' : Nat) : BoxU (w.setCell ⟨B, 0, none⟩ (.int .u64 (z' : Int))) B z' := one_setCell h

theorem and127u (z : Nat) (h : z < 18446744073709551616) : bits BinOp.and IntKind.u64 (z : Int) 127 = ((z % 128 : Nat) : Int) := by
  have := u64_and_nat z 127 h (by omega)
  rw [nat_mask7] at this
  exact this

set_option maxRecDepth 100000 in
set_option maxHeartbeats 1000000 in
theorem groups1_in (n : Nat) (hn : 1 ≤ n) (l B : Nat) (J : Nat → World → Prop) (Jend : World → Prop)
    (hJ : ∀ z W v, J z W → J z (W.setCell ⟨B, 0, none⟩ v))
    (hY : ∀ z W, z < 18446744073709551616 → J z W → YieldAt Fence.wide (n - 1) Tryz.prog l #[.int .u8 ((z : Int) % 128), .bool (decide ((z : Int) < 128))] W fun e W' =>
      e = .returned (.bool true) ∧ (if z < 128 then Jend W' else J (z / 128) W') ∧ W'.heap[B]? = W.heap[B]?)
    (z : Nat) (hz : z < 18446744073709551616) (W : World) (hB : BoxU W B z) (h0 : J z W) :
    CallsIn Fence.wide n Tryz.prog 128 #[.func (.yield l) #[] #[], .pointer (some ⟨B, 0, none⟩)] W fun e W' => (∃ v, e = .returned v) ∧ Jend W' := by
  refine callsIn_of_wp Tryz.func128 rfl trivial ?_ rfl
  simp only [Tryz.ntmps128, List.size_toArray, List.length_cons, List.length_nil, Nat.reduceAdd, Nat.reduceSub, Array.replicate_succ, Array.replicate_zero, List.push_toArray, List.append_toArray, List.nil_append, List.cons_append]
  gi_wp2
  gi_loopw [3] (fun _ wr => ∃ z, z < 18446744073709551616 ∧ BoxU wr B z ∧ J z wr) (fun _ wr => zOf wr B)
  case atStart => exact ⟨z, hz, hB, h0⟩
  case round =>
    obtain ⟨z, hz, hb, hj⟩ := hrel
    obtain ⟨fn, tmps, assign, body, hy, hR⟩ := hY z wr hz hj
    have hc := hb.cell
    have hf := hb.free
    have hzr := hb.z
    have ha := and127u z hz
    have HR := Lib.hid hR; clear hR
    have HZ := Lib.hid hzr; clear hzr
    clear hB h0
    by_cases h128 : z < 128
    · have d1 : decide ((z : Int) < 128) = true := by simp; omega
      rw [d1] at hy
      gi_wp2
      refine HR.out.mono ?_
      rintro e W' ⟨rfl, hnext, hB'⟩
      rw [if_pos h128] at hnext
      have HN := Lib.hid hnext; clear hnext
      gi_wp2
      refine bodyPost_ret (results_none rfl _ _ _) rfl ?_
      exact ⟨⟨_, rfl⟩, HN.out⟩
    · have d1 : decide ((z : Int) < 128) = false := by simp; omega
      rw [d1] at hy
      gi_wp2
      refine HR.out.mono ?_
      rintro e W' ⟨rfl, hnext, hB'⟩
      rw [if_neg h128] at hnext
      have hb' : BoxU W' B z := hB'.trans hb
      have hc' := hb'.cell
      have hf' := hb'.free
      have HN := Lib.hid hnext; clear hnext
      clear hB'
      gi_wp2
      go_roundw
      case rel =>
        refine ⟨z / 128, by omega, ?_, hJ _ _ _ HN.out⟩
        have := hb'.set (z / 128)
        rw [show ((z / 128 : Nat) : Int) = (z : Int) / 128 by omega] at this
        exact this
      case measure =>
        rw [HZ.out]
        have := (hb'.set (z / 128)).z
        rw [show ((z / 128 : Nat) : Int) = (z : Int) / 128 by omega] at this
        rw [this]
        omega
end Go.Proofs.YtgjajhopjcdflaaGreat
namespace Go.Proofs.YtgjajhopjcdflaaGreat
open Go Go.RowKit Go.Shelf

/-- what is said of a world and holds on over new blocks, and over a turn of block B or of a block that holds no cells -/
def Calm (B : Nat) (I : World → Prop) : Prop :=
  ∀ W W' row, I W → W.grownBy W' row → (∀ r, row = some r → B ≤ r ∧ (r = B ∨ ∃ o : Obj, W.heap[r]? = some o ∧ o.isCells = false)) → I W'
theorem Calm.alloc {B : Nat} {I : World → Prop} (h : Calm B I) {W : World} (o : Obj) (hi : I W) : I (W.alloc o) :=
  h W _ none hi (World.grownBy_alloc W o none) (fun r e => by cases e)
theorem Calm.put {B : Nat} {I : World → Prop} (h : Calm B I) {W : World} {l : Nat} {o : Obj} (o' : Obj) (hi : I W) (hb : B ≤ l) (hl : W.heap[l]? = some o) (ho : o.isCells = false) : I (W.putObj l o') :=
  h W _ (some l) hi (grownBy_putObj' W l o') (fun r e => by cases e; exact ⟨hb, Or.inr ⟨o, hl, ho⟩⟩)
theorem Calm.set {B : Nat} {I : World → Prop} (h : Calm B I) {W : World} (v : Value) (hi : I W) : I (W.setCell ⟨B, 0, none⟩ v) :=
  h W _ (some B) hi (grownBy_setCell' W B v) (fun r e => by cases e; exact ⟨Nat.le_refl _, Or.inl rfl⟩)

theorem range_groups {g : Operand} {ps : Array Tmp} {assign body : Code} {Q : Exit → Act → World → Prop} {a : Act} {w : World} {n B z : Nat} (hn : 3 ≤ n)
    (hg : a.eval g = .func (.func 128) #[] #[.pointer (some ⟨B, 0, none⟩)]) (hps : ps.size = 2) (hB : BoxU w B z) (hz : z < 18446744073709551616)
    (I : Nat → World → Prop) (Iend : World → Prop) (hI : ∀ z, Calm B (I z)) (hIe : Calm B Iend) (h0 : I z w) (a₁ : Nat → Act)
    (hassign : ∀ (l z : Nat) (W : World) (K : Act → World → Prop), K (a₁ z) W →
      assign.wpIn (Fence.wide.inRound l) (n - 1 - 1) Tryz.prog (Exit.then K (fun _ _ _ => False)) { tmps := (ps.zip #[.int .u8 ((z : Int) % 128), .bool (decide ((z : Int) < 128))]).foldl (fun t (p, v) => t.setIfInBounds p v) a.tmps, defers := [] } W)
    (hbody : ∀ (l z : Nat) (W : World), I z W → z < 18446744073709551616 → body.wpIn (Fence.wide.inRound l) (n - 1 - 1) Tryz.prog
      (fun e _ W' => e = .normal ∧ KeepsOthers W W' ∧ W'.heap[B]? = W.heap[B]? ∧ (if z < 128 then Iend W' else I (z / 128) W')) (a₁ z) W)
    (hdone : ∀ (D : Nat) (W : World), w.heap.size ≤ D → Iend W → W.heap[D]? = some (.deferred (some [])) → Q .normal { a with defers := { target := .collected D, args := #[] } :: a.defers } W) :
    (Code.rangeFunc g ps assign body).wpIn Fence.wide n Tryz.prog Q a w := by
  have hBlt : B < w.heap.size := (Array.getElem?_eq_some_iff.1 hB).1
  refine wpIn_rangeFunc (fun fn hfn => ?_)
  obtain ⟨rc, hrc⟩ : ∃ rc : LoopState → Option Code → Loop, rc = fun st pe => { state := st, pending := pe, fn, tmps := a.tmps, params := ps, assign, body, defers := w.heap.size } := ⟨_, rfl⟩
  obtain ⟨W1, hW1⟩ : ∃ W1, (w.alloc (.deferred (some []))).alloc (.loop (rc .ready none)) = W1 := ⟨_, rfl⟩
  have hl1 : W1.heap[w.heap.size + 1]? = some (.loop (rc .ready none)) := by
    rw [← hW1]; have := World.alloc_heap_new (w.alloc (.deferred (some []))) (.loop (rc .ready none)); rwa [World.size_alloc] at this
  have hd1 : W1.heap[w.heap.size]? = some (.deferred (some [])) := by
    rw [← hW1]; exact (Below.heap_alloc _ _ _ (by simp)).trans (World.alloc_heap_new w _)
  have hb1 : BoxU W1 B z := by
    rw [← hW1]; exact (Below.heap_alloc _ _ _ (by simp; omega)).trans ((Below.heap_alloc _ _ _ hBlt).trans hB)
  have hi1 : I z W1 := by rw [← hW1]; exact (hI z).alloc _ ((hI z).alloc _ h0)
  refine ⟨w.heap.size + 1, [{ target := .collected w.heap.size, args := #[] }], W1, { target := .fn (.func 128) #[.pointer (some ⟨B, 0, none⟩)], args := #[.func (.yield (w.heap.size + 1)) #[] #[]] }, W1,
    128, #[.func (.yield (w.heap.size + 1)) #[] #[], .pointer (some ⟨B, 0, none⟩)], W1, ?_, ?_, fun _ _ => trivial, ?_, fun _ => by omega, ?_⟩
  · rw [← hW1, hrc]; exact run_enterLoop_outer _ _ _ _ _
  · simp only [resolve, hg]
    simp [go_sem]
  · simp [invoke, go_sem]
  · refine (groups1_in (n - 1) (by omega) (w.heap.size + 1) B
      (fun z W => I z W ∧ W.heap[w.heap.size + 1]? = some (.loop (rc .ready none)) ∧ W.heap[w.heap.size]? = some (.deferred (some [])))
      (fun W => Iend W ∧ W.heap[w.heap.size + 1]? = some (.loop (rc .ready none)) ∧ W.heap[w.heap.size]? = some (.deferred (some [])))
      (fun z W v h => ⟨(hI z).set v h.1, (Below.heap_setCell W ⟨B, 0, none⟩ v _ (by show w.heap.size + 1 ≠ B; omega)).trans h.2.1, (Below.heap_setCell W ⟨B, 0, none⟩ v _ (by show w.heap.size ≠ B; omega)).trans h.2.2⟩)
      ?_ z hz W1 hb1 ⟨hi1, hl1, hd1⟩).mono ?_
    · rintro z W hz ⟨hi, hl, hd⟩
      have hlt : w.heap.size + 1 < W.heap.size := (Array.getElem?_eq_some_iff.1 hl).1
      have hy := run_yield (P := Tryz.prog) (args := #[.int .u8 ((z : Int) % 128), .bool (decide ((z : Int) < 128))]) hl (by rw [hrc]; simp [hps])
      rw [hrc] at hy
      refine ⟨fn, _, assign, body, hy, roundIn_of_wpIn hfn (hassign _ z W _ ⟨_, run_beginRound hl (by rw [hrc]), ?_⟩)⟩
      have hl2 : (W.putObj (w.heap.size + 1) (.loop { rc .ready none with state := .busy })).heap[w.heap.size + 1]? = some (.loop { rc .ready none with state := .busy }) := World.putObj_heap_same hlt
      have hd2 : (W.putObj (w.heap.size + 1) (.loop { rc .ready none with state := .busy })).heap[w.heap.size]? = some (.deferred (some [])) := (World.putObj_heap_other (by omega)).trans hd
      have hB2 : (W.putObj (w.heap.size + 1) (.loop { rc .ready none with state := .busy })).heap[B]? = W.heap[B]? := World.putObj_heap_other (by omega)
      refine wpIn_mono (hbody _ z _ ((hI z).put _ hi (by omega) hl rfl) hz) ?_
      rintro e a3 W3 ⟨rfl, hk, hB3, hnext⟩
      have hl3 := hk.same _ _ hl2 rfl
      have hd3 := hk.same _ _ hd2 rfl
      have hend := run_endRound (P := Tryz.prog) none hl3
      have e4 : { rc .ready none with state := (.ready : LoopState), pending := (none : Option Code) } = rc .ready none := by rw [hrc]
      have hl4 : (W3.putObj (w.heap.size + 1) (.loop (rc .ready none))).heap[w.heap.size + 1]? = some (.loop (rc .ready none)) := World.putObj_heap_same (Array.getElem?_eq_some_iff.1 hl3).1
      have hd4 : (W3.putObj (w.heap.size + 1) (.loop (rc .ready none))).heap[w.heap.size]? = some (.deferred (some [])) := (World.putObj_heap_other (by omega)).trans hd3
      refine ⟨.bool true, W3.putObj (w.heap.size + 1) (.loop (rc .ready none)), ?_, rfl, ?_, ?_⟩
      · rw [hend, hrc]; rfl
      · by_cases h128 : z < 128
        · rw [if_pos h128] at hnext ⊢
          exact ⟨hIe.put _ hnext (by omega) hl3 rfl, hl4, hd4⟩
        · rw [if_neg h128] at hnext ⊢
          exact ⟨(hI _).put _ hnext (by omega) hl3 rfl, hl4, hd4⟩
      · rw [World.putObj_heap_other (by omega), hB3, hB2]
    · rintro e W2 ⟨⟨v, rfl⟩, hi, hl, hd⟩
      refine ⟨none, _, ?_, hdone _ (W2.putObj (w.heap.size + 1) (.loop { rc .ready none with state := .exhausted })) (Nat.le_refl _) (hIe.put _ hi (by omega) hl rfl) ((World.putObj_heap_other (by omega)).trans hd)⟩
      have := run_endLoop (P := Tryz.prog) hl (by rw [hrc]; simp)
      rw [this, hrc]
end Go.Proofs.YtgjajhopjcdflaaGreat
namespace Go.Proofs.YtgjajhopjcdflaaGreat
open Go Go.RowKit Go.Shelf
attribute [local go_sem] Oper.semAt_some

theorem groups_any (z : Nat) (w : World) :
    Calls Tryz.prog 116 #[.int .u64 (z : Int)] w fun e w' => e = .returned (.func (.func 128) #[] #[.pointer (some ⟨w.heap.size, 0, none⟩)]) ∧ w.alloc (.cells #[.int .u64 (z : Int)] 122) = w' := by
  go_enter Tryz.func116, Tryz.ntmps116
  go_wp2
  go_ret
  exact ⟨rfl, rfl⟩

theorem zig_eq (k : Int) (h0 : -4611686018427387903 ≤ k) (h1 : k ≤ 4611686018427387903) :
    bits BinOp.xor IntKind.u64 (IntKind.u64.wrap (IntKind.u64.wrap k * 2)) (IntKind.u64.wrap (k / 9223372036854775808)) = ((WireP.zz k : Nat) : Int) := by
  unfold WireP.zz
  by_cases hk : k < 0
  · have e1 : IntKind.u64.wrap (IntKind.u64.wrap k * 2) = ((18446744073709551616 - (-2 * k).toNat : Nat) : Int) := by
      rw [IntKind.wrap_u64, IntKind.wrap_u64]; omega
    have e2 : IntKind.u64.wrap (k / 9223372036854775808) = ((18446744073709551615 : Nat) : Int) := by
      rw [IntKind.wrap_u64]; omega
    rw [e1, e2, if_pos hk, u64_xor_nat _ _ (by omega) (by omega)]
    congr 1
    have hz : 18446744073709551616 - (-2 * k).toNat < 2 ^ 64 := by omega
    have hc := BitVec.toNat_not (x := BitVec.ofNat 64 (18446744073709551616 - (-2 * k).toNat))
    rw [← BitVec.xor_allOnes, BitVec.toNat_xor, BitVec.toNat_allOnes, BitVec.toNat_ofNat, Nat.mod_eq_of_lt hz] at hc
    have e3 : (18446744073709551615 : Nat) = 2 ^ 64 - 1 := by decide
    rw [e3, hc]
    omega
  · have e1 : IntKind.u64.wrap (IntKind.u64.wrap k * 2) = (((2 * k).toNat : Nat) : Int) := by
      rw [IntKind.wrap_u64, IntKind.wrap_u64]; omega
    have e2 : IntKind.u64.wrap (k / 9223372036854775808) = ((0 : Nat) : Int) := by
      rw [IntKind.wrap_u64]; omega
    rw [e1, e2, if_neg hk, u64_xor_nat _ _ (by omega) (by omega), Nat.xor_zero]

theorem info_u8 : (Tryz.prog.info? 5).map (fun i => (i.zero, i.size, i.bytes)) = some (some (.int .u8 0), 1, 1) := by kernel_rfl

/-- what the loop of PutInt keeps: what was written so far, and what is to come -/
def PutAt (k : Int) (w : World) (z : Nat) (W : World) : Prop :=
  ∃ (done : List UInt8) (f : Nat) (v : Value), f + done.length = 8 ∧ z < 128 ^ (f + 1) ∧ done ++ WireP.encF f z = WireP.enc (WireP.zz k) ∧
    Boxed W w.heap.size 100 v ∧ W.ownsRow (w.heap.size + 2) 5 1 v done.length (u8s done) ∧ Below w.heap.size w W ∧ w.heap.size + 2 ≤ W.heap.size
def PutEnd (k : Int) (w : World) (W : World) : Prop :=
  ∃ v : Value, Boxed W w.heap.size 100 v ∧ W.ownsRow (w.heap.size + 2) 5 1 v (WireP.enc (WireP.zz k)).length (u8s (WireP.enc (WireP.zz k))) ∧ Below w.heap.size w W ∧ w.heap.size + 2 ≤ W.heap.size

theorem box_row_calm {w W W' : World} {row : Option Nat} {v : Value} {n : Nat} {xs : List Value} (hb : Boxed W w.heap.size 100 v) (hr : W.ownsRow (w.heap.size + 2) 5 1 v n xs) (hw : Below w.heap.size w W)
    (hs : w.heap.size + 2 ≤ W.heap.size) (hg : W.grownBy W' row) (hrow : ∀ r, row = some r → w.heap.size + 1 ≤ r ∧ (r = w.heap.size + 1 ∨ ∃ o : Obj, W.heap[r]? = some o ∧ o.isCells = false)) :
    Boxed W' w.heap.size 100 v ∧ W'.ownsRow (w.heap.size + 2) 5 1 v n xs ∧ Below w.heap.size w W' ∧ w.heap.size + 2 ≤ W'.heap.size := by
  refine ⟨hb.kept hg (fun e => ?_), hr.kept hg ?_, hw.grown hg hw.size (fun r e => by have := (hrow r e).1; omega), Nat.le_trans hs hg.size⟩
  · rcases (hrow _ e.symm).2 with h | ⟨o, ho, hc⟩
    · omega
    · rw [show W.heap[w.heap.size]? = _ from hb] at ho; cases ho; cases hc
  · rcases hr.2 with ⟨rfl, _⟩ | ⟨g, cap, cur, rfl, hgb, hgg, _⟩
    · exact .inl rfl
    · refine .inr fun e => ?_
      rcases (hrow g (by simpa [Value.ownBlock] using e.symm)).2 with h | ⟨o, ho, hc⟩
      · omega
      · rw [hgg] at ho; cases ho; cases hc

theorem pow_div {z f : Nat} (h : z < 128 ^ (f + 1 + 1)) : z / 128 < 128 ^ (f + 1) := by
  rw [Nat.div_lt_iff_lt_mul (by omega)]; rw [Nat.pow_succ] at h; exact h

theorem putAt_calm (k : Int) (w : World) (z : Nat) : Calm (w.heap.size + 1) (PutAt k w z) := by
  rintro _ W' row ⟨done, f, v, h1, h2, h3, h4, h5, h6, h7⟩ hg hr
  obtain ⟨g1, g2, g3, g4⟩ := box_row_calm h4 h5 h6 h7 hg hr
  exact ⟨done, f, v, h1, h2, h3, g1, g2, g3, g4⟩
theorem putEnd_calm (k : Int) (w : World) : Calm (w.heap.size + 1) (PutEnd k w) := by
  rintro _ W' row ⟨v, h4, h5, h6, h7⟩ hg hr
  obtain ⟨g1, g2, g3, g4⟩ := box_row_calm h4 h5 h6 h7 hg hr
  exact ⟨v, g1, g2, g3, g4⟩

/-- what an append to the box's slice, and the store back, leave -/
theorem put_appended {W w1 : World} {H : Nat} {v v' : Value} {k m : Nat} {xs ys : List Value} {tmp : Obj}
    (hv : Boxed W H 100 v) (hrow : W.ownsRow (H + 2) 5 1 v k xs) (hs : H + 2 ≤ W.heap.size) (hown' : w1.ownsRow (H + 2) 5 1 v' m ys) (hgrow : (W.alloc tmp).grownBy w1 v.ownBlock) :
    Boxed w1 H 100 v ∧ Boxed (w1.setCell ⟨H, 0, none⟩ v') H 100 v' ∧ (w1.setCell ⟨H, 0, none⟩ v').ownsRow (H + 2) 5 1 v' m ys ∧ KeepsOthers W (w1.setCell ⟨H, 0, none⟩ v') ∧
      Below H W (w1.setCell ⟨H, 0, none⟩ v') ∧ (w1.setCell ⟨H, 0, none⟩ v').heap[H + 1]? = W.heap[H + 1]? ∧ H + 2 ≤ (w1.setCell ⟨H, 0, none⟩ v').heap.size := by
  have hlow : ∀ j, v.ownBlock = some j → H + 2 ≤ j := fun j e => (hrow.lt j e).1
  have hv1 : Boxed w1 H 100 v := (hv.alloc tmp).kept hgrow (fun e => by have := hlow _ e.symm; omega)
  have hsz : W.heap.size + 1 ≤ w1.heap.size := by have := hgrow.size; simpa using this
  refine ⟨hv1, hv1.set v', hown'.kept (grownBy_setCell' w1 H v') (.inr (fun e => by have := (hown'.lt _ e).1; omega)), ?_, ?_, ?_, ?_⟩
  · refine ((KeepsOthers.alloc W tmp).trans (KeepsOthers.of_grownBy hgrow fun j o ej hj => ?_)).trans (KeepsOthers.setCell _ _ _)
    rcases (hrow.alloc tmp).2 with ⟨rfl, _⟩ | ⟨g, cap, cur, rfl, _, hgb, _⟩
    · simp [Value.ownBlock] at ej
    · obtain rfl : g = j := by simpa [Value.ownBlock] using ej
      rw [hgb] at hj; cases hj; rfl
  · exact (((Below.refl H W).alloc (by omega) tmp).grown hgrow (by simp; omega) (fun j ej => by have := hlow j ej; omega)).setCell (p := ⟨H, 0, none⟩) (Nat.le_refl _) v'
  · rw [Below.heap_setCell _ _ _ _ (by show H + 1 ≠ H; omega), hgrow.block (H + 1) (by simp; omega) (fun e => by have := hlow _ e.symm; omega), Below.heap_alloc _ _ _ (by omega)]
  · have := (Below.refl H w1).setCell (p := ⟨H, 0, none⟩) (Nat.le_refl _) v'
    have := this.size
    omega

/-- one group more was appended -/
theorem putAt_step {k : Int} {w W1 : World} {z : Nat} {done : List UInt8} {f : Nat} {b : UInt8} {v' : Value} (h1 : f + done.length = 8) (h2 : z < 128 ^ (f + 1)) (h3 : done ++ WireP.encF f z = WireP.enc (WireP.zz k))
    (hb : b = UInt8.ofNat (if z < 128 then z else z % 128 + 128)) (g1 : Boxed W1 w.heap.size 100 v') (g2 : W1.ownsRow (w.heap.size + 2) 5 1 v' (done.length + 1) (u8s done ++ [.int .u8 (b.toNat : Int)]))
    (g3 : Below w.heap.size w W1) (g4 : w.heap.size + 2 ≤ W1.heap.size) : if z < 128 then PutEnd k w W1 else PutAt k w (z / 128) W1 := by
  have e : u8s done ++ [.int .u8 (b.toNat : Int)] = u8s (done ++ [b]) := by simp [u8s]
  rw [e] at g2
  by_cases hz : z < 128
  · rw [if_pos hz]
    rw [if_pos hz] at hb
    have he : WireP.encF f z = [b] := by
      rw [hb]
      cases f with
      | zero => rfl
      | succ f => rw [WireP.encF, if_pos hz]
    rw [he] at h3
    refine ⟨v', g1, ?_, g3, g4⟩
    rw [← h3, List.length_append]
    exact g2
  · rw [if_neg hz]
    rw [if_neg hz] at hb
    cases f with
    | zero => omega
    | succ f =>
      rw [WireP.encF, if_neg hz, ← hb] at h3
      exact ⟨done ++ [b], f, v', by simp; omega, pow_div h2, by simpa using h3, g1, by rw [List.length_append]; exact g2, g3, g4⟩
end Go.Proofs.YtgjajhopjcdflaaGreat
namespace Go.Proofs.YtgjajhopjcdflaaGreat
open Go Go.RowKit Go.Shelf
attribute [local go_sem] Oper.semAt_some

theorem or128 (z : Nat) : bits BinOp.or IntKind.u8 ((z : Int) % 128) 128 = ((z % 128 + 128 : Nat) : Int) := by
  have h := u8_or_nat (z % 128) 128 (by omega) (by omega)
  have h2 : z % 128 ||| 128 = z % 128 + 128 := by
    have := Nat.two_pow_add_eq_or_of_lt (i := 7) (b := z % 128) (by omega) 1
    simp only [Nat.reducePow, Nat.mul_one] at this
    rw [Nat.or_comm]
    omega
  rw [h2] at h
  rw [show (z : Int) % 128 = ((z % 128 : Nat) : Int) by omega]
  exact h

set_option maxRecDepth 100000 in
set_option maxHeartbeats 4000000 in
theorem putInt_in (k : Int) (w : World) (h0 : -4611686018427387903 ≤ k) (h1 : k ≤ 4611686018427387903) :
    CallsIn Fence.wide 9 Tryz.prog 85 #[.int .i64 k] w fun e w' => e = .returned (.tuple #[.string ⟨(WireP.enc (WireP.zz k)).toArray⟩, .int .i64 0]) ∧ Below w.heap.size w w' := by
  have d1 : decide (k < -4611686018427387903) = false := by simp; omega
  have d2 : decide (4611686018427387903 < k) = false := by simp; omega
  have hzlt := WireP.zz_lt h0 h1
  obtain ⟨i0, hi, hz0, hz1, hz2⟩ := info_parts info_u8
  refine callsIn_of_wp_marks Tryz.func85 rfl trivial ?_ rfl
  simp only [Tryz.ntmps85, List.size_toArray, List.length_cons, List.length_nil, Nat.reduceAdd, Nat.reduceSub, Array.replicate_succ, Array.replicate_zero, List.push_toArray, List.append_toArray, List.nil_append, List.cons_append]
  gi_wp2_with fail
  rw [zig_eq k h0 h1]
  refine ⟨trivial, callsIn_wide.2 ((groups_any (WireP.zz k) _).mono ?_)⟩
  rintro e w' ⟨rfl, rfl⟩
  gi_wp2_with fail
  have bO := Boxed.new w 100 (.slice none 0 0)
  have bZ := Boxed.new (w.alloc (.cells #[.slice none 0 0] 100)) 122 (.int .u64 (WireP.zz k : Nat))
  rw [World.size_alloc] at bZ
  refine range_groups (z := WireP.zz k) (by omega) rfl rfl bZ (by omega) (PutAt k w) (PutEnd k w) (putAt_calm k w) (putEnd_calm k w)
    ⟨[], 8, _, rfl, by omega, rfl, bO.alloc _, World.ownsRow_nil _ _ _ _, ((Below.refl _ w).alloc (Nat.le_refl _) _).alloc (by simp) _, by simp⟩
    (fun z => { tmps := #[Value.int IntKind.i64 k, undef, Value.string { data := #[] }, Value.int IntKind.i64 0,
                    Value.pointer (some { block := w.heap.size, off := 0 }), .int .u8 ((z : Int) % 128), .bool (decide ((z : Int) < 128)), Value.int IntKind.i64 k,
                    Value.bool false, Value.bool false, Value.int IntKind.i64 k, Value.bool false, Value.bool false,
                    Value.int IntKind.i64 k, Value.int IntKind.u64 (IntKind.u64.wrap k),
                    Value.int IntKind.u64 (IntKind.u64.wrap (IntKind.u64.wrap k * 2)), Value.int IntKind.i64 k,
                    Value.int IntKind.i64 (k / 9223372036854775808),
                    Value.int IntKind.u64 (IntKind.u64.wrap (k / 9223372036854775808)),
                    Value.int IntKind.u64 (WireP.zz k : Nat),
                    Value.func (Fn.func 128) #[] #[Value.pointer (some { block := w.heap.size + 1, off := 0 })], .int .u8 ((z : Int) % 128), .bool (decide ((z : Int) < 128)),
                    undef, undef, undef, undef, undef, undef, undef, undef, undef, undef], defers := [] }) ?assign ?body ?done
  case assign =>
    intro l z W K hK
    gi_wp2
    exact hK
  case body =>
    rintro l z W ⟨done, f, v, g1, g2, g3, g4, g5, g6, g7⟩ hz
    have hc := g4.cell
    have hf := g4.frozen
    have hor := or128 z
    have hlen : done.length ≤ 8 := by omega
    clear d1 d2
    by_cases h128 : z < 128
    · have d3 : decide ((z : Int) < 128) = true := by simp; omega
      rw [d3]
      gi_wp2_with (gi_at_builtin; refine wpListIn_append_own _ rfl _ _ 100 rfl (w.heap.size + 2) 5 i0 (.int .u8 0) 1 1 Tryz.underlying100 hi hz0 hz1 hz2 rfl (by decide) _ _ _ rfl (g5.alloc _) ⟨W.heap.size, 0, none⟩ 1 1 _ rfl (by rfl) (cell_one_new _ _ _) (by simp [Value.oneCell']) (by unfold maxLen; omega) (by omega) (by simp; omega) ?_; intro v' w1 hown' hgrow _; obtain ⟨g', cap', rfl⟩ := ownsRow_succ hown'; obtain ⟨hv1, hv2, hr2, hk2, hb2, hz2, hs2⟩ := put_appended g4 g5 g7 hown' hgrow; have hc1 := hv1.cell; have hf1 := hv1.frozen)
      have e : (((UInt8.ofNat z).toNat : Nat) : Int) = (z : Int) % 128 := by
        rw [WireP.ofNat_toNat (by omega)]; omega
      have R := putAt_step (b := UInt8.ofNat z) g1 g2 g3 (by rw [if_pos h128]) hv2 (by rw [e]; exact hr2) (g6.trans hb2) hs2
      rwa [if_pos h128] at R
    · have d3 : decide ((z : Int) < 128) = false := by simp; omega
      rw [d3]
      gi_wp2_with (gi_at_builtin; refine wpListIn_append_own _ rfl _ _ 100 rfl (w.heap.size + 2) 5 i0 (.int .u8 0) 1 1 Tryz.underlying100 hi hz0 hz1 hz2 rfl (by decide) _ _ _ rfl (g5.alloc _) ⟨W.heap.size, 0, none⟩ 1 1 _ rfl (by rfl) (cell_one_new _ _ _) (by simp [Value.oneCell']) (by unfold maxLen; omega) (by omega) (by simp; omega) ?_; intro v' w1 hown' hgrow _; obtain ⟨g', cap', rfl⟩ := ownsRow_succ hown'; obtain ⟨hv1, hv2, hr2, hk2, hb2, hz2, hs2⟩ := put_appended g4 g5 g7 hown' hgrow; have hc1 := hv1.cell; have hf1 := hv1.frozen)
      have e : (((UInt8.ofNat (z % 128 + 128)).toNat : Nat) : Int) = ((z % 128 + 128 : Nat) : Int) := by
        rw [WireP.ofNat_toNat (by omega)]
      have R := putAt_step (b := UInt8.ofNat (z % 128 + 128)) g1 g2 g3 (by rw [if_neg h128]) hv2 (by rw [e]; exact hr2) (g6.trans hb2) hs2
      rwa [if_neg h128] at R
  case done =>
    rintro D W hD ⟨v, g1, g2, g3, g4⟩ hK
    have hlen : (WireP.enc (WireP.zz k)).length = ((WireP.enc (WireP.zz k)).length - 1) + 1 := by
      have := WireP.encF_pos 8 (WireP.zz k)
      unfold WireP.enc; omega
    rw [hlen] at g2
    obtain ⟨g, cap, rfl⟩ := ownsRow_succ g2
    have hc := g1.cell
    have hcv := run_string_of_row (P := Tryz.prog) W 100 9 5 ⟨g, 0, none⟩ ((WireP.enc (WireP.zz k)).length - 1 + 1) cap (WireP.enc (WireP.zz k)) Tryz.underlying100 Tryz.underlying5 Tryz.underlying9 hlen (g2.cells rfl)
    clear hlen d1 d2
    gi_wp2
    refine ⟨by simp, .inl ⟨_, _, rfl, run_takeDeferred hK, ?_⟩⟩
    exact ⟨_, results_tmp2 rfl _ _ _, rfl, g3.grown (grownBy_putObj' W D _) g3.size (fun r e => by cases e; simp at hD; omega)⟩
end Go.Proofs.YtgjajhopjcdflaaGreat
namespace Go.Proofs.YtgjajhopjcdflaaGreat
open Go Go.RowKit

def putSpec (k : Int) : List UInt8 × Int := if k < -4611686018427387903 ∨ 4611686018427387903 < k then ([], 10) else (WireP.enc (WireP.zz k), 0)
def V2s (r : List UInt8 × Int) : Value := .tuple #[.string ⟨r.1.toArray⟩, .int .i64 r.2]

set_option maxRecDepth 100000 in
set_option maxHeartbeats 400000 in
theorem putInt_any (k : Int) (w : World) (h1 : -9223372036854775808 ≤ k) (h2 : k ≤ 9223372036854775807) :
    Calls Tryz.prog 85 #[.int .i64 k] w fun e w' => e = .returned (V2s (putSpec k)) ∧ Below w.heap.size w w' := by
  by_cases h : k < -4611686018427387903 ∨ 4611686018427387903 < k
  · have H := Lib.hid (show putSpec k = ([], 10) by unfold putSpec; rw [if_pos h])
    rcases h with h | h
    · go_enter Tryz.func85, Tryz.ntmps85
      go_wp2
      go_ret2
      exact ⟨by rw [H.out]; rfl, Below.refl _ _⟩
    · have d1 : ¬ k < -4611686018427387903 := by omega
      go_enter Tryz.func85, Tryz.ntmps85
      go_wp2
      go_ret2
      exact ⟨by rw [H.out]; rfl, Below.refl _ _⟩
  · have e : putSpec k = (WireP.enc (WireP.zz k), 0) := by unfold putSpec; rw [if_neg h]
    rw [e]
    exact callsIn_wide.1 (putInt_in k w (by omega) (by omega))

theorem putSpec_len (k : Int) : (putSpec k).1.length ≤ 9 := by
  unfold putSpec
  split
  · simp
  · exact WireP.encF_len 8 _

def putStrSpec (l : List UInt8) : List UInt8 × Int := if 65536 < l.length then ([], 10) else (WireP.enc (WireP.zz l.length) ++ l, 0)

set_option maxRecDepth 100000 in
set_option maxHeartbeats 400000 in
theorem putString_any (s : ByteArray) (w : World) (hs : s.size ≤ 140737488351232) :
    Calls Tryz.prog 87 #[.string s] w fun e w' => e = .returned (V2s (putStrSpec s.data.toList)) ∧ Below w.heap.size w w' := by
  by_cases h : 65536 < s.size
  · have H := Lib.hid (show putStrSpec s.data.toList = ([], 10) by unfold putStrSpec; rw [if_pos (by simpa using h)])
    go_enter Tryz.func87, Tryz.ntmps87
    go_wp2
    go_ret2
    exact ⟨by rw [H.out]; rfl, Below.refl _ _⟩
  · have e1 : putStrSpec s.data.toList = ((putSpec (s.size : Int)).1 ++ s.data.toList, 0) := by
      unfold putStrSpec putSpec
      rw [if_neg (by simpa using h), if_neg (by omega)]
      simp
    have hl := putSpec_len (s.size : Int)
    have hc := putInt_any (s.size : Int)
    obtain ⟨p, hp⟩ : ∃ p, putSpec (s.size : Int) = p := ⟨_, rfl⟩
    obtain ⟨q, x⟩ := p
    rw [hp] at e1 hl hc
    clear hp
    have H := Lib.hid e1; clear e1
    have HC := Lib.hid hc; clear hc
    dsimp only at hl
    go_enter Tryz.func87, Tryz.ntmps87
    go_wp2_with fail
    refine (HC.out _ (by omega) (by omega)).mono ?_
    rintro e w' ⟨rfl, hb⟩
    unfold V2s
    go_wp2
    go_ret2
    refine ⟨?_, hb⟩
    rw [H.out]
    exact congrArg (fun v => Ending.returned (.tuple #[.string v, .int .i64 0])) (append_right q s)
end Go.Proofs.YtgjajhopjcdflaaGreat
