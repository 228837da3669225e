/- The reference's digits. -/
import Derived.Test.YtfiabonacpepnaaGreatDoorCtPa
namespace Go.Proofs.YtfiabonacpepnaaGreatDoor
open Go Go.RowKit Go.Lib Go.Shelf Go.Maps

/-- the digits of m ahead of what is written -/
def digG (m : Nat) (o : List UInt8) : List UInt8 := if o = [] then decDigits m else if m = 0 then o else decDigits m ++ o
theorem digG_step (m : Nat) (o : List UInt8) (h : o = [] ∨ 0 < m) : digG m o = digG (m / 10) (UInt8.ofNat (48 + m % 10) :: o) := by
  unfold digG
  rw [if_neg (show ¬ (UInt8.ofNat (48 + m % 10) :: o) = [] by simp)]
  by_cases hm : m < 10
  · rw [if_pos (show m / 10 = 0 by omega), Nat.mod_eq_of_lt hm, dec_small hm]
    by_cases ho : o = []
    · rw [if_pos ho, ho]
    · rw [if_neg ho, if_neg (by rcases h with h | h; exact absurd h ho; omega)]
      rfl
  · rw [if_neg (show ¬ m / 10 = 0 by omega), dec_big hm]
    by_cases ho : o = []
    · rw [if_pos ho, ho]
    · rw [if_neg ho, if_neg (by omega)]
      simp
theorem digG_len (m : Nat) (o : List UInt8) : o.length ≤ (digG m o).length := by
  unfold digG
  split
  · rename_i h; rw [h]; simp
  · split
    · exact Nat.le_refl _
    · rw [List.length_append]; omega
/-- string([]byte{b}) -/
theorem one_byte (P : Program) (src dst e : TypeId) (hs : P.underlying src = some (.slice e)) (he : P.underlying e = some (.int .u8)) (hd : P.underlying dst = some .string) (b : UInt8) :
    ∀ (wx : World) (a : Addr), wx.cell? a = some (.int .u8 (b.toNat : Int)) → (convert src dst (.slice (some a) 1 1)).run P wx = .ok (.string ⟨#[b]⟩) wx := fun wx a h =>
  run_string_of_row wx src dst e a 1 1 [b] hs he hd rfl (fun j u hj => by
    match j, hj with
    | 0, hj => simp [u8s] at hj; subst hj; simpa [Addr.add] using h)
def emptyV : Value → Nat
  | .string s => if s.size = 0 then 1 else 0
  | _ => 0
set_option maxRecDepth 100000 in
set_option maxHeartbeats 4000000 in
theorem rdigits_any (n : Nat) (w : World) (hn : n < 1000000000000000000) :
    Calls Tryz.prog 66 #[.int .i64 (n : Int)] w fun e w' => e = .returned (strV (decDigits n)) ∧ Below w.heap.size w w' := by
  have hlen : (decDigits n).length ≤ 18 := dec_len 17 n (by omega)
  have h0 : digG n [] = decDigits n := rfl
  obtain ⟨R, hR⟩ : ∃ R, decDigits n = R := ⟨_, rfl⟩
  rw [hR] at hlen h0 ⊢
  have H0 := Lib.hid h0
  have HL := Lib.hid hlen
  clear hR h0 hlen
  unfold strV
  go_enter Tryz.func66, Tryz.ntmps66
  go_wp2_with fail
  go_loopw [0, 3] (fun nv ov wr => ∃ (m : Nat) (o : List UInt8), nv = .int .i64 m ∧ ov = .string ⟨o.toArray⟩ ∧ m ≤ n ∧ Hid (digG m o = R ∧ Below w.heap.size w wr)) (fun nv ov _ => (intOf nv).toNat + emptyV ov)
  case atStart => exact ⟨n, [], rfl, rfl, Nat.le_refl _, Lib.hid ⟨H0.out, Below.refl _ _⟩⟩
  case round =>
    obtain ⟨m, o, rfl, rfl, hmn, HR⟩ := hrel
    have hol : o.length ≤ 18 := by have := digG_len m o; rw [HR.out.1] at this; have := HL.out; omega
    have hsr : w.heap.size ≤ wr.heap.size := HR.out.2.size
    by_cases hgo : o = [] ∨ 0 < m
    · have HS := Lib.hid ((digG_step m o hgo).symm.trans HR.out.1)
      have HB := Lib.hid HR.out.2
      obtain ⟨r, hr⟩ : ∃ r, m % 10 = r := ⟨_, rfl⟩
      obtain ⟨q, hq⟩ : ∃ q, m / 10 = q := ⟨_, rfl⟩
      rw [hr, hq] at HS
      have hr9 : r < 10 := by omega
      have hq2 : q ≤ n := by omega
      have hlt : q + (if ((UInt8.ofNat (48 + r) :: o).toArray.size = 0) then 1 else 0) < m + (if o.toArray.size = 0 then 1 else 0) := by
        simp
        rcases hgo with h | h
        · rw [h]; simp; omega
        · split <;> omega
      have HLT := Lib.hid hlt
      have e1 : (m : Int).tmod 10 = (r : Int) := by rw [← hr]; exact Int.ofNat_tmod m 10 |>.symm
      have e2 : (m : Int).tdiv 10 = (q : Int) := by rw [← hq]; exact Int.ofNat_tdiv m 10 |>.symm
      have e3 : (m : Int) % 10 = (r : Int) := by omega
      have e4 : (m : Int) / 10 = (q : Int) := by omega
      obtain ⟨B, hB⟩ : ∃ B, UInt8.ofNat (48 + r) = B := ⟨_, rfl⟩
      have hBn : (B.toNat : Int) = 48 + (r : Int) := by rw [← hB, (dig_ofNat hr9).2]; omega
      rw [hB] at HS HLT
      have hcv := one_byte Tryz.prog 59 9 5 Tryz.underlying59 Tryz.underlying5 Tryz.underlying9 B
      rw [hBn] at hcv
      clear HR hr hq hlt hB hBn
      rcases hgo with rfl | hm0
      · go_wp2_with fail
        rw [show (⟨#[B]⟩ : ByteArray) ++ ⟨#[]⟩ = ⟨[B].toArray⟩ from ba_app [B] []]
        exact ⟨⟨q, [B], rfl, rfl, hq2, Lib.hid ⟨HS.out, HB.out.alloc hsr _⟩⟩, HLT.out⟩
      · have d0 : decide ((0 : Int) < (m : Int)) = true := by simp; omega
        by_cases ho : o = []
        · subst ho
          go_wp2_with fail
          rw [show (⟨#[B]⟩ : ByteArray) ++ ⟨#[]⟩ = ⟨[B].toArray⟩ from ba_app [B] []]
          exact ⟨⟨q, [B], rfl, rfl, hq2, Lib.hid ⟨HS.out, HB.out.alloc hsr _⟩⟩, HLT.out⟩
        · have qo : (o == []) = false := beq_eq_false_iff_ne.2 ho
          clear ho
          go_wp2_with fail
          rw [show (⟨#[B]⟩ : ByteArray) ++ ⟨o.toArray⟩ = ⟨(B :: o).toArray⟩ from ba_app [B] o]
          exact ⟨⟨q, B :: o, rfl, rfl, hq2, Lib.hid ⟨HS.out, HB.out.alloc hsr _⟩⟩, HLT.out⟩
    · have h1 : o ≠ [] := fun h => hgo (.inl h)
      obtain rfl : m = 0 := by omega
      have HE : Hid (o = R) := Lib.hid (by have := HR.out.1; unfold digG at this; rw [if_neg h1, if_pos rfl] at this; exact this)
      have HB := Lib.hid HR.out.2
      clear HR hgo
      cases o with
      | nil => exact absurd rfl h1
      | cons c x =>
        clear h1
        go_wp2_with fail
        go_ret
        exact ⟨by rw [← HE.out]; rfl, HB.out⟩
end Go.Proofs.YtfiabonacpepnaaGreatDoor
