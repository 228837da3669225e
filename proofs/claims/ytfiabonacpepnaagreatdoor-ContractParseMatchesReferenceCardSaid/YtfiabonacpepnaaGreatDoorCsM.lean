/- The reference's reading of a line: number, share, read, Of; it finds the same terms as the program. No program in sight. The reference's number. The reference's share. The reference's words. The reference's read (printed by gen_read.py). The reference's read (printed by gen_reada.py). The reference's Of. The reference's Parse (printed by gen_rparse.py). ContractParseMatchesReference: the walk. -/
import Derived.Test.YtfiabonacpepnaaGreatDoorCtD
import Derived.Test.YtfiabonacpepnaaGreatDoorCtX
import Derived.Test.YtfiabonacpepnaaGreatDoorCtO
import Derived.Test.YtfiabonacpepnaaGreatDoorCtM
import Derived.Test.YtfiabonacpepnaaGreatDoorCtPa
import Derived.Test.YtfiabonacpepnaaGreatDoorCtRe
import Derived.Test.YtfiabonacpepnaaGreatDoorTmK
import Derived.Test.YtfiabonacpepnaaGreatDoorCtP
import Derived.WalkMore
namespace Go.Proofs.YtfiabonacpepnaaGreatDoor
section
open Go Go.Lib

def numR (s : List UInt8) : Int := if s = [] ∨ 16 < s.length then -1 else if s.all isDig = true then (valD s : Int) else -1
theorem valD_lt {s : List UInt8} (h : s.all isDig = true) : valD s < 10 ^ s.length := by
  have := (foldD_bd s 0 h).2
  simpa [valD] using this
theorem numR_bd (s : List UInt8) : -1 ≤ numR s ∧ numR s < 10000000000000000 := by
  unfold numR
  split
  · omega
  · rename_i h
    split
    · rename_i h2
      have h3 := valD_lt h2
      have h4 : 10 ^ s.length ≤ 10 ^ 16 := Nat.pow_le_pow_right (by decide) (by omega)
      omega
    · omega
theorem numR_dec {n : Nat} (h : n < 10000000000000000) : numR (decDigits n) = n := by
  unfold numR
  have := dec_len 15 n (by omega)
  rw [if_neg (by have := dec_ne n; simp only [not_or]; exact ⟨this, by omega⟩), if_pos (dec_digs n), dec_val]
/-- where the first point stands; the length if there is none -/
def ptR : List UInt8 → Nat
  | [] => 0
  | c :: r => if c = 46 then 0 else ptR r + 1
theorem ptR_le (s : List UInt8) : ptR s ≤ s.length := by
  induction s with
  | nil => exact Nat.le_refl _
  | cons c r ih => unfold ptR; split <;> simp; exact ih
theorem ptR_app {x : List UInt8} (h : (46 : UInt8) ∉ x) (r : List UInt8) : ptR (x ++ r) = x.length + ptR r := by
  induction x with
  | nil => simp
  | cons c x ih =>
    simp only [List.mem_cons, not_or] at h
    rw [List.cons_append, ptR, if_neg (fun e => h.1 e.symm), ih h.2, List.length_cons]
    omega
theorem ptR_at {s : List UInt8} {k : Nat} (h : s[k]? = some 46) (h2 : (46 : UInt8) ∉ s.take k) : ptR s = k := by
  have hk := (List.getElem?_eq_some_iff.1 h).1
  have e : s = s.take k ++ 46 :: s.drop (k + 1) := by
    have := List.take_append_drop k s
    rw [List.drop_eq_getElem_cons hk, (List.getElem?_eq_some_iff.1 h).2] at this
    exact this.symm
  rw [e, ptR_app h2, List.length_take, ptR, if_pos rfl]
  omega
theorem ptR_no {s : List UInt8} (h : (46 : UInt8) ∉ s) : ptR s = s.length := by
  have := ptR_app h []
  simpa [ptR] using this
def padR (s : List UInt8) : List UInt8 := s ++ List.replicate (4 - s.length) 48
def restR (s : List UInt8) : List UInt8 := padR (s.drop (ptR s + 1))
def shB (s : List UInt8) : Int :=
  if numR (s.take (ptR s)) < 0 ∨ 100 < numR (s.take (ptR s)) ∨ numR (restR s) < 0 ∨ 4 < (restR s).length then -1
  else 10000 * numR (s.take (ptR s)) + numR (restR s)
/-- what the reference's share returns -/
def shR (w : List UInt8) : Int := if w.length < 2 ∨ w.getLast? ≠ some 37 then -1 else shB w.dropLast
theorem numR_bd4 {s : List UInt8} (h : s.length ≤ 4) : numR s < 10000 := by
  unfold numR
  split
  · omega
  · split
    · rename_i h2
      have h3 := valD_lt h2
      have h4 : 10 ^ s.length ≤ 10 ^ 4 := Nat.pow_le_pow_right (by decide) h
      omega
    · omega
theorem shR_bd (w : List UInt8) : -1 ≤ shR w ∧ shR w < 1010000 := by
  unfold shR
  split
  · omega
  · unfold shB
    split
    · omega
    · rename_i h
      have := numR_bd4 (s := restR w.dropLast) (by omega)
      omega
theorem pad4_val {r : Nat} (h : r < 10000) : valD (pad4 r) = r := by
  unfold pad4 valD
  simp only [List.foldl_cons, List.foldl_nil, stepD]
  rw [(dig_ofNat (d := r / 1000) (by omega)).2, (dig_ofNat (d := r / 100 % 10) (by omega)).2, (dig_ofNat (d := r / 10 % 10) (by omega)).2, (dig_ofNat (d := r % 10) (by omega)).2]
  omega
theorem pad4_digs {r : Nat} (h : r < 10000) : (pad4 r).all isDig = true := by
  unfold pad4
  simp only [List.all_cons, List.all_nil]
  rw [(dig_ofNat (d := r / 1000) (by omega)).1, (dig_ofNat (d := r / 100 % 10) (by omega)).1, (dig_ofNat (d := r / 10 % 10) (by omega)).1, (dig_ofNat (d := r % 10) (by omega)).1]
  rfl
theorem numR_pad4 {r : Nat} (h : r < 10000) : numR (pad4 r) = r := by
  have h1 := pad4_digs h
  have h2 := pad4_val h
  unfold numR
  rw [if_neg (by simp [pad4]), if_pos h1, h2]
theorem shR_pct {n : Nat} (h : n < 1010000) : shR (pctL n) = n := by
  have hno : (46 : UInt8) ∉ decDigits (n / 10000) := dig_no (dec_digs _) (by decide)
  have hd := numR_dec (n := n / 10000) (by omega)
  have hlen : 1 ≤ (decDigits (n / 10000)).length := by have := dec_ne (n / 10000); cases hh : decDigits (n / 10000) with | nil => exact absurd hh this | cons a b => simp
  unfold shR pctL
  rw [if_neg (by rw [List.getLast?_concat]; simp; omega), List.dropLast_concat]
  unfold shB restR
  by_cases h0 : n % 10000 = 0
  · rw [if_pos h0, List.append_nil, ptR_no hno, List.take_length, List.drop_eq_nil_of_le (by omega), hd]
    have e : numR (padR []) = 0 := by decide
    have e2 : (padR []).length = 4 := by decide
    rw [e, e2, if_neg (by omega)]
    omega
  · obtain ⟨j, h1, h2, h3, h4, h5⟩ := frac_spec (r := n % 10000) (by omega) (by omega)
    rw [if_neg h0, ptR_app hno, ptR, if_pos rfl, Nat.add_zero, List.take_left', List.drop_append, List.drop_eq_nil_of_le (by omega), hd]
    · rw [show (decDigits (n / 10000)).length + 1 - (decDigits (n / 10000)).length = 1 by omega]
      simp only [List.nil_append, List.drop_succ_cons, List.drop_zero]
      have hp : padR (fracL (n % 10000)) = pad4 (n % 10000) := by
        unfold padR
        rw [show 4 - (fracL (n % 10000)).length = j by omega]
        rw [dec_pad (by omega)] at h1
        simpa using h1
      rw [hp, numR_pad4 (by omega), if_neg (by simp [pad4]; omega)]
      omega
    · rfl
/-- the term that the reference's read makes of the words of a line -/
def readR (ws : List (List UInt8)) : TermV :=
  let a := fun i => (ws[i]?).getD []
  if a 0 = kPass ∧ ws.length = 4 then ⟨1, shR (a 1), numR (a 3), 0, []⟩
  else if a 0 = kPass ∧ ws.length = 6 then ⟨1, shR (a 1), numR (a 3), numR (a 5), []⟩
  else if a 0 = kTax ∧ ws.length = 2 then ⟨2, shR (a 1), 0, 0, []⟩
  else if a 0 = kReserve ∧ ws.length = 4 then ⟨3, shR (a 1), numR (a 3), 0, []⟩
  else if a 0 = kCap ∧ ws.length = 2 then ⟨4, numR (a 1), 0, 0, []⟩
  else if a 0 = kRecoup then ⟨5, 0, 0, 0, (ws.drop 1).map numR⟩
  else zeroT
theorem readR_words {t : TermV} (h : validT t = true) : readR (wordsT t) = t := by
  obtain ⟨k, n, m, ab, acc⟩ := t
  rcases validT_cases h with ⟨rfl, h2, h3, rfl, h5, h6, h7, h8⟩ | ⟨rfl, h2, h3, rfl, rfl, rfl⟩ | ⟨rfl, h2, h3, rfl, h5, h6, rfl⟩ | ⟨rfl, h2, h3, rfl, rfl, rfl⟩ | ⟨rfl, rfl, rfl, rfl, h5, h6, h7, h8⟩
  all_goals simp only at *
  · obtain ⟨n', rfl⟩ := Int.eq_ofNat_of_zero_le (show 0 ≤ n by omega)
    obtain ⟨m', rfl⟩ := Int.eq_ofNat_of_zero_le (show 0 ≤ m by omega)
    obtain ⟨a', rfl⟩ := Int.eq_ofNat_of_zero_le (show 0 ≤ ab by omega)
    have e1 : shR (pctI (n' : Int)) = n' := by unfold pctI; rw [Int.toNat_natCast]; exact shR_pct (by omega)
    have e2 : numR (decI (m' : Int)) = m' := by unfold decI; rw [Int.toNat_natCast]; exact numR_dec (by omega)
    have e3 : numR (decI (a' : Int)) = a' := by unfold decI; rw [Int.toNat_natCast]; exact numR_dec (by omega)
    unfold wordsT readR
    simp only [if_true]
    by_cases h0 : (0 : Int) < (a' : Int)
    · rw [if_pos h0]
      rw [if_neg (by simp), if_pos (by simp)]
      show (⟨1, shR (pctI (n' : Int)), numR (decI (m' : Int)), numR (decI (a' : Int)), []⟩ : TermV) = _
      rw [e1, e2, e3]
    · rw [if_neg h0]
      rw [if_pos (by simp)]
      show (⟨1, shR (pctI (n' : Int)), numR (decI (m' : Int)), 0, []⟩ : TermV) = _
      rw [e1, e2, show (a' : Int) = 0 by omega]
  · obtain ⟨n', rfl⟩ := Int.eq_ofNat_of_zero_le (show 0 ≤ n by omega)
    have e1 : shR (pctI (n' : Int)) = n' := by unfold pctI; rw [Int.toNat_natCast]; exact shR_pct (by omega)
    unfold wordsT readR
    simp only [if_true, if_neg (show ¬ (2 : Int) = 1 by decide)]
    rw [if_neg (by simp), if_neg (by simp), if_pos (by simp)]
    show (⟨2, shR (pctI (n' : Int)), 0, 0, []⟩ : TermV) = _
    rw [e1]
  · obtain ⟨n', rfl⟩ := Int.eq_ofNat_of_zero_le (show 0 ≤ n by omega)
    obtain ⟨m', rfl⟩ := Int.eq_ofNat_of_zero_le (show 0 ≤ m by omega)
    have e1 : shR (pctI (n' : Int)) = n' := by unfold pctI; rw [Int.toNat_natCast]; exact shR_pct (by omega)
    have e2 : numR (decI (m' : Int)) = m' := by unfold decI; rw [Int.toNat_natCast]; exact numR_dec (by omega)
    unfold wordsT readR
    simp only [if_true, if_neg (show ¬ (3 : Int) = 1 by decide), if_neg (show ¬ (3 : Int) = 2 by decide)]
    rw [if_neg (by simp [kPass, kReserve]), if_neg (by simp), if_neg (by simp), if_pos (by simp)]
    show (⟨3, shR (pctI (n' : Int)), numR (decI (m' : Int)), 0, []⟩ : TermV) = _
    rw [e1, e2]
  · obtain ⟨n', rfl⟩ := Int.eq_ofNat_of_zero_le (show 0 ≤ n by omega)
    have e2 : numR (decI (n' : Int)) = n' := by unfold decI; rw [Int.toNat_natCast]; exact numR_dec (by omega)
    unfold wordsT readR
    simp only [if_true, if_neg (show ¬ (4 : Int) = 1 by decide), if_neg (show ¬ (4 : Int) = 2 by decide), if_neg (show ¬ (4 : Int) = 3 by decide)]
    rw [if_neg (by simp), if_neg (by simp), if_neg (by simp [kTax, kCap]), if_neg (by simp), if_pos (by simp)]
    show (⟨4, numR (decI (n' : Int)), 0, 0, []⟩ : TermV) = _
    rw [e2]
  · unfold wordsT readR
    simp only [if_neg (show ¬ (5 : Int) = 1 by decide), if_neg (show ¬ (5 : Int) = 2 by decide), if_neg (show ¬ (5 : Int) = 3 by decide), if_neg (show ¬ (5 : Int) = 4 by decide), List.getElem?_cons_zero, Option.getD_some]
    rw [if_neg (by simp [kPass, kRecoup]), if_neg (by simp [kPass, kRecoup]), if_neg (by simp [kTax, kRecoup]), if_neg (by simp [kReserve, kRecoup]), if_neg (by simp [kCap, kRecoup]), if_pos trivial]
    simp only [List.drop_succ_cons, List.drop_zero, List.map_map, TermV.mk.injEq, true_and]
    have : acc.map (numR ∘ decI) = acc.map id := by
      refine List.map_congr_left fun a ha => ?_
      have := h7 a ha
      show numR (decI a) = a
      unfold decI
      rw [numR_dec (by omega)]
      omega
    rw [this, List.map_id]
/-- what the reference's Of returns -/
def ofR (s : List UInt8) : TermV × Bool := if validT (readR (splitL 32 s)) = true then (readR (splitL 32 s), lineT (readR (splitL 32 s)) == s) else (zeroT, false)
theorem ofR_eq (s : List UInt8) : (ofR s).2 = (termV s).2 ∧ ((ofR s).2 = true → (ofR s).1 = (termV s).1) := by
  cases h : (termV s).2 with
  | true =>
    obtain ⟨h1, h2⟩ := (termV_iff s (termV s).1).1 (by rw [← h])
    have e : readR (splitL 32 s) = (termV s).1 := by
      have := split_line (termV s).1
      rw [h2] at this
      rw [this]
      exact readR_words h1
    unfold ofR
    rw [e, if_pos h1, h2]
    simp
  | false =>
    have hf : (ofR s).2 = false := by
      unfold ofR
      split
      · rename_i hv
        rw [beq_eq_false_iff_ne]
        intro e
        rw [(termV_iff s (readR (splitL 32 s))).2 ⟨hv, e⟩] at h
        cases h
      · rfl
    exact ⟨hf, fun h => by rw [hf] at h; cases h⟩
end
end Go.Proofs.YtfiabonacpepnaaGreatDoor
namespace Go.Proofs.YtfiabonacpepnaaGreatDoor
section
open Go Go.RowKit Go.Lib Go.Shelf Go.Maps

theorem valD_take {s : List UInt8} {k : Nat} {c : UInt8} (h : s[k]? = some c) : valD (s.take (k + 1)) = valD (s.take k) * 10 + (c.toNat - 48) := by
  rw [List.take_add_one, h]
  exact valD_snoc _ _
set_option maxRecDepth 100000 in
set_option maxHeartbeats 4000000 in
theorem rnumber_any (s : List UInt8) (w : World) (hl : s.length ≤ 1000000) :
    Calls Tryz.prog 97 #[strV s] w fun e w' => e = .returned (.int .i64 (numR s)) ∧ w = w' := by
  unfold strV
  by_cases h0 : s = []
  · subst h0
    rw [show numR [] = -1 from rfl]
    go_enter Tryz.func97, Tryz.ntmps97
    go_wp2_with fail
    go_ret
    exact ⟨rfl, rfl⟩
  have q0 : (s == []) = false := beq_eq_false_iff_ne.2 h0
  obtain ⟨n, hn⟩ : ∃ n, s.length = n := ⟨_, rfl⟩
  by_cases h16 : 16 < n
  · have e : numR s = -1 := by unfold numR; rw [if_pos (.inr (by omega))]
    have d0 : decide (16 < (n : Int)) = true := by simp; omega
    have d1 : decide (16 < n) = true := by simp; omega
    rw [e]
    clear h0 e
    go_enter Tryz.func97, Tryz.ntmps97
    go_wp2_with fail
    go_ret
    exact ⟨rfl, rfl⟩
  · have HV : Hid (numR s = if s.all isDig = true then (valD s : Int) else -1) := Lib.hid (by
      unfold numR
      rw [if_neg (by simp only [not_or]; exact ⟨h0, by omega⟩)])
    have d0 : decide (16 < (n : Int)) = false := by simp; omega
    have d1 : decide (16 < n) = false := by simp; omega
    have HN := Lib.hid hn
    obtain ⟨R, hR⟩ : ∃ R, numR s = R := ⟨_, rfl⟩
    rw [hR] at HV ⊢
    have hno : Hid (∀ c ∈ s, isDig c = false → R = -1) := Lib.hid (fun c hc h => by
      rw [HV.out, if_neg]
      intro h1
      rw [List.all_eq_true.1 h1 c hc] at h
      cases h)
    have hn16 : n ≤ 16 := by omega
    clear h0 hR h16
    go_enter Tryz.func97, Tryz.ntmps97
    go_wp2_with fail
    go_loop [3, 4] (fun nv iv => ∃ k v : Nat, k ≤ n ∧ iv = .int .i64 k ∧ nv = .int .i64 v ∧ v < 10000000000000000 ∧ Hid ((s.take k).all isDig = true ∧ v = valD (s.take k))) (fun _ i => n - (intOf i).toNat)
    case atStart => exact ⟨0, 0, by omega, rfl, rfl, by decide, Lib.hid ⟨rfl, rfl⟩⟩
    case round =>
      obtain ⟨k, v, hk, rfl, rfl, hv, HR⟩ := hrel
      by_cases hk2 : k < n
      · obtain ⟨c, hck⟩ : ∃ c, s[k]? = some c := ⟨_, List.getElem?_eq_getElem (by rw [HN.out]; exact hk2)⟩
        have hix := fun W => run_str_at 9 Tryz.underlying9 s k c hck W
        have HTS : Hid (s.take (k + 1) = s.take k ++ [c]) := Lib.hid (by rw [List.take_add_one, hck]; rfl)
        have HVT := Lib.hid (valD_take hck)
        have HM := Lib.hid (List.mem_of_getElem? hck)
        obtain ⟨x, hx⟩ : ∃ x, c.toNat = x := ⟨_, rfl⟩
        rw [hx] at hix HVT
        have HX := Lib.hid hx
        clear hck hx
        by_cases h1 : x < 48
        · have e1 : decide ((x : Int) < 48) = true := by simp; omega
          have HD := Lib.hid (hno.out c HM.out (by rw [Bool.eq_false_iff]; intro h; have := (isDig_iff c).1 h; have := HX.out; omega))
          go_wp2_with fail
          go_ret
          exact ⟨by rw [HD.out]; rfl, rfl⟩
        · have e1 : decide ((x : Int) < 48) = false := by simp; omega
          by_cases h2 : x ≤ 57
          · have e2 : decide (57 < (x : Int)) = false := by simp; omega
            have HN2 : Hid ((s.take (k + 1)).all isDig = true) := Lib.hid (by
              rw [HTS.out, List.all_append, HR.out.1]
              simp only [List.all_cons, List.all_nil, Bool.and_true, Bool.true_and]
              exact (isDig_iff c).2 (by have := HX.out; omega))
            obtain ⟨y, rfl⟩ : ∃ y, x = y + 48 := ⟨x - 48, by omega⟩
            have HNV : Hid (v * 10 + y = valD (s.take (k + 1)) ∧ v * 10 + y < 10000000000000000) := Lib.hid (by
              have h3 := valD_lt HN2.out
              have h4 : 10 ^ (s.take (k + 1)).length ≤ 10 ^ 16 := Nat.pow_le_pow_right (by decide) (by rw [List.length_take]; omega)
              have h5 := HVT.out
              have h6 := HR.out.2
              rw [← h6] at h5
              omega)
            go_wp2_with fail
            go_round
            case rel => exact ⟨k + 1, v * 10 + y, by omega, by go_num, by go_num, HNV.out.2, Lib.hid ⟨HN2.out, HNV.out.1⟩⟩
            case measure => simp [intOf]; omega
          · have e2 : decide (57 < (x : Int)) = true := by simp; omega
            have HD := Lib.hid (hno.out c HM.out (by rw [Bool.eq_false_iff]; intro h; have := (isDig_iff c).1 h; have := HX.out; omega))
            go_wp2_with fail
            go_ret
            exact ⟨by rw [HD.out]; rfl, rfl⟩
      · obtain rfl : k = n := by omega
        have HD : Hid (R = (v : Int)) := Lib.hid (by
          have h1 := HR.out
          rw [List.take_of_length_le (by rw [HN.out]; exact Nat.le_refl _)] at h1
          rw [HV.out, if_pos h1.1, h1.2])
        go_wp2_with fail
        go_ret
        exact ⟨by rw [HD.out]; rfl, rfl⟩
end
end Go.Proofs.YtfiabonacpepnaaGreatDoor
namespace Go.Proofs.YtfiabonacpepnaaGreatDoor
section
open Go Go.RowKit Go.Lib Go.Shelf Go.Maps

theorem run_sub_end (t : TypeId) (ht : Tryz.prog.underlying t = some .string) (s : List UInt8) (f : Nat) (h : f + 1 ≤ s.length) (w : World) :
    (Instr.slice t (.string ⟨s.toArray⟩) (some (.int .i64 ((f : Int) + 1))) none none).run Tryz.prog w = .ok (.string ⟨(s.drop (f + 1)).toArray⟩) w := by
  have hz : (⟨s.toArray⟩ : ByteArray).size = s.length := rfl
  rw [run_slice_string_l (ht := ht) (h0 := by omega) (h1 := by rw [hz]; omega), hz]
  have e : (⟨s.toArray⟩ : ByteArray).extract ((f : Int) + 1).toNat s.length = ⟨(s.drop (f + 1)).toArray⟩ := by
    rw [extract_eq, show ((f : Int) + 1).toNat = f + 1 by omega, List.take_of_length_le (by simp)]
  rw [e]
theorem run_sub_begin (t : TypeId) (ht : Tryz.prog.underlying t = some .string) (s : List UInt8) (i : Nat) (h : i ≤ s.length) (w : World) :
    (Instr.slice t (.string ⟨s.toArray⟩) none (some (.int .i64 (i : Int))) none).run Tryz.prog w = .ok (.string ⟨(s.take i).toArray⟩) w := by
  have hz : (⟨s.toArray⟩ : ByteArray).size = s.length := rfl
  rw [run_slice_string_h (ht := ht) (h0 := by omega) (h2 := by rw [hz]; omega)]
  have e : (⟨s.toArray⟩ : ByteArray).extract 0 (i : Int).toNat = ⟨(s.take i).toArray⟩ := by
    rw [extract_eq, Int.toNat_natCast, Nat.sub_zero, List.drop_zero]
  rw [e]
/-- s[:len(s)-1] -/
theorem run_sub_init (t : TypeId) (ht : Tryz.prog.underlying t = some .string) (s : List UInt8) (c : UInt8) (w : World) :
    (Instr.slice t (.string ⟨(s ++ [c]).toArray⟩) none (some (.int .i64 (((s.length + 1 : Nat) : Int) - 1))) none).run Tryz.prog w = .ok (.string ⟨s.toArray⟩) w := by
  have h := run_sub_begin t ht (s ++ [c]) s.length (by simp) w
  rw [List.take_left'] at h
  · rw [show ((s.length + 1 : Nat) : Int) - 1 = (s.length : Int) by omega]
    exact h
  · rfl
theorem padR_step {r : List UInt8} {j : Nat} (h : (r ++ List.replicate j 48).length < 4) : j + 1 ≤ 4 - r.length ∧ r ++ List.replicate (j + 1) 48 = r ++ List.replicate j 48 ++ [48] := by
  rw [List.length_append, List.length_replicate] at h
  refine ⟨by omega, ?_⟩
  rw [List.replicate_succ', ← List.append_assoc]
def lenS : Value → Nat
  | .string s => s.size
  | _ => 0
set_option maxRecDepth 100000 in
set_option maxHeartbeats 8000000 in
theorem rshare_any (s : List UInt8) (w : World) (hl : s.length ≤ 1000000) :
    Calls Tryz.prog 96 #[strV s] w fun e w' => e = .returned (.int .i64 (shR s)) ∧ w = w' := by
  unfold strV
  obtain ⟨n, hn⟩ : ∃ n, s.length = n := ⟨_, rfl⟩
  by_cases h2 : n < 2
  · have e : shR s = -1 := by unfold shR; rw [if_pos (.inl (by omega))]
    have d0 : decide ((n : Int) < 2) = true := by simp; omega
    rw [e]
    clear e
    go_enter Tryz.func96, Tryz.ntmps96
    go_wp2_with fail
    go_ret
    exact ⟨rfl, rfl⟩
  have d0 : decide ((n : Int) < 2) = false := by simp; omega
  obtain ⟨S, c, rfl⟩ : ∃ S c, s = S ++ [c] := by
    have hne : s ≠ [] := by intro e; rw [e] at hn; simp at hn; omega
    exact ⟨_, _, (List.dropLast_concat_getLast hne).symm⟩
  obtain ⟨q, hq⟩ : ∃ q, S.length = q := ⟨_, rfl⟩
  obtain rfl : n = q + 1 := by rw [← hn, List.length_append, hq]; rfl
  have hl2 : q ≤ 1000000 := by omega
  have d1 : decide ((q : Int) + 1 < 2) = false := by simp; omega
  have hlast := fun W => run_str_at 9 Tryz.underlying9 (S ++ [c]) q c (by rw [← hq]; simp) W
  have hinit := fun W => run_sub_begin 9 Tryz.underlying9 (S ++ [c]) q (by omega) W
  rw [List.take_left' hq] at hinit
  have HSH : Hid (shR (S ++ [c]) = if c = 37 then shB S else -1) := Lib.hid (by
    unfold shR
    rw [List.getLast?_concat, List.dropLast_concat, hn]
    by_cases h : c = 37
    · rw [if_pos h, if_neg (by simp [h]; omega)]
    · rw [if_neg h, if_pos (.inr (by simpa using h))])
  obtain ⟨R, hR⟩ : ∃ R, shR (S ++ [c]) = R := ⟨_, rfl⟩
  rw [hR] at HSH ⊢
  obtain ⟨X0, hX0⟩ : ∃ X, S ++ [c] = X := ⟨_, rfl⟩
  rw [hX0] at hn hlast hinit ⊢
  clear hR hX0 hl
  by_cases h37 : c = 37
  rotate_left
  · have n37 : ((c.toNat : Int) != 37) = true := by
      rw [bne_iff_ne]
      intro e
      exact h37 (by rw [← ofNat_toNat c, show c.toNat = 37 by omega]; rfl)
    have HR := Lib.hid (HSH.out.trans (if_neg h37))
    clear h37
    go_enter Tryz.func96, Tryz.ntmps96
    go_wp2_with fail
    go_ret
    exact ⟨by rw [HR.out]; rfl, rfl⟩
  · subst h37
    have HSW := Lib.hid (HSH.out.trans (if_pos rfl))
    have hlast2 : ∀ W, (Instr.index 9 (.string ⟨X0.toArray⟩) (.int .i64 (q : Int))).run Tryz.prog W = .ok (.int .u8 37) W := hlast
    have HQ := Lib.hid hq
    clear hlast HSH
    go_enter Tryz.func96, Tryz.ntmps96
    go_wp2_with fail
    go_loopw [3, 4] (fun pv iv wr => ∃ k : Nat, iv = .int .i64 k ∧ k ≤ q ∧ pv = .int .i64 q ∧ wr = w ∧ Hid ((46 : UInt8) ∉ S.take k)) (fun _ iv _ => q - (intOf iv).toNat)
    case atStart => exact ⟨0, rfl, Nat.zero_le _, rfl, rfl, Lib.hid (by simp)⟩
    case round =>
      obtain ⟨k, rfl, hk, rfl, rfl, HNO⟩ := hrel
      by_cases hkq : k < q
      · obtain ⟨c, hck⟩ : ∃ c, S[k]? = some c := ⟨_, List.getElem?_eq_getElem (by rw [HQ.out]; exact hkq)⟩
        have hix := fun W => run_str_at 9 Tryz.underlying9 S k c hck W
        by_cases h46 : c = 46
        · subst h46
          have HPT := Lib.hid (ptR_at hck HNO.out)
          have hbeg := fun W => run_sub_begin 9 Tryz.underlying9 S k (by rw [HQ.out]; omega) W
          have hend := fun W => run_sub_end 9 Tryz.underlying9 S k (by rw [HQ.out]; omega) W
          obtain ⟨T, hT⟩ : ∃ T, S.take k = T := ⟨_, rfl⟩
          obtain ⟨R0, hR0⟩ : ∃ T, S.drop (k + 1) = T := ⟨_, rfl⟩
          have hTl : T.length ≤ 1000000 := by rw [← hT, List.length_take]; omega
          have hR0l : R0.length ≤ 1000000 := by rw [← hR0, List.length_drop, HQ.out]; omega
          have HR0 : Hid (S.drop (ptR S + 1) = R0) := Lib.hid (by rw [HPT.out, hR0])
          obtain ⟨a, ha⟩ : ∃ a, numR T = a := ⟨_, rfl⟩
          have HAA : Hid (numR (S.take k) = a) := Lib.hid (by rw [hT, ha])
          have hab := numR_bd T
          have HNU1 := Lib.hid (rnumber_any T wr hTl)
          rw [ha] at hab HNU1
          rw [hT] at hbeg
          rw [hR0] at hend
          unfold strV at HNU1
          clear hck hT hR0 ha hTl
          go_wp2_with fail
          obtain ⟨m0, hm0⟩ : ∃ m, R0.length = m := ⟨_, rfl⟩
          have HM0 := Lib.hid hm0
          clear hm0
          go_loopw [5] (fun rv wy => ∃ (j : Nat) (X : List UInt8), rv = .string ⟨X.toArray⟩ ∧ X.length ≤ 1000000 ∧ wy = wr ∧ Hid (j ≤ 4 - m0 ∧ X = R0 ++ List.replicate j 48)) (fun rv _ => 4 - lenS rv)
          case atStart => exact ⟨0, R0, rfl, hR0l, rfl, Lib.hid ⟨Nat.zero_le _, by simp⟩⟩
          case round =>
            obtain ⟨j, X, rfl, hXl, rfl, HX⟩ := hrel
            obtain ⟨x, hx⟩ : ∃ x, X.length = x := ⟨_, rfl⟩
            have HXN := Lib.hid hx
            by_cases hx4 : x < 4
            · have e4 : decide ((x : Int) < 4) = true := by simp; omega
              have HST := Lib.hid (padR_step (r := R0) (j := j) (by rw [← HX.out.2, HXN.out]; exact hx4))
              clear hXl
              have hXs : X.length ≤ 100 := by rw [hx]; omega
              go_wp2_with fail
              rw [show (⟨X.toArray⟩ : ByteArray) ++ ⟨#[48]⟩ = ⟨(X ++ [48]).toArray⟩ from ba_app X [48]]
              refine ⟨⟨j + 1, X ++ [48], rfl, by simp; omega, by first | rfl | trivial, Lib.hid ⟨by have h1 := HST.out.1; have h2 := HM0.out; rw [h2] at h1; exact h1, by rw [HST.out.2, ← HX.out.2]⟩⟩, ?_⟩
              show 4 - (X ++ [48]).length < 4 - X.length
              rw [List.length_append]; simp; omega
            · have e4 : decide ((x : Int) < 4) = false := by simp; omega
              have HRR : Hid (restR S = X ∧ 4 ≤ x) := Lib.hid (by
                refine ⟨?_, by omega⟩
                have h1 := HX.out
                have h2 := HM0.out
                have h3 := congrArg List.length h1.2
                rw [HXN.out, List.length_append, List.length_replicate, h2] at h3
                unfold restR padR
                rw [HR0.out, h1.2, h2, show 4 - m0 = j by omega])
              have HNU2 := Lib.hid (rnumber_any X wr hXl)
              obtain ⟨b, hb⟩ : ∃ b, numR X = b := ⟨_, rfl⟩
              have hbb := numR_bd X
              rw [hb] at HNU2 hbb
              have HSB : Hid (shB S = if a < 0 ∨ 100 < a ∨ b < 0 ∨ 4 < x then -1 else 10000 * a + b) := Lib.hid (by unfold shB; rw [HRR.out.1, HPT.out, HAA.out, hb, HXN.out])
              have hx4' : 4 ≤ x := HRR.out.2
              unfold strV at HNU2
              clear hb HX HXN hx4
              go_wp2_with fail
              refine HNU1.out.mono ?_
              rintro e w5 ⟨rfl, rfl⟩
              go_wp2_with fail
              refine HNU2.out.mono ?_
              rintro e w6 ⟨rfl, rfl⟩
              by_cases g1 : a < 0
              · have f1 : decide (a < 0) = true := by simpa using g1
                have HV := Lib.hid (HSB.out.trans (if_pos (by omega)))
                go_wp2_with fail
                go_ret
                exact ⟨by rw [HSW.out, HV.out]; first | rfl | (congr 2), rfl⟩
              · have f1 : decide (a < 0) = false := by simpa using g1
                by_cases g2 : 100 < a
                · have f2 : decide (100 < a) = true := by simpa using g2
                  have HV := Lib.hid (HSB.out.trans (if_pos (by omega)))
                  go_wp2_with fail
                  go_ret
                  exact ⟨by rw [HSW.out, HV.out]; first | rfl | (congr 2), rfl⟩
                · have f2 : decide (100 < a) = false := by simpa using g2
                  by_cases g3 : b < 0
                  · have f3 : decide (b < 0) = true := by simpa using g3
                    have HV := Lib.hid (HSB.out.trans (if_pos (by omega)))
                    go_wp2_with fail
                    go_ret
                    exact ⟨by rw [HSW.out, HV.out]; first | rfl | (congr 2), rfl⟩
                  · have f3 : decide (b < 0) = false := by simpa using g3
                    by_cases g4 : 4 < x
                    · have f4 : decide ((4 : Int) < (x : Int)) = true := by simp; omega
                      have f5 : decide (4 < x) = true := by simp; omega
                      have HV := Lib.hid (HSB.out.trans (if_pos (by omega)))
                      go_wp2_with fail
                      go_ret
                      exact ⟨by rw [HSW.out, HV.out]; first | rfl | (congr 2), rfl⟩
                    · have f4 : decide ((4 : Int) < (x : Int)) = false := by simp; omega
                      have f5 : decide (4 < x) = false := by simp; omega
                      have HV := Lib.hid (HSB.out.trans (if_neg (by omega)))
                      go_wp2_with fail
                      go_ret
                      exact ⟨by rw [HSW.out, HV.out]; first | rfl | (congr 2), rfl⟩
        · have n46 : ((c.toNat : Int) == 46) = false := by
            rw [beq_eq_false_iff_ne]
            intro e
            exact h46 (by rw [← ofNat_toNat c, show c.toNat = 46 by omega]; rfl)
          have HNX : Hid ((46 : UInt8) ∉ S.take (k + 1)) := Lib.hid (by
            rw [List.take_add_one, hck]
            simp only [Option.toList_some, List.mem_append, List.mem_singleton, not_or]
            exact ⟨HNO.out, fun e => h46 e.symm⟩)
          clear hck h46
          go_wp2_with fail
          go_roundw
          case rel => exact ⟨k + 1, by go_num, by omega, by first | rfl | trivial, by first | rfl | trivial, HNX⟩
          case measure => simp [intOf]; omega
      · obtain rfl : k = q := by omega
        have hno : (46 : UInt8) ∉ S := by have := HNO.out; rwa [List.take_of_length_le (by rw [HQ.out]; exact Nat.le_refl _)] at this
        have HPT : Hid (ptR S = k) := Lib.hid (by rw [ptR_no hno, HQ.out])
        have hbeg := fun W => run_sub_begin 9 Tryz.underlying9 S k (by rw [HQ.out]; exact Nat.le_refl _) W
        obtain ⟨T, hT⟩ : ∃ T, S.take k = T := ⟨_, rfl⟩
        obtain ⟨R0, hR0⟩ : ∃ T : List UInt8, [] = T := ⟨_, rfl⟩
        have hTl : T.length ≤ 1000000 := by rw [← hT, List.length_take]; omega
        have hR0l : R0.length ≤ 1000000 := by rw [← hR0]; simp
        have HR0 : Hid (S.drop (ptR S + 1) = R0) := Lib.hid (by rw [HPT.out, ← hR0, List.drop_eq_nil_of_le (by rw [HQ.out]; omega)])
        obtain ⟨a, ha⟩ : ∃ a, numR T = a := ⟨_, rfl⟩
        have HAA : Hid (numR (S.take k) = a) := Lib.hid (by rw [hT, ha])
        have hab := numR_bd T
        have HNU1 := Lib.hid (rnumber_any T wr hTl)
        rw [ha] at hab HNU1
        rw [hT] at hbeg
        unfold strV at HNU1
        clear hno hT ha hTl
        go_wp2_with fail
        rw [show (⟨#[]⟩ : ByteArray) = ⟨R0.toArray⟩ by rw [← hR0]]
        clear hR0
        obtain ⟨m0, hm0⟩ : ∃ m, R0.length = m := ⟨_, rfl⟩
        have HM0 := Lib.hid hm0
        clear hm0
        go_loopw [5] (fun rv wy => ∃ (j : Nat) (X : List UInt8), rv = .string ⟨X.toArray⟩ ∧ X.length ≤ 1000000 ∧ wy = wr ∧ Hid (j ≤ 4 - m0 ∧ X = R0 ++ List.replicate j 48)) (fun rv _ => 4 - lenS rv)
        case atStart => exact ⟨0, R0, rfl, hR0l, rfl, Lib.hid ⟨Nat.zero_le _, by simp⟩⟩
        case round =>
          obtain ⟨j, X, rfl, hXl, rfl, HX⟩ := hrel
          obtain ⟨x, hx⟩ : ∃ x, X.length = x := ⟨_, rfl⟩
          have HXN := Lib.hid hx
          by_cases hx4 : x < 4
          · have e4 : decide ((x : Int) < 4) = true := by simp; omega
            have HST := Lib.hid (padR_step (r := R0) (j := j) (by rw [← HX.out.2, HXN.out]; exact hx4))
            clear hXl
            have hXs : X.length ≤ 100 := by rw [hx]; omega
            go_wp2_with fail
            rw [show (⟨X.toArray⟩ : ByteArray) ++ ⟨#[48]⟩ = ⟨(X ++ [48]).toArray⟩ from ba_app X [48]]
            refine ⟨⟨j + 1, X ++ [48], rfl, by simp; omega, by first | rfl | trivial, Lib.hid ⟨by have h1 := HST.out.1; have h2 := HM0.out; rw [h2] at h1; exact h1, by rw [HST.out.2, ← HX.out.2]⟩⟩, ?_⟩
            show 4 - (X ++ [48]).length < 4 - X.length
            rw [List.length_append]; simp; omega
          · have e4 : decide ((x : Int) < 4) = false := by simp; omega
            have HRR : Hid (restR S = X ∧ 4 ≤ x) := Lib.hid (by
              refine ⟨?_, by omega⟩
              have h1 := HX.out
              have h2 := HM0.out
              have h3 := congrArg List.length h1.2
              rw [HXN.out, List.length_append, List.length_replicate, h2] at h3
              unfold restR padR
              rw [HR0.out, h1.2, h2, show 4 - m0 = j by omega])
            have HNU2 := Lib.hid (rnumber_any X wr hXl)
            obtain ⟨b, hb⟩ : ∃ b, numR X = b := ⟨_, rfl⟩
            have hbb := numR_bd X
            rw [hb] at HNU2 hbb
            have HSB : Hid (shB S = if a < 0 ∨ 100 < a ∨ b < 0 ∨ 4 < x then -1 else 10000 * a + b) := Lib.hid (by unfold shB; rw [HRR.out.1, HPT.out, HAA.out, hb, HXN.out])
            have hx4' : 4 ≤ x := HRR.out.2
            unfold strV at HNU2
            clear hb HX HXN hx4
            go_wp2_with fail
            refine HNU1.out.mono ?_
            rintro e w5 ⟨rfl, rfl⟩
            go_wp2_with fail
            refine HNU2.out.mono ?_
            rintro e w6 ⟨rfl, rfl⟩
            by_cases g1 : a < 0
            · have f1 : decide (a < 0) = true := by simpa using g1
              have HV := Lib.hid (HSB.out.trans (if_pos (by omega)))
              go_wp2_with fail
              go_ret
              exact ⟨by rw [HSW.out, HV.out]; first | rfl | (congr 2), rfl⟩
            · have f1 : decide (a < 0) = false := by simpa using g1
              by_cases g2 : 100 < a
              · have f2 : decide (100 < a) = true := by simpa using g2
                have HV := Lib.hid (HSB.out.trans (if_pos (by omega)))
                go_wp2_with fail
                go_ret
                exact ⟨by rw [HSW.out, HV.out]; first | rfl | (congr 2), rfl⟩
              · have f2 : decide (100 < a) = false := by simpa using g2
                by_cases g3 : b < 0
                · have f3 : decide (b < 0) = true := by simpa using g3
                  have HV := Lib.hid (HSB.out.trans (if_pos (by omega)))
                  go_wp2_with fail
                  go_ret
                  exact ⟨by rw [HSW.out, HV.out]; first | rfl | (congr 2), rfl⟩
                · have f3 : decide (b < 0) = false := by simpa using g3
                  by_cases g4 : 4 < x
                  · have f4 : decide ((4 : Int) < (x : Int)) = true := by simp; omega
                    have f5 : decide (4 < x) = true := by simp; omega
                    have HV := Lib.hid (HSB.out.trans (if_pos (by omega)))
                    go_wp2_with fail
                    go_ret
                    exact ⟨by rw [HSW.out, HV.out]; first | rfl | (congr 2), rfl⟩
                  · have f4 : decide ((4 : Int) < (x : Int)) = false := by simp; omega
                    have f5 : decide (4 < x) = false := by simp; omega
                    have HV := Lib.hid (HSB.out.trans (if_neg (by omega)))
                    go_wp2_with fail
                    go_ret
                    exact ⟨by rw [HSW.out, HV.out]; first | rfl | (congr 2), rfl⟩
end
end Go.Proofs.YtfiabonacpepnaaGreatDoor
namespace Go.Proofs.YtfiabonacpepnaaGreatDoor
section
open Go Go.RowKit Go.Lib Go.Shelf Go.Maps

/-- where words stands -/
def WordsAt (s : List UInt8) (k : Nat) (W : List UInt8) (O : List (List UInt8)) : Prop :=
  splitL 32 s = O ++ splitL 32 (W ++ s.drop k) ∧ (32 : UInt8) ∉ W ∧ W.length ≤ k ∧ O.length ≤ k
theorem drop_at {s : List UInt8} {k : Nat} {c : UInt8} (hc : s[k]? = some c) : s.drop k = c :: s.drop (k + 1) := by
  have hk := (List.getElem?_eq_some_iff.1 hc).1
  rw [List.drop_eq_getElem_cons hk, (List.getElem?_eq_some_iff.1 hc).2]
theorem WordsAt.add {s : List UInt8} {k : Nat} {W : List UInt8} {O : List (List UInt8)} {c : UInt8} (h : WordsAt s k W O) (hc : s[k]? = some c) (h32 : c ≠ 32) : WordsAt s (k + 1) (W ++ [c]) O := by
  obtain ⟨h1, h2, h3, h4⟩ := h
  refine ⟨?_, ?_, ?_, by omega⟩
  · rw [h1, drop_at hc]; simp
  · simp only [List.mem_append, List.mem_singleton, not_or]; exact ⟨h2, fun e => h32 e.symm⟩
  · rw [List.length_append]; simp; omega
theorem WordsAt.cut {s : List UInt8} {k : Nat} {W : List UInt8} {O : List (List UInt8)} (h : WordsAt s k W O) (hc : s[k]? = some 32) : WordsAt s (k + 1) [] (O ++ [W]) := by
  obtain ⟨h1, h2, h3, h4⟩ := h
  refine ⟨?_, by simp, by simp, ?_⟩
  · rw [h1, drop_at hc, split_app _ _ h2]; simp
  · rw [List.length_append]; simp; omega
theorem WordsAt.last {s : List UInt8} {W : List UInt8} {O : List (List UInt8)} (h : WordsAt s s.length W O) : splitL 32 s = O ++ [W] := by
  obtain ⟨h1, h2, h3, h4⟩ := h
  rw [List.drop_length, List.append_nil, split_word h2] at h1
  exact h1
theorem OwnS.app {w5 : World} {N : Nat} {v5 : Value} {O : List (List UInt8)} {W : List UInt8} (h : w5.ownsRow N 9 1 v5 (O.length + 1) (O.map strV ++ [strV W])) : OwnS w5 N v5 (O ++ [W]) := by
  unfold OwnS
  rw [List.length_append, List.map_append]
  exact h
theorem run_str_one (t : TypeId) (ht : Tryz.prog.underlying t = some .string) (s : List UInt8) (i : Nat) (c : UInt8) (h : s[i]? = some c) (w : World) :
    (Instr.slice t (.string ⟨s.toArray⟩) (some (.int .i64 (i : Int))) (some (.int .i64 ((i : Int) + 1))) none).run Tryz.prog w = .ok (.string ⟨#[c]⟩) w := by
  obtain ⟨hlt, hc⟩ := List.getElem?_eq_some_iff.1 h
  have h1 := run_str_sub t ht s i (i + 1) (by omega) (by omega) w
  have e : (s.take (i + 1)).drop i = [c] := by
    rw [List.take_add_one, h, List.drop_append, List.drop_eq_nil_of_le (by rw [List.length_take]; omega), List.length_take, Nat.min_eq_left (by omega)]
    simp
  rw [e] at h1
  exact h1
set_option maxRecDepth 100000 in
set_option maxHeartbeats 8000000 in
theorem rwords_any (s : List UInt8) (w : World) (hl : s.length ≤ 1000000) :
    Calls Tryz.prog 72 #[strV s] w fun e w' => ∃ v, e = .returned v ∧ OwnS w' w.heap.size v (splitL 32 s) ∧ Below w.heap.size w w' := by
  obtain ⟨n, hn⟩ : ∃ n, s.length = n := ⟨_, rfl⟩
  have HN := Lib.hid hn
  obtain ⟨N, hN⟩ : ∃ z, w.heap.size = z := ⟨_, rfl⟩
  have HNN := Lib.hid hN
  have HLS := Lib.hid (show WordsAt s 0 [] [] from ⟨by simp, by simp, by simp, by simp⟩)
  rw [hn] at hl
  obtain ⟨SP, hSP⟩ : ∃ z, splitL 32 s = z := ⟨_, rfl⟩
  have HSP := Lib.hid hSP
  rw [hSP, hN]
  clear hN hSP
  unfold strV
  go_enter Tryz.func72, Tryz.ntmps72
  go_wp2_with fail
  go_loopw [3, 4, 5] (fun ov wv iv wr => ∃ (k : Nat) (W : List UInt8) (O : List (List UInt8)), iv = .int .i64 k ∧ wv = .string ⟨W.toArray⟩ ∧ k ≤ n ∧ W.length ≤ k ∧ O.length ≤ k ∧ Hid (WordsAt s k W O ∧ OwnS wr N ov O ∧ Below N w wr ∧ N ≤ wr.heap.size)) (fun _ _ iv _ => n - (intOf iv).toNat)
  case atStart => exact ⟨0, [], [], rfl, rfl, Nat.zero_le _, by simp, by simp, Lib.hid ⟨HLS.out, World.ownsRow_nil _ _ _ _, Below.refl _ _, by rw [HNN.out]; exact Nat.le_refl _⟩⟩
  case round =>
    obtain ⟨k, W, O, rfl, rfl, hk, hWl, hOl, HR⟩ := hrel
    have HL := Lib.hid HR.out.1
    have HO := Lib.hid HR.out.2.1
    have HB := Lib.hid HR.out.2.2.1
    have hNr := HR.out.2.2.2
    clear HR
    by_cases hkn : k < n
    · obtain ⟨c, hck⟩ : ∃ c, s[k]? = some c := ⟨_, List.getElem?_eq_getElem (by rw [HN.out]; omega)⟩
      have hix := fun W => run_str_at 9 Tryz.underlying9 s k c hck W
      by_cases h10 : c = 32
      · subst h10
        have HNX := Lib.hid (HL.out.cut hck)
        clear hck
        go_wp2_with ((with_reducible refine wpList_stop (o := ⟨some 19, _, _, _, _, _⟩) ?_))
        unfold Stop
        obtain ⟨i0, hi, hz0, hz1, hz2⟩ := info_parts string_info
        have b8 : Below wr.heap.size wr (wr.alloc (.cells #[.string ⟨W.toArray⟩] 9)) := (Below.refl _ _).alloc (Nat.le_refl _) _
        have ow8 : OwnS (wr.alloc (.cells #[.string ⟨W.toArray⟩] 9)) N u3 O := HO.out.kept fun g _ h2 => b8.block g h2
        refine wpList_append_own _ rfl (.tmp 16) (.tmp 18) 37 rfl N 9 i0 _ 1 16 Tryz.underlying37 hi hz0 hz1 hz2 rfl (by decide) u3 _ _ rfl ow8 ⟨wr.heap.size, 0, none⟩ 1 1 [.string ⟨W.toArray⟩] rfl rfl ?_ ?_ ?_ ?_ ?_ ?_
        · intro j u hj
          rw [addr_add, (RowAt.new wr 9 #[.string ⟨W.toArray⟩]).cell j, ← hj]
          simp
        · intro u hu
          simp at hu
          subst hu
          rfl
        · unfold maxLen; omega
        · omega
        · simp; omega
        intro v9 w9 hown9 hg9 _
        have HEND := Lib.hid (show WordsAt s (k + 1) [] (O ++ [W]) ∧ OwnS w9 N v9 (O ++ [W]) ∧ Below N w w9 ∧ N ≤ w9.heap.size from ⟨HNX.out, OwnS.app hown9, (HB.out.trans (b8.mono hNr)).grown hg9 (by simp; omega) (fun j e => (World.ownsRow.lt ow8 j e).1), by have := hg9.size; simp at this; omega⟩)
        clear hown9 hg9 ow8 b8 hi hz0 hz1 hz2 hix
        go_wp2_with fail
        go_roundw
        case rel => exact ⟨k + 1, [], _, by go_num, rfl, by omega, by simp, by simp; omega, HEND⟩
        case measure => simp [intOf]; omega
      · have n10 : ((c.toNat : Int) == 32) = false := by
          rw [beq_eq_false_iff_ne]
          intro e
          exact h10 (by rw [← ofNat_toNat c, show c.toNat = 32 by omega]; rfl)
        have HNX := Lib.hid (HL.out.add hck h10)
        have hone := fun X => run_str_one 9 Tryz.underlying9 s k c hck X
        clear hck h10
        go_wp2_with fail
        first
          | (rw [show (⟨W.toArray⟩ : ByteArray) ++ ⟨#[c]⟩ = ⟨(W ++ [c]).toArray⟩ from ba_app W [c]]
             refine ⟨⟨k + 1, W ++ [c], O, by go_num, rfl, by omega, by simp; omega, by omega, Lib.hid ⟨HNX.out, HO.out, HB.out, hNr⟩⟩, ?_⟩
             simp [intOf]; omega)
    · obtain rfl : k = n := by omega
      have HFIN : Hid (SP = O ++ [W]) := Lib.hid (by
        have h := HL.out
        rw [← HN.out] at h
        rw [← HSP.out]
        exact h.last)
      go_wp2_with ((with_reducible refine wpList_stop (o := ⟨some 30, _, _, _, _, _⟩) ?_))
      unfold Stop
      obtain ⟨i0, hi, hz0, hz1, hz2⟩ := info_parts string_info
      have b8 : Below wr.heap.size wr (wr.alloc (.cells #[.string ⟨W.toArray⟩] 9)) := (Below.refl _ _).alloc (Nat.le_refl _) _
      have ow8 : OwnS (wr.alloc (.cells #[.string ⟨W.toArray⟩] 9)) N u3 O := HO.out.kept fun g _ h2 => b8.block g h2
      refine wpList_append_own _ rfl (.tmp 27) (.tmp 29) 37 rfl N 9 i0 _ 1 16 Tryz.underlying37 hi hz0 hz1 hz2 rfl (by decide) u3 _ _ rfl ow8 ⟨wr.heap.size, 0, none⟩ 1 1 [.string ⟨W.toArray⟩] rfl rfl ?_ ?_ ?_ ?_ ?_ ?_
      · intro j u hj
        rw [addr_add, (RowAt.new wr 9 #[.string ⟨W.toArray⟩]).cell j, ← hj]
        simp
      · intro u hu
        simp at hu
        subst hu
        rfl
      · unfold maxLen; omega
      · omega
      · simp; omega
      intro v9 w9 hown9 hg9 _
      have HEND := Lib.hid (show OwnS w9 N v9 (O ++ [W]) ∧ Below N w w9 from ⟨OwnS.app hown9, (HB.out.trans (b8.mono hNr)).grown hg9 (by simp; omega) (fun j e => (World.ownsRow.lt ow8 j e).1)⟩)
      clear hown9 hg9 ow8 b8 hi hz0 hz1 hz2
      go_wp2_with fail
      go_ret
      exact ⟨_, rfl, by rw [HFIN.out]; exact HEND.out.1, HEND.out.2⟩
end
end Go.Proofs.YtfiabonacpepnaaGreatDoor
namespace Go.Proofs.YtfiabonacpepnaaGreatDoor
section
open Go Go.RowKit Go.Lib Go.Shelf Go.Maps

theorem below_setRowT {B g : Nat} {a w : World} {cs : Array Value} (h : Below B a w) (hg : B ≤ g) : Below B a (w.setRow g cs) :=
  ⟨h.os, h.tape, h.output, by rw [setRow_size]; exact h.size, fun k hk => (setRow_far (by omega)).trans (h.block k hk)⟩
/-- what read returns -/
def ReadEnd (w : World) (t : TermV) (e : Ending) (w' : World) : Prop :=
  ∃ va, e = .returned (.agg (termC t va)) ∧ OwnI 3 1 w' w.heap.size va (t.acc.map fun a => [a]) ∧ Below w.heap.size w w'
theorem read_end (k n m ab : Int) (w W : World) (N : Nat) (hN : w.heap.size = N) (cs : Array Value) (hb : Below N w W) (he : cs = #[.int .i64 k, .int .i64 n, .int .i64 m, .int .i64 ab, .slice none 0 0]) : ReadEnd w ⟨k, n, m, ab, []⟩ (.returned (.agg cs)) (W.setRow N cs) := by
  subst he
  exact ⟨.slice none 0 0, rfl, OwnI.nil _ _ _ _, by rw [hN]; exact below_setRowT hb (Nat.le_refl _)⟩

set_option linter.unusedSimpArgs false in
set_option maxRecDepth 100000 in
set_option maxHeartbeats 8000000 in
theorem rread_pass4 (g : Nat) (a1 : List UInt8) (a3 : List UInt8) (c : Nat) (w : World) (hg : g < w.heap.size) (h0 : w.cell? ⟨g, 0, none⟩ = some (.string ⟨#[112, 97, 115, 115]⟩)) (h1 : w.cell? ⟨g, 1, none⟩ = some (.string ⟨a1.toArray⟩)) (h3 : w.cell? ⟨g, 3, none⟩ = some (.string ⟨a3.toArray⟩)) (l1 : a1.length ≤ 1000000) (l3 : a3.length ≤ 1000000) :
    Calls Tryz.prog 71 #[.slice (some ⟨g, 0, none⟩) 4 c] w (ReadEnd w ⟨1, shR a1, numR a3, 0, []⟩) := by
  have b0 : Below w.heap.size w (w.alloc (.cells zC 28)) := (Below.refl _ _).alloc (Nat.le_refl _) _
  have r0 := RowAt.new w 28 zC
  obtain ⟨W1, hW1⟩ : ∃ z, w.alloc (.cells zC 28) = z := ⟨_, rfl⟩
  obtain ⟨N, hN⟩ : ∃ z, w.heap.size = z := ⟨_, rfl⟩
  rw [hW1] at b0 r0
  rw [hN] at b0 r0 hg
  have HR0 := Lib.hid r0
  have HB0 := Lib.hid b0
  have HW1 := Lib.hid hW1
  have HNN := Lib.hid hN
  unfold zC at HW1
  have HC0 : Hid (∀ W, Below N w W → W.cell? ⟨g, 0, none⟩ = some (.string ⟨#[112, 97, 115, 115]⟩)) := Lib.hid (fun W hW => (hW.cell (p := ⟨g, 0, none⟩) hg).trans h0)
  have HC1 : Hid (∀ W, Below N w W → W.cell? ⟨g, 1, none⟩ = some (.string ⟨a1.toArray⟩)) := Lib.hid (fun W hW => (hW.cell (p := ⟨g, 1, none⟩) hg).trans h1)
  have HC3 : Hid (∀ W, Below N w W → W.cell? ⟨g, 3, none⟩ = some (.string ⟨a3.toArray⟩)) := Lib.hid (fun W hW => (hW.cell (p := ⟨g, 3, none⟩) hg).trans h3)
  have c0 := HC0.out W1 HB0.out
  have c1 := HC1.out W1 HB0.out
  have c3 := HC3.out W1 HB0.out
  clear b0 r0 hW1 h0 h1 h3
  have HF1 := Lib.hid (fun W => rshare_any a1 W l1)
  obtain ⟨x1, hx1⟩ : ∃ x, shR a1 = x := ⟨_, rfl⟩
  rw [hx1] at HF1 ⊢
  unfold strV at HF1
  have HF3 := Lib.hid (fun W => rnumber_any a3 W l3)
  obtain ⟨x3, hx3⟩ : ∃ x, numR a3 = x := ⟨_, rfl⟩
  rw [hx3] at HF3 ⊢
  unfold strV at HF3
  clear hx1 hx3
  go_enter Tryz.func71, Tryz.ntmps71
  go_upto_region 1 with fail
  rw [HW1.out]
  clear hN
  go_wp2_with fail
  refine wp_region_held_drew (S := fun W => Below N w W) (by kernel_rfl) HB0.out.drew (fun hHeld => ?_)
  have HRd := Lib.hid HR0.out.drew
  have HBd : Hid (Below N w W1.drew) := Lib.hid HB0.out.drew
  obtain ⟨X, hX⟩ : ∃ z, W1.drew = z := ⟨_, rfl⟩
  rw [hX] at HRd HBd hHeld ⊢
  clear hX
  refine tk 0 (v := ?_) rfl (by kernel_rfl) (fun _ _ _ h => h) (by rfl) (by assumption) ?_ ?_
  rotate_left
  · intro wS hSw
    go_simp
    all_goals with_reducible rfl
  simp only [Act.put, sa, s0, s1]
  refine tk 1 (v := ?_) rfl (by kernel_rfl) (fun _ _ _ h => h) (by rfl) (by assumption) ?_ ?_
  rotate_left
  · intro wS hSw
    go_simp
    all_goals with_reducible rfl
  simp only [Act.put, sa, s0, s1]
  refine tk 2 (v := ?_) rfl (by kernel_rfl) (fun _ _ _ h => h) (by rfl) (by assumption) ?_ ?_
  rotate_left
  · intro wS hSw
    have hc := HC1.out wS hSw
    go_simp
    all_goals with_reducible rfl
  simp only [Act.put, sa, s0, s1]
  refine tk 4 (v := ?_) rfl (by kernel_rfl) (fun _ _ _ h => h) (by rfl) (by assumption) ?_ ?_
  rotate_left
  · intro wS hSw
    go_simp
    all_goals with_reducible rfl
  simp only [Act.put, sa, s0, s1]
  refine tk 5 (v := ?_) rfl (by kernel_rfl) (fun _ _ _ h => h) (by rfl) (by assumption) ?_ ?_
  rotate_left
  · intro wS hSw
    go_simp
    all_goals with_reducible rfl
  simp only [Act.put, sa, s0, s1]
  refine tk 6 (v := ?_) rfl (by kernel_rfl) (fun _ _ _ h => h) (by rfl) (by assumption) ?_ ?_
  rotate_left
  · intro wS hSw
    have hc := HC3.out wS hSw
    go_simp
    all_goals with_reducible rfl
  simp only [Act.put, sa, s0, s1]
  refine rd 3 (by kernel_rfl) rfl fun K hK => ?_
  go_simp
  go_at_call 96
  refine (HF1.out _).mono ?_
  rintro e W5 ⟨rfl, rfl⟩
  go_wp2_with fail
  refine hK.out _ _ HBd.out (fun hHeld => ?_)
  clear hK K
  try simp only [Act.put, sa, s0, s1]
  refine rd 7 (by kernel_rfl) rfl fun K hK => ?_
  go_simp
  go_at_call 97
  refine (HF3.out _).mono ?_
  rintro e W5 ⟨rfl, rfl⟩
  go_wp2_with fail
  refine hK.out _ _ HBd.out (fun hHeld => ?_)
  clear hK K
  try simp only [Act.put, sa, s0, s1]
  refine tk 8 (v := ?_) rfl (by kernel_rfl) (fun _ _ _ h => h) (by rfl) (by assumption) ?_ ?_
  rotate_left
  · intro wS hSw
    go_simp
    all_goals with_reducible rfl
  simp only [Act.put, sa, s0, s1]
  refine rd 9 (by kernel_rfl) rfl fun K hK => ?_
  rw [if_pos (by rfl)]
  refine wp_store_row 28 (.tmp 2) (.tmp 23) rfl N #[.int .i64 1, .int .i64 x1, .int .i64 x3, .int .i64 0, .slice none 0 0] rfl rfl 28 _ HRd.out term_size rfl (term_ones _ _ _ _) ?_
  refine hK.out _ _ (below_setRowT HBd.out (Nat.le_refl _)) (fun hHeld => ?_)
  clear hK K
  try simp only [Act.put, sa, s0, s1]
  refine wpAnyH_done (by kernel_rfl) ?_ _
  go_wp2_with fail
  refine bodyPost_ret (results_cell1 rfl _ _ N _ _ _ _ rfl (setRow_at HRd.out) Tryz.underlying28 rfl term_size) rfl ?_
  exact read_end _ _ _ _ _ _ N HNN.out _ HBd.out rfl

set_option linter.unusedSimpArgs false in
set_option maxRecDepth 100000 in
set_option maxHeartbeats 8000000 in
theorem rread_pass6 (g : Nat) (a1 : List UInt8) (a3 : List UInt8) (a5 : List UInt8) (c : Nat) (w : World) (hg : g < w.heap.size) (h0 : w.cell? ⟨g, 0, none⟩ = some (.string ⟨#[112, 97, 115, 115]⟩)) (h1 : w.cell? ⟨g, 1, none⟩ = some (.string ⟨a1.toArray⟩)) (h3 : w.cell? ⟨g, 3, none⟩ = some (.string ⟨a3.toArray⟩)) (h5 : w.cell? ⟨g, 5, none⟩ = some (.string ⟨a5.toArray⟩)) (l1 : a1.length ≤ 1000000) (l3 : a3.length ≤ 1000000) (l5 : a5.length ≤ 1000000) :
    Calls Tryz.prog 71 #[.slice (some ⟨g, 0, none⟩) 6 c] w (ReadEnd w ⟨1, shR a1, numR a3, numR a5, []⟩) := by
  have b0 : Below w.heap.size w (w.alloc (.cells zC 28)) := (Below.refl _ _).alloc (Nat.le_refl _) _
  have r0 := RowAt.new w 28 zC
  obtain ⟨W1, hW1⟩ : ∃ z, w.alloc (.cells zC 28) = z := ⟨_, rfl⟩
  obtain ⟨N, hN⟩ : ∃ z, w.heap.size = z := ⟨_, rfl⟩
  rw [hW1] at b0 r0
  rw [hN] at b0 r0 hg
  have HR0 := Lib.hid r0
  have HB0 := Lib.hid b0
  have HW1 := Lib.hid hW1
  have HNN := Lib.hid hN
  unfold zC at HW1
  have HC0 : Hid (∀ W, Below N w W → W.cell? ⟨g, 0, none⟩ = some (.string ⟨#[112, 97, 115, 115]⟩)) := Lib.hid (fun W hW => (hW.cell (p := ⟨g, 0, none⟩) hg).trans h0)
  have HC1 : Hid (∀ W, Below N w W → W.cell? ⟨g, 1, none⟩ = some (.string ⟨a1.toArray⟩)) := Lib.hid (fun W hW => (hW.cell (p := ⟨g, 1, none⟩) hg).trans h1)
  have HC3 : Hid (∀ W, Below N w W → W.cell? ⟨g, 3, none⟩ = some (.string ⟨a3.toArray⟩)) := Lib.hid (fun W hW => (hW.cell (p := ⟨g, 3, none⟩) hg).trans h3)
  have HC5 : Hid (∀ W, Below N w W → W.cell? ⟨g, 5, none⟩ = some (.string ⟨a5.toArray⟩)) := Lib.hid (fun W hW => (hW.cell (p := ⟨g, 5, none⟩) hg).trans h5)
  have c0 := HC0.out W1 HB0.out
  have c1 := HC1.out W1 HB0.out
  have c3 := HC3.out W1 HB0.out
  have c5 := HC5.out W1 HB0.out
  clear b0 r0 hW1 h0 h1 h3 h5
  have HF1 := Lib.hid (fun W => rshare_any a1 W l1)
  obtain ⟨x1, hx1⟩ : ∃ x, shR a1 = x := ⟨_, rfl⟩
  rw [hx1] at HF1 ⊢
  unfold strV at HF1
  have HF3 := Lib.hid (fun W => rnumber_any a3 W l3)
  obtain ⟨x3, hx3⟩ : ∃ x, numR a3 = x := ⟨_, rfl⟩
  rw [hx3] at HF3 ⊢
  unfold strV at HF3
  have HF5 := Lib.hid (fun W => rnumber_any a5 W l5)
  obtain ⟨x5, hx5⟩ : ∃ x, numR a5 = x := ⟨_, rfl⟩
  rw [hx5] at HF5 ⊢
  unfold strV at HF5
  clear hx1 hx3 hx5
  go_enter Tryz.func71, Tryz.ntmps71
  go_upto_region 1 with fail
  rw [HW1.out]
  clear hN
  go_wp2_with fail
  refine wp_region_held_drew (S := fun W => Below N w W) (by kernel_rfl) HB0.out.drew (fun hHeld => ?_)
  have HRd := Lib.hid HR0.out.drew
  have HBd : Hid (Below N w W1.drew) := Lib.hid HB0.out.drew
  obtain ⟨X, hX⟩ : ∃ z, W1.drew = z := ⟨_, rfl⟩
  rw [hX] at HRd HBd hHeld ⊢
  clear hX
  refine tk 0 (v := ?_) rfl (by kernel_rfl) (fun _ _ _ h => h) (by rfl) (by assumption) ?_ ?_
  rotate_left
  · intro wS hSw
    go_simp
    all_goals with_reducible rfl
  simp only [Act.put, sa, s0, s1]
  refine tk 1 (v := ?_) rfl (by kernel_rfl) (fun _ _ _ h => h) (by rfl) (by assumption) ?_ ?_
  rotate_left
  · intro wS hSw
    go_simp
    all_goals with_reducible rfl
  simp only [Act.put, sa, s0, s1]
  refine tk 2 (v := ?_) rfl (by kernel_rfl) (fun _ _ _ h => h) (by rfl) (by assumption) ?_ ?_
  rotate_left
  · intro wS hSw
    have hc := HC1.out wS hSw
    go_simp
    all_goals with_reducible rfl
  simp only [Act.put, sa, s0, s1]
  refine tk 4 (v := ?_) rfl (by kernel_rfl) (fun _ _ _ h => h) (by rfl) (by assumption) ?_ ?_
  rotate_left
  · intro wS hSw
    go_simp
    all_goals with_reducible rfl
  simp only [Act.put, sa, s0, s1]
  refine tk 5 (v := ?_) rfl (by kernel_rfl) (fun _ _ _ h => h) (by rfl) (by assumption) ?_ ?_
  rotate_left
  · intro wS hSw
    go_simp
    all_goals with_reducible rfl
  simp only [Act.put, sa, s0, s1]
  refine tk 6 (v := ?_) rfl (by kernel_rfl) (fun _ _ _ h => h) (by rfl) (by assumption) ?_ ?_
  rotate_left
  · intro wS hSw
    have hc := HC3.out wS hSw
    go_simp
    all_goals with_reducible rfl
  simp only [Act.put, sa, s0, s1]
  refine tk 8 (v := ?_) rfl (by kernel_rfl) (fun _ _ _ h => h) (by rfl) (by assumption) ?_ ?_
  rotate_left
  · intro wS hSw
    go_simp
    all_goals with_reducible rfl
  simp only [Act.put, sa, s0, s1]
  refine tk 9 (v := ?_) rfl (by kernel_rfl) (fun _ _ _ h => h) (by rfl) (by assumption) ?_ ?_
  rotate_left
  · intro wS hSw
    go_simp
    all_goals with_reducible rfl
  simp only [Act.put, sa, s0, s1]
  refine tk 10 (v := ?_) rfl (by kernel_rfl) (fun _ _ _ h => h) (by rfl) (by assumption) ?_ ?_
  rotate_left
  · intro wS hSw
    have hc := HC5.out wS hSw
    go_simp
    all_goals with_reducible rfl
  simp only [Act.put, sa, s0, s1]
  refine rd 3 (by kernel_rfl) rfl fun K hK => ?_
  go_simp
  go_at_call 96
  refine (HF1.out _).mono ?_
  rintro e W5 ⟨rfl, rfl⟩
  go_wp2_with fail
  refine hK.out _ _ HBd.out (fun hHeld => ?_)
  clear hK K
  try simp only [Act.put, sa, s0, s1]
  refine rd 7 (by kernel_rfl) rfl fun K hK => ?_
  go_simp
  go_at_call 97
  refine (HF3.out _).mono ?_
  rintro e W5 ⟨rfl, rfl⟩
  go_wp2_with fail
  refine hK.out _ _ HBd.out (fun hHeld => ?_)
  clear hK K
  try simp only [Act.put, sa, s0, s1]
  refine rd 11 (by kernel_rfl) rfl fun K hK => ?_
  go_simp
  go_at_call 97
  refine (HF5.out _).mono ?_
  rintro e W5 ⟨rfl, rfl⟩
  go_wp2_with fail
  refine hK.out _ _ HBd.out (fun hHeld => ?_)
  clear hK K
  try simp only [Act.put, sa, s0, s1]
  refine tk 12 (v := ?_) rfl (by kernel_rfl) (fun _ _ _ h => h) (by rfl) (by assumption) ?_ ?_
  rotate_left
  · intro wS hSw
    go_simp
    all_goals with_reducible rfl
  simp only [Act.put, sa, s0, s1]
  refine rd 13 (by kernel_rfl) rfl fun K hK => ?_
  rw [if_pos (by rfl)]
  refine wp_store_row 28 (.tmp 2) (.tmp 46) rfl N #[.int .i64 1, .int .i64 x1, .int .i64 x3, .int .i64 x5, .slice none 0 0] rfl rfl 28 _ HRd.out term_size rfl (term_ones _ _ _ _) ?_
  refine hK.out _ _ (below_setRowT HBd.out (Nat.le_refl _)) (fun hHeld => ?_)
  clear hK K
  try simp only [Act.put, sa, s0, s1]
  refine wpAnyH_done (by kernel_rfl) ?_ _
  go_wp2_with fail
  refine bodyPost_ret (results_cell1 rfl _ _ N _ _ _ _ rfl (setRow_at HRd.out) Tryz.underlying28 rfl term_size) rfl ?_
  exact read_end _ _ _ _ _ _ N HNN.out _ HBd.out rfl

set_option linter.unusedSimpArgs false in
set_option maxRecDepth 100000 in
set_option maxHeartbeats 8000000 in
theorem rread_tax (g : Nat) (a1 : List UInt8) (c : Nat) (w : World) (hg : g < w.heap.size) (h0 : w.cell? ⟨g, 0, none⟩ = some (.string ⟨#[116, 97, 120]⟩)) (h1 : w.cell? ⟨g, 1, none⟩ = some (.string ⟨a1.toArray⟩)) (l1 : a1.length ≤ 1000000) :
    Calls Tryz.prog 71 #[.slice (some ⟨g, 0, none⟩) 2 c] w (ReadEnd w ⟨2, shR a1, 0, 0, []⟩) := by
  have b0 : Below w.heap.size w (w.alloc (.cells zC 28)) := (Below.refl _ _).alloc (Nat.le_refl _) _
  have r0 := RowAt.new w 28 zC
  obtain ⟨W1, hW1⟩ : ∃ z, w.alloc (.cells zC 28) = z := ⟨_, rfl⟩
  obtain ⟨N, hN⟩ : ∃ z, w.heap.size = z := ⟨_, rfl⟩
  rw [hW1] at b0 r0
  rw [hN] at b0 r0 hg
  have HR0 := Lib.hid r0
  have HB0 := Lib.hid b0
  have HW1 := Lib.hid hW1
  have HNN := Lib.hid hN
  unfold zC at HW1
  have HC0 : Hid (∀ W, Below N w W → W.cell? ⟨g, 0, none⟩ = some (.string ⟨#[116, 97, 120]⟩)) := Lib.hid (fun W hW => (hW.cell (p := ⟨g, 0, none⟩) hg).trans h0)
  have HC1 : Hid (∀ W, Below N w W → W.cell? ⟨g, 1, none⟩ = some (.string ⟨a1.toArray⟩)) := Lib.hid (fun W hW => (hW.cell (p := ⟨g, 1, none⟩) hg).trans h1)
  have c0 := HC0.out W1 HB0.out
  have c1 := HC1.out W1 HB0.out
  clear b0 r0 hW1 h0 h1
  have HF1 := Lib.hid (fun W => rshare_any a1 W l1)
  obtain ⟨x1, hx1⟩ : ∃ x, shR a1 = x := ⟨_, rfl⟩
  rw [hx1] at HF1 ⊢
  unfold strV at HF1
  clear hx1
  go_enter Tryz.func71, Tryz.ntmps71
  go_upto_region 1 with fail
  rw [HW1.out]
  clear hN
  go_wp2_with fail
  refine (HF1.out _).mono ?_
  rintro e w5 ⟨rfl, rfl⟩
  go_wp2_with ((with_reducible refine store_trow (o := ⟨none, .store _ _ _, _, _, _, _⟩) (.tmp 2) (.tmp 61) N #[.int .i64 2, .int .i64 x1, .int .i64 0, .int .i64 0, .slice none 0 0] _ HR0.out rfl rfl (term_ones _ _ _ _) ?_ ?_ ?_ ?_ ?_); rfl; rfl; rfl; rfl)
  refine bodyPost_ret (results_cell1 rfl _ _ N _ _ _ _ rfl (setRow_at HR0.out) Tryz.underlying28 rfl term_size) rfl ?_
  exact read_end _ _ _ _ _ _ N HNN.out _ HB0.out rfl

set_option linter.unusedSimpArgs false in
set_option maxRecDepth 100000 in
set_option maxHeartbeats 8000000 in
theorem rread_reserve (g : Nat) (a1 : List UInt8) (a3 : List UInt8) (c : Nat) (w : World) (hg : g < w.heap.size) (h0 : w.cell? ⟨g, 0, none⟩ = some (.string ⟨#[114, 101, 115, 101, 114, 118, 101]⟩)) (h1 : w.cell? ⟨g, 1, none⟩ = some (.string ⟨a1.toArray⟩)) (h3 : w.cell? ⟨g, 3, none⟩ = some (.string ⟨a3.toArray⟩)) (l1 : a1.length ≤ 1000000) (l3 : a3.length ≤ 1000000) :
    Calls Tryz.prog 71 #[.slice (some ⟨g, 0, none⟩) 4 c] w (ReadEnd w ⟨3, shR a1, numR a3, 0, []⟩) := by
  have b0 : Below w.heap.size w (w.alloc (.cells zC 28)) := (Below.refl _ _).alloc (Nat.le_refl _) _
  have r0 := RowAt.new w 28 zC
  obtain ⟨W1, hW1⟩ : ∃ z, w.alloc (.cells zC 28) = z := ⟨_, rfl⟩
  obtain ⟨N, hN⟩ : ∃ z, w.heap.size = z := ⟨_, rfl⟩
  rw [hW1] at b0 r0
  rw [hN] at b0 r0 hg
  have HR0 := Lib.hid r0
  have HB0 := Lib.hid b0
  have HW1 := Lib.hid hW1
  have HNN := Lib.hid hN
  unfold zC at HW1
  have HC0 : Hid (∀ W, Below N w W → W.cell? ⟨g, 0, none⟩ = some (.string ⟨#[114, 101, 115, 101, 114, 118, 101]⟩)) := Lib.hid (fun W hW => (hW.cell (p := ⟨g, 0, none⟩) hg).trans h0)
  have HC1 : Hid (∀ W, Below N w W → W.cell? ⟨g, 1, none⟩ = some (.string ⟨a1.toArray⟩)) := Lib.hid (fun W hW => (hW.cell (p := ⟨g, 1, none⟩) hg).trans h1)
  have HC3 : Hid (∀ W, Below N w W → W.cell? ⟨g, 3, none⟩ = some (.string ⟨a3.toArray⟩)) := Lib.hid (fun W hW => (hW.cell (p := ⟨g, 3, none⟩) hg).trans h3)
  have c0 := HC0.out W1 HB0.out
  have c1 := HC1.out W1 HB0.out
  have c3 := HC3.out W1 HB0.out
  clear b0 r0 hW1 h0 h1 h3
  have HF1 := Lib.hid (fun W => rshare_any a1 W l1)
  obtain ⟨x1, hx1⟩ : ∃ x, shR a1 = x := ⟨_, rfl⟩
  rw [hx1] at HF1 ⊢
  unfold strV at HF1
  have HF3 := Lib.hid (fun W => rnumber_any a3 W l3)
  obtain ⟨x3, hx3⟩ : ∃ x, numR a3 = x := ⟨_, rfl⟩
  rw [hx3] at HF3 ⊢
  unfold strV at HF3
  clear hx1 hx3
  go_enter Tryz.func71, Tryz.ntmps71
  go_upto_region 1 with fail
  rw [HW1.out]
  clear hN
  go_wp2_with fail
  refine wp_region_held_drew (S := fun W => Below N w W) (by kernel_rfl) HB0.out.drew (fun hHeld => ?_)
  have HRd := Lib.hid HR0.out.drew
  have HBd : Hid (Below N w W1.drew) := Lib.hid HB0.out.drew
  obtain ⟨X, hX⟩ : ∃ z, W1.drew = z := ⟨_, rfl⟩
  rw [hX] at HRd HBd hHeld ⊢
  clear hX
  refine tk 0 (v := ?_) rfl (by kernel_rfl) (fun _ _ _ h => h) (by rfl) (by assumption) ?_ ?_
  rotate_left
  · intro wS hSw
    go_simp
    all_goals with_reducible rfl
  simp only [Act.put, sa, s0, s1]
  refine tk 1 (v := ?_) rfl (by kernel_rfl) (fun _ _ _ h => h) (by rfl) (by assumption) ?_ ?_
  rotate_left
  · intro wS hSw
    go_simp
    all_goals with_reducible rfl
  simp only [Act.put, sa, s0, s1]
  refine tk 2 (v := ?_) rfl (by kernel_rfl) (fun _ _ _ h => h) (by rfl) (by assumption) ?_ ?_
  rotate_left
  · intro wS hSw
    have hc := HC1.out wS hSw
    go_simp
    all_goals with_reducible rfl
  simp only [Act.put, sa, s0, s1]
  refine tk 4 (v := ?_) rfl (by kernel_rfl) (fun _ _ _ h => h) (by rfl) (by assumption) ?_ ?_
  rotate_left
  · intro wS hSw
    go_simp
    all_goals with_reducible rfl
  simp only [Act.put, sa, s0, s1]
  refine tk 5 (v := ?_) rfl (by kernel_rfl) (fun _ _ _ h => h) (by rfl) (by assumption) ?_ ?_
  rotate_left
  · intro wS hSw
    go_simp
    all_goals with_reducible rfl
  simp only [Act.put, sa, s0, s1]
  refine tk 6 (v := ?_) rfl (by kernel_rfl) (fun _ _ _ h => h) (by rfl) (by assumption) ?_ ?_
  rotate_left
  · intro wS hSw
    have hc := HC3.out wS hSw
    go_simp
    all_goals with_reducible rfl
  simp only [Act.put, sa, s0, s1]
  refine rd 3 (by kernel_rfl) rfl fun K hK => ?_
  go_simp
  go_at_call 96
  refine (HF1.out _).mono ?_
  rintro e W5 ⟨rfl, rfl⟩
  go_wp2_with fail
  refine hK.out _ _ HBd.out (fun hHeld => ?_)
  clear hK K
  try simp only [Act.put, sa, s0, s1]
  refine rd 7 (by kernel_rfl) rfl fun K hK => ?_
  go_simp
  go_at_call 97
  refine (HF3.out _).mono ?_
  rintro e W5 ⟨rfl, rfl⟩
  go_wp2_with fail
  refine hK.out _ _ HBd.out (fun hHeld => ?_)
  clear hK K
  try simp only [Act.put, sa, s0, s1]
  refine tk 8 (v := ?_) rfl (by kernel_rfl) (fun _ _ _ h => h) (by rfl) (by assumption) ?_ ?_
  rotate_left
  · intro wS hSw
    go_simp
    all_goals with_reducible rfl
  simp only [Act.put, sa, s0, s1]
  refine rd 9 (by kernel_rfl) rfl fun K hK => ?_
  rw [if_pos (by rfl)]
  refine wp_store_row 28 (.tmp 2) (.tmp 80) rfl N #[.int .i64 3, .int .i64 x1, .int .i64 x3, .int .i64 0, .slice none 0 0] rfl rfl 28 _ HRd.out term_size rfl (term_ones _ _ _ _) ?_
  refine hK.out _ _ (below_setRowT HBd.out (Nat.le_refl _)) (fun hHeld => ?_)
  clear hK K
  try simp only [Act.put, sa, s0, s1]
  refine wpAnyH_done (by kernel_rfl) ?_ _
  go_wp2_with fail
  refine bodyPost_ret (results_cell1 rfl _ _ N _ _ _ _ rfl (setRow_at HRd.out) Tryz.underlying28 rfl term_size) rfl ?_
  exact read_end _ _ _ _ _ _ N HNN.out _ HBd.out rfl

set_option linter.unusedSimpArgs false in
set_option maxRecDepth 100000 in
set_option maxHeartbeats 8000000 in
theorem rread_cap (g : Nat) (a1 : List UInt8) (c : Nat) (w : World) (hg : g < w.heap.size) (h0 : w.cell? ⟨g, 0, none⟩ = some (.string ⟨#[99, 97, 112]⟩)) (h1 : w.cell? ⟨g, 1, none⟩ = some (.string ⟨a1.toArray⟩)) (l1 : a1.length ≤ 1000000) :
    Calls Tryz.prog 71 #[.slice (some ⟨g, 0, none⟩) 2 c] w (ReadEnd w ⟨4, numR a1, 0, 0, []⟩) := by
  have b0 : Below w.heap.size w (w.alloc (.cells zC 28)) := (Below.refl _ _).alloc (Nat.le_refl _) _
  have r0 := RowAt.new w 28 zC
  obtain ⟨W1, hW1⟩ : ∃ z, w.alloc (.cells zC 28) = z := ⟨_, rfl⟩
  obtain ⟨N, hN⟩ : ∃ z, w.heap.size = z := ⟨_, rfl⟩
  rw [hW1] at b0 r0
  rw [hN] at b0 r0 hg
  have HR0 := Lib.hid r0
  have HB0 := Lib.hid b0
  have HW1 := Lib.hid hW1
  have HNN := Lib.hid hN
  unfold zC at HW1
  have HC0 : Hid (∀ W, Below N w W → W.cell? ⟨g, 0, none⟩ = some (.string ⟨#[99, 97, 112]⟩)) := Lib.hid (fun W hW => (hW.cell (p := ⟨g, 0, none⟩) hg).trans h0)
  have HC1 : Hid (∀ W, Below N w W → W.cell? ⟨g, 1, none⟩ = some (.string ⟨a1.toArray⟩)) := Lib.hid (fun W hW => (hW.cell (p := ⟨g, 1, none⟩) hg).trans h1)
  have c0 := HC0.out W1 HB0.out
  have c1 := HC1.out W1 HB0.out
  clear b0 r0 hW1 h0 h1
  have HF1 := Lib.hid (fun W => rnumber_any a1 W l1)
  obtain ⟨x1, hx1⟩ : ∃ x, numR a1 = x := ⟨_, rfl⟩
  rw [hx1] at HF1 ⊢
  unfold strV at HF1
  clear hx1
  go_enter Tryz.func71, Tryz.ntmps71
  go_upto_region 1 with fail
  rw [HW1.out]
  clear hN
  go_wp2_with fail
  refine (HF1.out _).mono ?_
  rintro e w5 ⟨rfl, rfl⟩
  go_wp2_with ((with_reducible refine store_trow (o := ⟨none, .store _ _ _, _, _, _, _⟩) (.tmp 2) (.tmp 95) N #[.int .i64 4, .int .i64 x1, .int .i64 0, .int .i64 0, .slice none 0 0] _ HR0.out rfl rfl (term_ones _ _ _ _) ?_ ?_ ?_ ?_ ?_); rfl; rfl; rfl; rfl)
  refine bodyPost_ret (results_cell1 rfl _ _ N _ _ _ _ rfl (setRow_at HR0.out) Tryz.underlying28 rfl term_size) rfl ?_
  exact read_end _ _ _ _ _ _ N HNN.out _ HB0.out rfl

set_option linter.unusedSimpArgs false in
set_option maxRecDepth 100000 in
set_option maxHeartbeats 8000000 in
theorem rread_zp (g : Nat) (n : Nat) (c : Nat) (w : World) (hg : g < w.heap.size) (h0 : w.cell? ⟨g, 0, none⟩ = some (.string ⟨#[112, 97, 115, 115]⟩)) (h1n : 1 ≤ n) (hn : n ≤ 3001) (n4 : n ≠ 4) (n6 : n ≠ 6) :
    Calls Tryz.prog 71 #[.slice (some ⟨g, 0, none⟩) n c] w (ReadEnd w zeroT) := by
  have b0 : Below w.heap.size w (w.alloc (.cells zC 28)) := (Below.refl _ _).alloc (Nat.le_refl _) _
  have r0 := RowAt.new w 28 zC
  obtain ⟨W1, hW1⟩ : ∃ z, w.alloc (.cells zC 28) = z := ⟨_, rfl⟩
  obtain ⟨N, hN⟩ : ∃ z, w.heap.size = z := ⟨_, rfl⟩
  rw [hW1] at b0 r0
  rw [hN] at b0 r0 hg
  have HR0 := Lib.hid r0
  have HB0 := Lib.hid b0
  have HW1 := Lib.hid hW1
  have HNN := Lib.hid hN
  unfold zC at HW1
  have HC0 : Hid (∀ W, Below N w W → W.cell? ⟨g, 0, none⟩ = some (.string ⟨#[112, 97, 115, 115]⟩)) := Lib.hid (fun W hW => (hW.cell (p := ⟨g, 0, none⟩) hg).trans h0)
  have c0 := HC0.out W1 HB0.out
  clear b0 r0 hW1 h0
  have d4 : ((n : Int) == 4) = false := by rw [beq_eq_false_iff_ne]; omega
  have e4 : (n == 4) = false := by rw [beq_eq_false_iff_ne]; omega
  have d6 : ((n : Int) == 6) = false := by rw [beq_eq_false_iff_ne]; omega
  have e6 : (n == 6) = false := by rw [beq_eq_false_iff_ne]; omega
  go_enter Tryz.func71, Tryz.ntmps71
  go_upto_region 1 with fail
  rw [HW1.out]
  clear hN
  go_wp2_with ((with_reducible refine store_trow (o := ⟨none, .store _ _ _, _, _, _, _⟩) (.tmp 2) (.tmp 119) N #[.int .i64 0, .int .i64 0, .int .i64 0, .int .i64 0, .slice none 0 0] _ HR0.out rfl rfl (term_ones _ _ _ _) ?_ ?_ ?_ ?_ ?_); rfl; rfl; rfl; rfl)
  refine bodyPost_ret (results_cell1 rfl _ _ N _ _ _ _ rfl (setRow_at HR0.out) Tryz.underlying28 rfl term_size) rfl ?_
  exact read_end _ _ _ _ _ _ N HNN.out _ HB0.out rfl

set_option linter.unusedSimpArgs false in
set_option maxRecDepth 100000 in
set_option maxHeartbeats 8000000 in
theorem rread_zt (g : Nat) (n : Nat) (c : Nat) (w : World) (hg : g < w.heap.size) (h0 : w.cell? ⟨g, 0, none⟩ = some (.string ⟨#[116, 97, 120]⟩)) (h1n : 1 ≤ n) (hn : n ≤ 3001) (n2 : n ≠ 2) :
    Calls Tryz.prog 71 #[.slice (some ⟨g, 0, none⟩) n c] w (ReadEnd w zeroT) := by
  have b0 : Below w.heap.size w (w.alloc (.cells zC 28)) := (Below.refl _ _).alloc (Nat.le_refl _) _
  have r0 := RowAt.new w 28 zC
  obtain ⟨W1, hW1⟩ : ∃ z, w.alloc (.cells zC 28) = z := ⟨_, rfl⟩
  obtain ⟨N, hN⟩ : ∃ z, w.heap.size = z := ⟨_, rfl⟩
  rw [hW1] at b0 r0
  rw [hN] at b0 r0 hg
  have HR0 := Lib.hid r0
  have HB0 := Lib.hid b0
  have HW1 := Lib.hid hW1
  have HNN := Lib.hid hN
  unfold zC at HW1
  have HC0 : Hid (∀ W, Below N w W → W.cell? ⟨g, 0, none⟩ = some (.string ⟨#[116, 97, 120]⟩)) := Lib.hid (fun W hW => (hW.cell (p := ⟨g, 0, none⟩) hg).trans h0)
  have c0 := HC0.out W1 HB0.out
  clear b0 r0 hW1 h0
  have d2 : ((n : Int) == 2) = false := by rw [beq_eq_false_iff_ne]; omega
  have e2 : (n == 2) = false := by rw [beq_eq_false_iff_ne]; omega
  go_enter Tryz.func71, Tryz.ntmps71
  go_upto_region 1 with fail
  rw [HW1.out]
  clear hN
  go_wp2_with ((with_reducible refine store_trow (o := ⟨none, .store _ _ _, _, _, _, _⟩) (.tmp 2) (.tmp 119) N #[.int .i64 0, .int .i64 0, .int .i64 0, .int .i64 0, .slice none 0 0] _ HR0.out rfl rfl (term_ones _ _ _ _) ?_ ?_ ?_ ?_ ?_); rfl; rfl; rfl; rfl)
  refine bodyPost_ret (results_cell1 rfl _ _ N _ _ _ _ rfl (setRow_at HR0.out) Tryz.underlying28 rfl term_size) rfl ?_
  exact read_end _ _ _ _ _ _ N HNN.out _ HB0.out rfl

set_option linter.unusedSimpArgs false in
set_option maxRecDepth 100000 in
set_option maxHeartbeats 8000000 in
theorem rread_zr (g : Nat) (n : Nat) (c : Nat) (w : World) (hg : g < w.heap.size) (h0 : w.cell? ⟨g, 0, none⟩ = some (.string ⟨#[114, 101, 115, 101, 114, 118, 101]⟩)) (h1n : 1 ≤ n) (hn : n ≤ 3001) (n4 : n ≠ 4) :
    Calls Tryz.prog 71 #[.slice (some ⟨g, 0, none⟩) n c] w (ReadEnd w zeroT) := by
  have b0 : Below w.heap.size w (w.alloc (.cells zC 28)) := (Below.refl _ _).alloc (Nat.le_refl _) _
  have r0 := RowAt.new w 28 zC
  obtain ⟨W1, hW1⟩ : ∃ z, w.alloc (.cells zC 28) = z := ⟨_, rfl⟩
  obtain ⟨N, hN⟩ : ∃ z, w.heap.size = z := ⟨_, rfl⟩
  rw [hW1] at b0 r0
  rw [hN] at b0 r0 hg
  have HR0 := Lib.hid r0
  have HB0 := Lib.hid b0
  have HW1 := Lib.hid hW1
  have HNN := Lib.hid hN
  unfold zC at HW1
  have HC0 : Hid (∀ W, Below N w W → W.cell? ⟨g, 0, none⟩ = some (.string ⟨#[114, 101, 115, 101, 114, 118, 101]⟩)) := Lib.hid (fun W hW => (hW.cell (p := ⟨g, 0, none⟩) hg).trans h0)
  have c0 := HC0.out W1 HB0.out
  clear b0 r0 hW1 h0
  have d4 : ((n : Int) == 4) = false := by rw [beq_eq_false_iff_ne]; omega
  have e4 : (n == 4) = false := by rw [beq_eq_false_iff_ne]; omega
  go_enter Tryz.func71, Tryz.ntmps71
  go_upto_region 1 with fail
  rw [HW1.out]
  clear hN
  go_wp2_with ((with_reducible refine store_trow (o := ⟨none, .store _ _ _, _, _, _, _⟩) (.tmp 2) (.tmp 119) N #[.int .i64 0, .int .i64 0, .int .i64 0, .int .i64 0, .slice none 0 0] _ HR0.out rfl rfl (term_ones _ _ _ _) ?_ ?_ ?_ ?_ ?_); rfl; rfl; rfl; rfl)
  refine bodyPost_ret (results_cell1 rfl _ _ N _ _ _ _ rfl (setRow_at HR0.out) Tryz.underlying28 rfl term_size) rfl ?_
  exact read_end _ _ _ _ _ _ N HNN.out _ HB0.out rfl

set_option linter.unusedSimpArgs false in
set_option maxRecDepth 100000 in
set_option maxHeartbeats 8000000 in
theorem rread_zc (g : Nat) (n : Nat) (c : Nat) (w : World) (hg : g < w.heap.size) (h0 : w.cell? ⟨g, 0, none⟩ = some (.string ⟨#[99, 97, 112]⟩)) (h1n : 1 ≤ n) (hn : n ≤ 3001) (n2 : n ≠ 2) :
    Calls Tryz.prog 71 #[.slice (some ⟨g, 0, none⟩) n c] w (ReadEnd w zeroT) := by
  have b0 : Below w.heap.size w (w.alloc (.cells zC 28)) := (Below.refl _ _).alloc (Nat.le_refl _) _
  have r0 := RowAt.new w 28 zC
  obtain ⟨W1, hW1⟩ : ∃ z, w.alloc (.cells zC 28) = z := ⟨_, rfl⟩
  obtain ⟨N, hN⟩ : ∃ z, w.heap.size = z := ⟨_, rfl⟩
  rw [hW1] at b0 r0
  rw [hN] at b0 r0 hg
  have HR0 := Lib.hid r0
  have HB0 := Lib.hid b0
  have HW1 := Lib.hid hW1
  have HNN := Lib.hid hN
  unfold zC at HW1
  have HC0 : Hid (∀ W, Below N w W → W.cell? ⟨g, 0, none⟩ = some (.string ⟨#[99, 97, 112]⟩)) := Lib.hid (fun W hW => (hW.cell (p := ⟨g, 0, none⟩) hg).trans h0)
  have c0 := HC0.out W1 HB0.out
  clear b0 r0 hW1 h0
  have d2 : ((n : Int) == 2) = false := by rw [beq_eq_false_iff_ne]; omega
  have e2 : (n == 2) = false := by rw [beq_eq_false_iff_ne]; omega
  go_enter Tryz.func71, Tryz.ntmps71
  go_upto_region 1 with fail
  rw [HW1.out]
  clear hN
  go_wp2_with ((with_reducible refine store_trow (o := ⟨none, .store _ _ _, _, _, _, _⟩) (.tmp 2) (.tmp 119) N #[.int .i64 0, .int .i64 0, .int .i64 0, .int .i64 0, .slice none 0 0] _ HR0.out rfl rfl (term_ones _ _ _ _) ?_ ?_ ?_ ?_ ?_); rfl; rfl; rfl; rfl)
  refine bodyPost_ret (results_cell1 rfl _ _ N _ _ _ _ rfl (setRow_at HR0.out) Tryz.underlying28 rfl term_size) rfl ?_
  exact read_end _ _ _ _ _ _ N HNN.out _ HB0.out rfl

set_option linter.unusedSimpArgs false in
set_option maxRecDepth 100000 in
set_option maxHeartbeats 8000000 in
theorem rread_z (g : Nat) (n : Nat) (a0 : List UInt8) (c : Nat) (w : World) (hg : g < w.heap.size) (h0 : w.cell? ⟨g, 0, none⟩ = some (.string ⟨a0.toArray⟩)) (h1n : 1 ≤ n) (hn : n ≤ 3001) (zp : a0 ≠ [112, 97, 115, 115]) (zt : a0 ≠ [116, 97, 120]) (zr : a0 ≠ [114, 101, 115, 101, 114, 118, 101]) (zc : a0 ≠ [99, 97, 112]) (zu : a0 ≠ [114, 101, 99, 111, 117, 112]) :
    Calls Tryz.prog 71 #[.slice (some ⟨g, 0, none⟩) n c] w (ReadEnd w zeroT) := by
  have b0 : Below w.heap.size w (w.alloc (.cells zC 28)) := (Below.refl _ _).alloc (Nat.le_refl _) _
  have r0 := RowAt.new w 28 zC
  obtain ⟨W1, hW1⟩ : ∃ z, w.alloc (.cells zC 28) = z := ⟨_, rfl⟩
  obtain ⟨N, hN⟩ : ∃ z, w.heap.size = z := ⟨_, rfl⟩
  rw [hW1] at b0 r0
  rw [hN] at b0 r0 hg
  have HR0 := Lib.hid r0
  have HB0 := Lib.hid b0
  have HW1 := Lib.hid hW1
  have HNN := Lib.hid hN
  unfold zC at HW1
  have HC0 : Hid (∀ W, Below N w W → W.cell? ⟨g, 0, none⟩ = some (.string ⟨a0.toArray⟩)) := Lib.hid (fun W hW => (hW.cell (p := ⟨g, 0, none⟩) hg).trans h0)
  have c0 := HC0.out W1 HB0.out
  clear b0 r0 hW1 h0
  have qp : (a0 == [112, 97, 115, 115]) = false := beq_eq_false_iff_ne.2 zp
  have qt : (a0 == [116, 97, 120]) = false := beq_eq_false_iff_ne.2 zt
  have qr : (a0 == [114, 101, 115, 101, 114, 118, 101]) = false := beq_eq_false_iff_ne.2 zr
  have qc : (a0 == [99, 97, 112]) = false := beq_eq_false_iff_ne.2 zc
  have qu : (a0 == [114, 101, 99, 111, 117, 112]) = false := beq_eq_false_iff_ne.2 zu
  clear zp zt zr zc zu
  go_enter Tryz.func71, Tryz.ntmps71
  go_upto_region 1 with fail
  rw [HW1.out]
  clear hN
  go_wp2_with ((with_reducible refine store_trow (o := ⟨none, .store _ _ _, _, _, _, _⟩) (.tmp 2) (.tmp 119) N #[.int .i64 0, .int .i64 0, .int .i64 0, .int .i64 0, .slice none 0 0] _ HR0.out rfl rfl (term_ones _ _ _ _) ?_ ?_ ?_ ?_ ?_); rfl; rfl; rfl; rfl)
  refine bodyPost_ret (results_cell1 rfl _ _ N _ _ _ _ rfl (setRow_at HR0.out) Tryz.underlying28 rfl term_size) rfl ?_
  exact read_end _ _ _ _ _ _ N HNN.out _ HB0.out rfl

end
end Go.Proofs.YtfiabonacpepnaaGreatDoor
namespace Go.Proofs.YtfiabonacpepnaaGreatDoor
section
open Go Go.RowKit Go.Lib Go.Shelf Go.Maps

def accK (ws : List (List UInt8)) (k : Nat) : List Int := ((ws.take k).drop 1).map numR
theorem accK_step {ws : List (List UInt8)} {k : Nat} {x : List UInt8} (h : ws[k]? = some x) (hk : 1 ≤ k) : accK ws (k + 1) = accK ws k ++ [numR x] := by
  have hlt := (List.getElem?_eq_some_iff.1 h).1
  unfold accK
  rw [List.take_add_one, h, List.drop_append_of_le_length (by rw [List.length_take]; omega), List.map_append]
  rfl
theorem accK_len (ws : List (List UInt8)) (k : Nat) : (accK ws k).length ≤ ws.length := by
  unfold accK
  rw [List.length_map, List.length_drop, List.length_take]
  omega
theorem below_setCellT {B g i : Nat} {u : Value} {a w : World} (h : Below B a w) (hg : B ≤ g) : Below B a (w.setCell ⟨g, i, none⟩ u) :=
  ⟨h.os, h.tape, h.output, by simpa [World.setCell] using h.size, fun k hk => (Below.heap_setCell w ⟨g, i, none⟩ u k (by show k ≠ g; omega)).trans (h.block k hk)⟩
def numS (v : Value) : Nat := (RowKit.intOf v).toNat
set_option maxRecDepth 100000 in
set_option maxHeartbeats 16000000 in
theorem rread_recoup (g c : Nat) (t : List (List UInt8)) (w : World) (hs : StrsAt w (some ⟨g, 0, none⟩) (kRecoup :: t)) (hl : t.length ≤ 3001) (hx : ∀ x ∈ t, x.length ≤ 1000000) :
    Calls Tryz.prog 71 #[.slice (some ⟨g, 0, none⟩) (t.length + 1) c] w (ReadEnd w ⟨5, 0, 0, 0, t.map numR⟩) := by
  obtain ⟨ws, hws⟩ : ∃ z, kRecoup :: t = z := ⟨_, rfl⟩
  have hg : g < w.heap.size := by
    obtain ⟨g', e, h1, _⟩ := hs 0 kRecoup rfl
    cases e; exact h1
  have HX : Hid (∀ k x, 1 ≤ k → ws[k]? = some x → x.length ≤ 1000000) := Lib.hid (fun k x hk h => by
    rw [← hws] at h
    obtain ⟨k, rfl⟩ : ∃ j, k = j + 1 := ⟨k - 1, by omega⟩
    exact hx x (List.mem_of_getElem? (by simpa using h)))
  obtain ⟨n, hn⟩ : ∃ z, t.length + 1 = z := ⟨_, rfl⟩
  have HN : Hid (ws.length = n) := Lib.hid (by rw [← hws, ← hn]; rfl)
  have HA0 : Hid (accK ws 1 = []) := Lib.hid (by unfold accK; rw [← hws]; rfl)
  have HAN : Hid (accK ws n = t.map numR) := Lib.hid (by
    unfold accK
    rw [List.take_of_length_le (by rw [HN.out]; exact Nat.le_refl _), ← hws]
    rfl)
  rw [hws] at hs
  obtain ⟨TT, hTT⟩ : ∃ z, t.map numR = z := ⟨_, rfl⟩
  rw [hTT] at HAN
  rw [hn, hTT]
  have hn1 : 1 ≤ n ∧ n ≤ 3002 := by omega
  have h0 : w.cell? ⟨g, 0, none⟩ = some (.string ⟨#[114, 101, 99, 111, 117, 112]⟩) := by
    obtain ⟨g', e, _, h2⟩ := hs 0 kRecoup (by rw [← hws]; rfl)
    cases e; exact h2
  have hr := RowAt.new w 28 zC
  have hr2 := RowAt.new (w.alloc (.cells zC 28)) 28 #[.int .i64 5, .int .i64 0, .int .i64 0, .int .i64 0, .slice none 0 0]
  have e1 : (w.alloc (.cells zC 28)).heap.size = w.heap.size + 1 := by simp
  rw [e1] at hr2
  obtain ⟨N, hN⟩ : ∃ z, w.heap.size = z := ⟨_, rfl⟩
  obtain ⟨W2, hW2⟩ : ∃ z, (w.alloc (.cells zC 28)).alloc (.cells #[.int .i64 5, .int .i64 0, .int .i64 0, .int .i64 0, .slice none 0 0] 28) = z := ⟨_, rfl⟩
  have hr1 := hr.alloc (.cells #[.int .i64 5, .int .i64 0, .int .i64 0, .int .i64 0, .slice none 0 0] 28)
  have hbw : Below w.heap.size w W2 := by rw [← hW2]; exact ((Below.refl _ _).alloc (Nat.le_refl _) _).alloc (by simp) _
  rw [hW2] at hr2 hr1
  rw [hN] at hr1 hr2 hg hbw
  have HM2 := Lib.hid hr2
  have HN2 := Lib.hid hr1
  have HNN := Lib.hid hN
  have HW2 := Lib.hid hW2
  have HB2 := Lib.hid hbw
  unfold zC at HW2 HN2
  have HC : Hid (∀ W, Below N w W → ∀ k x, ws[k]? = some x → W.cell? ⟨g, k, none⟩ = some (strV x)) := Lib.hid (fun W hW k x h => by
    obtain ⟨g', e, _, h2⟩ := hs k x h
    cases e
    exact (hW.cell (p := ⟨g, k, none⟩) hg).trans h2)
  have HG := Lib.hid hg
  clear hs hr hr1 hr2 e1 hW2 hbw hws hx hl hn hTT
  go_enter Tryz.func71, Tryz.ntmps71
  go_upto_region 13 with fail
  rw [HW2.out]
  clear h0 hN
  go_wp2_with fail
  go_loopw [4] (fun iv wr => ∃ (k : Nat) (va : Value), iv = .int .i64 k ∧ 1 ≤ k ∧ k ≤ n ∧ Hid (RowAt wr (N + 1) 28 #[.int .i64 5, .int .i64 0, .int .i64 0, .int .i64 0, va] ∧ RowAt wr N 28 #[.int .i64 0, .int .i64 0, .int .i64 0, .int .i64 0, .slice none 0 0] ∧ OwnI 3 1 wr N va ((accK ws k).map fun a => [a]) ∧ Below N w wr)) (fun iv _ => n - (intOf iv).toNat)
  case atStart => exact ⟨1, .slice none 0 0, rfl, Nat.le_refl _, hn1.1, Lib.hid ⟨HM2.out, HN2.out, by rw [HA0.out]; exact OwnI.nil _ _ _ _, HB2.out⟩⟩
  case round =>
    obtain ⟨k, va, rfl, hk1, hkn, HR⟩ := hrel
    have HM := Lib.hid HR.out.1
    have HN1 := Lib.hid HR.out.2.1
    have HO := Lib.hid HR.out.2.2.1
    have HB := Lib.hid HR.out.2.2.2
    clear HR
    have HVA : Hid ((#[.int .i64 5, .int .i64 0, .int .i64 0, .int .i64 0, va] : Array Value).all (·.oneCell') = true) := Lib.hid (by
      obtain ⟨A, n, c, rfl⟩ := HO.out.slice3
      kernel_rfl)
    by_cases hk2 : k < n
    · obtain ⟨x, hxk⟩ : ∃ x, ws[k]? = some x := ⟨_, List.getElem?_eq_getElem (by rw [HN.out]; exact hk2)⟩
      have HCK := Lib.hid (fun W hW => HC.out W hW k x hxk)
      have HNX := Lib.hid (accK_step hxk hk1)
      have HAL := Lib.hid (accK_len ws k)
      have HNU := Lib.hid (fun W => rnumber_any x W (HX.out k x hk1 hxk))
      obtain ⟨y, hy⟩ : ∃ z, numR x = z := ⟨_, rfl⟩
      rw [hy] at HNX HNU
      obtain ⟨AK, hAK⟩ : ∃ z, accK ws k = z := ⟨_, rfl⟩
      rw [hAK] at HNX HAL HO
      have HLEN : Hid (AK.length ≤ 3002) := Lib.hid (by have := HAL.out; rw [HN.out] at this; omega)
      unfold strV at HCK HNU
      clear hxk hy hAK
      go_upto_region 16 with fail
      refine wp_region_held_drew (S := fun W => Below N w W) (by kernel_rfl) HB.out.drew (fun hHeld => ?_)
      have HM3 := Lib.hid HM.out.drew
      have HN3 := Lib.hid HN1.out.drew
      have HB3 : Hid (Below N w wr.drew) := Lib.hid HB.out.drew
      have HO3 : Hid (OwnI 3 1 wr.drew N va (AK.map fun a => [a])) := Lib.hid (HO.out.kept fun _ _ => rfl)
      obtain ⟨w3, hw3⟩ : ∃ z, wr.drew = z := ⟨_, rfl⟩
      rw [hw3] at HM3 HN3 HB3 HO3 hHeld ⊢
      clear hw3
      refine tk 0 (v := ?_) rfl (by kernel_rfl) (fun _ _ _ h => h) (by rfl) (by assumption) ?_ ?_
      rotate_left
      · intro wS hSw
        go_simp
        all_goals with_reducible rfl
      simp only [Act.put, sa, s0, s1]
      refine tk 2 (v := ?_) rfl (by kernel_rfl) (fun _ _ _ h => h) (by rfl) (by assumption) ?_ ?_
      rotate_left
      · intro wS hSw
        go_simp
        all_goals with_reducible rfl
      simp only [Act.put, sa, s0, s1]
      refine tk 3 (v := ?_) rfl (by kernel_rfl) (fun _ _ _ h => h) (by rfl) (by assumption) ?_ ?_
      rotate_left
      · intro wS hSw
        go_simp
        all_goals with_reducible rfl
      simp only [Act.put, sa, s0, s1]
      refine tk 4 (v := ?_) rfl (by kernel_rfl) (fun _ _ _ h => h) (by rfl) (by assumption) ?_ ?_
      rotate_left
      · intro wS hSw
        go_simp
        all_goals with_reducible rfl
      simp only [Act.put, sa, s0, s1]
      refine tk 5 (v := ?_) rfl (by kernel_rfl) (fun _ _ _ h => h) (by rfl) (by assumption) ?_ ?_
      rotate_left
      · intro wS hSw
        have hc := HCK.out wS hSw
        go_simp
        all_goals with_reducible rfl
      simp only [Act.put, sa, s0, s1]
      refine wpAnyH_ready (rs := [1, 6]) (by kernel_rfl) (by simp) ?_
      refine AllReadyH.cons (o := ⟨_, _, _, _, _, _⟩) rfl (fun K hK => ?_) (AllReadyH.cons (o := ⟨_, _, _, _, _, _⟩) rfl (fun K hK => ?_) AllReadyH.nil)
      · go_simp
        have cM4 : w3.cell? ⟨N + 1, 4, none⟩ = some va := HM3.out.cell 4
        go_simp
        refine hK.out _ _ (HB3.out) (fun hHeld => ?_)
        clear hK K
        try simp only [Act.put, sa, s0, s1]
        refine wpAnyH_ready (rs := [6]) (by kernel_rfl) (by simp) ?_
        refine AllReadyH.cons (o := ⟨_, _, _, _, _, _⟩) rfl (fun K hK => ?_) AllReadyH.nil
        go_simp
        go_at_call 97
        refine (HNU.out _).mono ?_
        rintro e w9 ⟨rfl, rfl⟩
        go_wp2_with fail
        refine hK.out _ _ (HB3.out) (fun hHeld => ?_)
        clear hK K
        try simp only [Act.put, sa, s0, s1]
        refine wpAnyH_ready (rs := [7]) (by kernel_rfl) (by simp) ?_
        refine AllReadyH.cons (o := ⟨_, _, _, _, _, _⟩) rfl (fun K hK => ?_) AllReadyH.nil
        go_simp
        refine hK.out _ _ (HB3.out.alloc (Nat.le_of_lt (Nat.lt_of_succ_lt HM3.out.lt)) _) (fun hHeld => ?_)
        clear hK K
        try simp only [Act.put, sa, s0, s1]
        refine wpAnyH_ready (rs := [8]) (by kernel_rfl) (by simp) ?_
        refine AllReadyH.cons (o := ⟨_, _, _, _, _, _⟩) rfl (fun K hK => ?_) AllReadyH.nil
        rw [if_pos (by rfl)]
        refine wp_append_irows Tryz.underlying26 int_info rfl (by decide) (by decide) (.tmp 109) (.tmp 115) N (AK.map fun a => [a]) [[y]] _ _ (HO3.out.below ((Below.refl _ _).alloc (Nat.le_refl _) _)) ⟨by simp, .inr ⟨w3.heap.size, 0, 1, rfl, (RowAt.new w3 3 #[.int .i64 y]).lt, ?_⟩⟩ (by rw [List.length_map]; have := HLEN.out; simp; omega) (by have := HM3.out.lt; simp; omega) rfl rfl rfl ?_
        · intro i r hr j x hx
          have hi : i = 0 := by have := (List.getElem?_eq_some_iff.1 hr).1; simpa using this
          subst hi
          simp at hr
          subst hr
          have hj : j = 0 := by have := (List.getElem?_eq_some_iff.1 hx).1; simpa using this
          subst hj
          simp at hx
          subst hx
          exact (RowAt.new w3 3 #[.int .i64 y]).cell 0
        intro v5 w5 ho5 hg5
        obtain ⟨A5, n5, c5, rfl⟩ := ho5.slice3
        have b35 : Below N w3 w5 := ((Below.refl _ _).alloc (by have := HN3.out.lt; omega) _).grown hg5 (by have := HN3.out.lt; simp; omega) (fun j e => (HO3.out.lt j e).1)
        have keep5 : ∀ g T cs, T ≠ 3 → RowAt w3 g T cs → RowAt w5 g T cs := fun g T cs hT hr => by
          have h1 := hr.alloc (.cells #[.int .i64 y] 3)
          refine (hg5.block g h1.lt fun e => ?_).trans h1
          exact HO3.out.ne_row (fun h => hT h.symm) hr g (by rw [← e]) rfl
        have HM5 := Lib.hid (keep5 _ _ _ (by decide) HM3.out)
        have HN5 := Lib.hid (keep5 _ _ _ (by decide) HN3.out)
        have HB5 := Lib.hid (HB3.out.trans b35)
        have HO5 := Lib.hid ho5
        clear ho5 hg5 b35 keep5
        refine hK.out _ _ (HB5.out) (fun hHeld => ?_)
        clear hK K
        try simp only [Act.put, sa, s0, s1]
        refine tk 9 (v := ?_) rfl (by kernel_rfl) (fun _ _ _ h => h) (by rfl) (by assumption) ?_ ?_
        rotate_left
        · intro wS hSw
          go_simp
          all_goals with_reducible rfl
        simp only [Act.put, sa, s0, s1]
        refine wpAnyH_ready (rs := [10]) (by kernel_rfl) (by simp) ?_
        refine AllReadyH.cons (o := ⟨_, _, _, _, _, _⟩) rfl (fun K hK => ?_) AllReadyH.nil
        go_simp
        have fM4 : w5.frozen? ⟨N + 1, 4, none⟩ = false := HM5.out.free 4
        have cM4 : w5.cell? ⟨N + 1, 4, none⟩ = some va := HM5.out.cell 4
        go_simp
        refine hK.out _ _ (below_setCellT HB5.out (Nat.le_succ _)) (fun hHeld => ?_)
        clear hK K
        try simp only [Act.put, sa, s0, s1]
        refine wpAnyH_done (by kernel_rfl) ?_ _
        go_wp2_with fail
        go_roundw
        case rel => exact ⟨k + 1, .slice A5 n5 c5, by go_num, by omega, by omega, Lib.hid ⟨HM5.out.set 4 (.slice A5 n5 c5), HN5.out.far (p := ⟨N + 1, 4, none⟩) (by show N ≠ N + 1; omega) _, by rw [HNX.out, List.map_append]; exact HO5.out.kept fun g hgb => Below.heap_setCell w5 ⟨N + 1, 4, none⟩ _ g (HO5.out.ne_row (by decide) HM5.out g hgb), below_setCellT HB5.out (Nat.le_succ _)⟩⟩
        case measure => simp [intOf]; omega
      · go_simp
        go_at_call 97
        refine (HNU.out _).mono ?_
        rintro e w9 ⟨rfl, rfl⟩
        go_wp2_with fail
        refine hK.out _ _ (HB3.out) (fun hHeld => ?_)
        clear hK K
        try simp only [Act.put, sa, s0, s1]
        refine wpAnyH_ready (rs := [1, 7]) (by kernel_rfl) (by simp) ?_
        refine AllReadyH.cons (o := ⟨_, _, _, _, _, _⟩) rfl (fun K hK => ?_) (AllReadyH.cons (o := ⟨_, _, _, _, _, _⟩) rfl (fun K hK => ?_) AllReadyH.nil)
        · go_simp
          have cM4 : w3.cell? ⟨N + 1, 4, none⟩ = some va := HM3.out.cell 4
          go_simp
          refine hK.out _ _ (HB3.out) (fun hHeld => ?_)
          clear hK K
          try simp only [Act.put, sa, s0, s1]
          refine wpAnyH_ready (rs := [7]) (by kernel_rfl) (by simp) ?_
          refine AllReadyH.cons (o := ⟨_, _, _, _, _, _⟩) rfl (fun K hK => ?_) AllReadyH.nil
          go_simp
          refine hK.out _ _ (HB3.out.alloc (Nat.le_of_lt (Nat.lt_of_succ_lt HM3.out.lt)) _) (fun hHeld => ?_)
          clear hK K
          try simp only [Act.put, sa, s0, s1]
          refine wpAnyH_ready (rs := [8]) (by kernel_rfl) (by simp) ?_
          refine AllReadyH.cons (o := ⟨_, _, _, _, _, _⟩) rfl (fun K hK => ?_) AllReadyH.nil
          rw [if_pos (by rfl)]
          refine wp_append_irows Tryz.underlying26 int_info rfl (by decide) (by decide) (.tmp 109) (.tmp 115) N (AK.map fun a => [a]) [[y]] _ _ (HO3.out.below ((Below.refl _ _).alloc (Nat.le_refl _) _)) ⟨by simp, .inr ⟨w3.heap.size, 0, 1, rfl, (RowAt.new w3 3 #[.int .i64 y]).lt, ?_⟩⟩ (by rw [List.length_map]; have := HLEN.out; simp; omega) (by have := HM3.out.lt; simp; omega) rfl rfl rfl ?_
          · intro i r hr j x hx
            have hi : i = 0 := by have := (List.getElem?_eq_some_iff.1 hr).1; simpa using this
            subst hi
            simp at hr
            subst hr
            have hj : j = 0 := by have := (List.getElem?_eq_some_iff.1 hx).1; simpa using this
            subst hj
            simp at hx
            subst hx
            exact (RowAt.new w3 3 #[.int .i64 y]).cell 0
          intro v5 w5 ho5 hg5
          obtain ⟨A5, n5, c5, rfl⟩ := ho5.slice3
          have b35 : Below N w3 w5 := ((Below.refl _ _).alloc (by have := HN3.out.lt; omega) _).grown hg5 (by have := HN3.out.lt; simp; omega) (fun j e => (HO3.out.lt j e).1)
          have keep5 : ∀ g T cs, T ≠ 3 → RowAt w3 g T cs → RowAt w5 g T cs := fun g T cs hT hr => by
            have h1 := hr.alloc (.cells #[.int .i64 y] 3)
            refine (hg5.block g h1.lt fun e => ?_).trans h1
            exact HO3.out.ne_row (fun h => hT h.symm) hr g (by rw [← e]) rfl
          have HM5 := Lib.hid (keep5 _ _ _ (by decide) HM3.out)
          have HN5 := Lib.hid (keep5 _ _ _ (by decide) HN3.out)
          have HB5 := Lib.hid (HB3.out.trans b35)
          have HO5 := Lib.hid ho5
          clear ho5 hg5 b35 keep5
          refine hK.out _ _ (HB5.out) (fun hHeld => ?_)
          clear hK K
          try simp only [Act.put, sa, s0, s1]
          refine tk 9 (v := ?_) rfl (by kernel_rfl) (fun _ _ _ h => h) (by rfl) (by assumption) ?_ ?_
          rotate_left
          · intro wS hSw
            go_simp
            all_goals with_reducible rfl
          simp only [Act.put, sa, s0, s1]
          refine wpAnyH_ready (rs := [10]) (by kernel_rfl) (by simp) ?_
          refine AllReadyH.cons (o := ⟨_, _, _, _, _, _⟩) rfl (fun K hK => ?_) AllReadyH.nil
          go_simp
          have fM4 : w5.frozen? ⟨N + 1, 4, none⟩ = false := HM5.out.free 4
          have cM4 : w5.cell? ⟨N + 1, 4, none⟩ = some va := HM5.out.cell 4
          go_simp
          refine hK.out _ _ (below_setCellT HB5.out (Nat.le_succ _)) (fun hHeld => ?_)
          clear hK K
          try simp only [Act.put, sa, s0, s1]
          refine wpAnyH_done (by kernel_rfl) ?_ _
          go_wp2_with fail
          go_roundw
          case rel => exact ⟨k + 1, .slice A5 n5 c5, by go_num, by omega, by omega, Lib.hid ⟨HM5.out.set 4 (.slice A5 n5 c5), HN5.out.far (p := ⟨N + 1, 4, none⟩) (by show N ≠ N + 1; omega) _, by rw [HNX.out, List.map_append]; exact HO5.out.kept fun g hgb => Below.heap_setCell w5 ⟨N + 1, 4, none⟩ _ g (HO5.out.ne_row (by decide) HM5.out g hgb), below_setCellT HB5.out (Nat.le_succ _)⟩⟩
          case measure => simp [intOf]; omega
        · go_simp
          refine hK.out _ _ (HB3.out.alloc (Nat.le_of_lt (Nat.lt_of_succ_lt HM3.out.lt)) _) (fun hHeld => ?_)
          clear hK K
          try simp only [Act.put, sa, s0, s1]
          refine wpAnyH_ready (rs := [1]) (by kernel_rfl) (by simp) ?_
          refine AllReadyH.cons (o := ⟨_, _, _, _, _, _⟩) rfl (fun K hK => ?_) AllReadyH.nil
          go_simp
          have cM4 : (w3.alloc (.cells #[.int .i64 y] 3)).cell? ⟨N + 1, 4, none⟩ = some va := (HM3.out.alloc _).cell 4
          have cM5 : w3.cell? ⟨N + 1, 4, none⟩ = some va := HM3.out.cell 4
          have ltM : N + 1 < w3.heap.size := HM3.out.lt
          go_simp
          refine hK.out _ _ (HB3.out.alloc (Nat.le_of_lt (Nat.lt_of_succ_lt HM3.out.lt)) _) (fun hHeld => ?_)
          clear hK K
          try simp only [Act.put, sa, s0, s1]
          refine wpAnyH_ready (rs := [8]) (by kernel_rfl) (by simp) ?_
          refine AllReadyH.cons (o := ⟨_, _, _, _, _, _⟩) rfl (fun K hK => ?_) AllReadyH.nil
          rw [if_pos (by rfl)]
          refine wp_append_irows Tryz.underlying26 int_info rfl (by decide) (by decide) (.tmp 109) (.tmp 115) N (AK.map fun a => [a]) [[y]] _ _ (HO3.out.below ((Below.refl _ _).alloc (Nat.le_refl _) _)) ⟨by simp, .inr ⟨w3.heap.size, 0, 1, rfl, (RowAt.new w3 3 #[.int .i64 y]).lt, ?_⟩⟩ (by rw [List.length_map]; have := HLEN.out; simp; omega) (by have := HM3.out.lt; simp; omega) rfl rfl rfl ?_
          · intro i r hr j x hx
            have hi : i = 0 := by have := (List.getElem?_eq_some_iff.1 hr).1; simpa using this
            subst hi
            simp at hr
            subst hr
            have hj : j = 0 := by have := (List.getElem?_eq_some_iff.1 hx).1; simpa using this
            subst hj
            simp at hx
            subst hx
            exact (RowAt.new w3 3 #[.int .i64 y]).cell 0
          intro v5 w5 ho5 hg5
          obtain ⟨A5, n5, c5, rfl⟩ := ho5.slice3
          have b35 : Below N w3 w5 := ((Below.refl _ _).alloc (by have := HN3.out.lt; omega) _).grown hg5 (by have := HN3.out.lt; simp; omega) (fun j e => (HO3.out.lt j e).1)
          have keep5 : ∀ g T cs, T ≠ 3 → RowAt w3 g T cs → RowAt w5 g T cs := fun g T cs hT hr => by
            have h1 := hr.alloc (.cells #[.int .i64 y] 3)
            refine (hg5.block g h1.lt fun e => ?_).trans h1
            exact HO3.out.ne_row (fun h => hT h.symm) hr g (by rw [← e]) rfl
          have HM5 := Lib.hid (keep5 _ _ _ (by decide) HM3.out)
          have HN5 := Lib.hid (keep5 _ _ _ (by decide) HN3.out)
          have HB5 := Lib.hid (HB3.out.trans b35)
          have HO5 := Lib.hid ho5
          clear ho5 hg5 b35 keep5
          refine hK.out _ _ (HB5.out) (fun hHeld => ?_)
          clear hK K
          try simp only [Act.put, sa, s0, s1]
          refine tk 9 (v := ?_) rfl (by kernel_rfl) (fun _ _ _ h => h) (by rfl) (by assumption) ?_ ?_
          rotate_left
          · intro wS hSw
            go_simp
            all_goals with_reducible rfl
          simp only [Act.put, sa, s0, s1]
          refine wpAnyH_ready (rs := [10]) (by kernel_rfl) (by simp) ?_
          refine AllReadyH.cons (o := ⟨_, _, _, _, _, _⟩) rfl (fun K hK => ?_) AllReadyH.nil
          go_simp
          have fM4 : w5.frozen? ⟨N + 1, 4, none⟩ = false := HM5.out.free 4
          have cM4 : w5.cell? ⟨N + 1, 4, none⟩ = some va := HM5.out.cell 4
          go_simp
          refine hK.out _ _ (below_setCellT HB5.out (Nat.le_succ _)) (fun hHeld => ?_)
          clear hK K
          try simp only [Act.put, sa, s0, s1]
          refine wpAnyH_done (by kernel_rfl) ?_ _
          go_wp2_with fail
          go_roundw
          case rel => exact ⟨k + 1, .slice A5 n5 c5, by go_num, by omega, by omega, Lib.hid ⟨HM5.out.set 4 (.slice A5 n5 c5), HN5.out.far (p := ⟨N + 1, 4, none⟩) (by show N ≠ N + 1; omega) _, by rw [HNX.out, List.map_append]; exact HO5.out.kept fun g hgb => Below.heap_setCell w5 ⟨N + 1, 4, none⟩ _ g (HO5.out.ne_row (by decide) HM5.out g hgb), below_setCellT HB5.out (Nat.le_succ _)⟩⟩
          case measure => simp [intOf]; omega
    · obtain rfl : k = n := by omega
      have HFIN : Hid (ReadEnd w ⟨5, 0, 0, 0, TT⟩ (.returned (.agg #[.int .i64 5, .int .i64 0, .int .i64 0, .int .i64 0, va])) (wr.setRow N #[.int .i64 5, .int .i64 0, .int .i64 0, .int .i64 0, va])) := Lib.hid (by
        refine ⟨va, rfl, ?_, by rw [HNN.out]; exact below_setRowT HB.out (Nat.le_refl _)⟩
        rw [HNN.out, ← HAN.out]
        exact HO.out.kept fun g hgb => setRow_far (HO.out.ne_row (by decide) HN1.out g hgb))
      clear hk2
      go_wp2_with (first | ((with_reducible refine load_trow (o := ⟨some 118, _, _, _, _, _⟩) (.tmp 3) (N + 1) #[.int .i64 5, .int .i64 0, .int .i64 0, .int .i64 0, va] HM.out rfl ?_ ?_ ?_ ?_); rfl; rfl; rfl) | ((with_reducible refine store_trow (o := ⟨none, .store _ _ _, _, _, _, _⟩) (.tmp 2) (.tmp 118) N #[.int .i64 5, .int .i64 0, .int .i64 0, .int .i64 0, va] _ HN1.out rfl rfl HVA.out ?_ ?_ ?_ ?_ ?_); rfl; rfl; rfl; rfl))
      refine bodyPost_ret (results_cell1 rfl _ _ N _ _ _ _ rfl (setRow_at HN1.out) Tryz.underlying28 rfl term_size) rfl ?_
      exact HFIN.out
theorem rread_any (ws : List (List UInt8)) (A : Option Addr) (c : Nat) (w : World) (hs : StrsAt w A ws) (hne : ws ≠ []) (hl : ws.length ≤ 3001) (hx : ∀ x ∈ ws, x.length ≤ 1000000) :
    Calls Tryz.prog 71 #[.slice A ws.length c] w (ReadEnd w (readR ws)) := by
  obtain ⟨a0, t, rfl⟩ : ∃ a t, ws = a :: t := by
    cases ws with
    | nil => exact absurd rfl hne
    | cons a t => exact ⟨a, t, rfl⟩
  obtain ⟨g, rfl, hg, h0⟩ := hs 0 a0 rfl
  have hc : ∀ j x, (a0 :: t)[j]? = some x → w.cell? ⟨g, j, none⟩ = some (strV x) ∧ x.length ≤ 1000000 := fun j x h => by
    obtain ⟨g', e, _, h2⟩ := hs j x h
    cases e
    exact ⟨h2, hx x (List.mem_of_getElem? h)⟩
  have hlen : (a0 :: t).length = t.length + 1 := rfl
  by_cases k1 : a0 = kPass
  · subst k1
    by_cases m4 : (kPass :: t).length = 4
    · match t, m4 with
      | [a1, a2, a3], _ => exact rread_pass4 g a1 a3 c w hg h0 (hc 1 a1 rfl).1 (hc 3 a3 rfl).1 (hc 1 a1 rfl).2 (hc 3 a3 rfl).2
    · by_cases m6 : (kPass :: t).length = 6
      · match t, m6 with
        | [a1, a2, a3, a4, a5], _ => exact rread_pass6 g a1 a3 a5 c w hg h0 (hc 1 a1 rfl).1 (hc 3 a3 rfl).1 (hc 5 a5 rfl).1 (hc 1 a1 rfl).2 (hc 3 a3 rfl).2 (hc 5 a5 rfl).2
      · have e : readR (kPass :: t) = zeroT := by
          unfold readR
          simp only [List.getElem?_cons_zero, Option.getD_some]
          rw [if_neg (by rintro ⟨_, h⟩; exact m4 h), if_neg (by rintro ⟨_, h⟩; exact m6 h), if_neg (by rintro ⟨h, _⟩; exact absurd h (by decide)), if_neg (by rintro ⟨h, _⟩; exact absurd h (by decide)), if_neg (by rintro ⟨h, _⟩; exact absurd h (by decide)), if_neg (by decide)]
        rw [e]
        exact rread_zp g _ c w hg h0 (by rw [hlen]; omega) hl m4 m6
  · by_cases k2 : a0 = kTax
    · subst k2
      by_cases m2 : (kTax :: t).length = 2
      · match t, m2 with
        | [a1], _ => exact rread_tax g a1 c w hg h0 (hc 1 a1 rfl).1 (hc 1 a1 rfl).2
      · have e : readR (kTax :: t) = zeroT := by
          unfold readR
          simp only [List.getElem?_cons_zero, Option.getD_some]
          rw [if_neg (by rintro ⟨h, _⟩; exact k1 h), if_neg (by rintro ⟨h, _⟩; exact k1 h), if_neg (by rintro ⟨_, h⟩; exact m2 h), if_neg (by rintro ⟨h, _⟩; exact absurd h (by decide)), if_neg (by rintro ⟨h, _⟩; exact absurd h (by decide)), if_neg (by decide)]
        rw [e]
        exact rread_zt g _ c w hg h0 (by rw [hlen]; omega) hl m2
    · by_cases k3 : a0 = kReserve
      · subst k3
        by_cases m4 : (kReserve :: t).length = 4
        · match t, m4 with
          | [a1, a2, a3], _ => exact rread_reserve g a1 a3 c w hg h0 (hc 1 a1 rfl).1 (hc 3 a3 rfl).1 (hc 1 a1 rfl).2 (hc 3 a3 rfl).2
        · have e : readR (kReserve :: t) = zeroT := by
            unfold readR
            simp only [List.getElem?_cons_zero, Option.getD_some]
            rw [if_neg (by rintro ⟨h, _⟩; exact k1 h), if_neg (by rintro ⟨h, _⟩; exact k1 h), if_neg (by rintro ⟨h, _⟩; exact k2 h), if_neg (by rintro ⟨_, h⟩; exact m4 h), if_neg (by rintro ⟨h, _⟩; exact absurd h (by decide)), if_neg (by decide)]
          rw [e]
          exact rread_zr g _ c w hg h0 (by rw [hlen]; omega) hl m4
      · by_cases k4 : a0 = kCap
        · subst k4
          by_cases m2 : (kCap :: t).length = 2
          · match t, m2 with
            | [a1], _ => exact rread_cap g a1 c w hg h0 (hc 1 a1 rfl).1 (hc 1 a1 rfl).2
          · have e : readR (kCap :: t) = zeroT := by
              unfold readR
              simp only [List.getElem?_cons_zero, Option.getD_some]
              rw [if_neg (by rintro ⟨h, _⟩; exact k1 h), if_neg (by rintro ⟨h, _⟩; exact k1 h), if_neg (by rintro ⟨h, _⟩; exact k2 h), if_neg (by rintro ⟨h, _⟩; exact k3 h), if_neg (by rintro ⟨_, h⟩; exact m2 h), if_neg (by decide)]
            rw [e]
            exact rread_zc g _ c w hg h0 (by rw [hlen]; omega) hl m2
        · by_cases k5 : a0 = kRecoup
          · subst k5
            have e : readR (kRecoup :: t) = ⟨5, 0, 0, 0, t.map numR⟩ := by
              unfold readR
              simp only [List.getElem?_cons_zero, Option.getD_some]
              rw [if_neg (by rintro ⟨h, _⟩; exact k1 h), if_neg (by rintro ⟨h, _⟩; exact k1 h), if_neg (by rintro ⟨h, _⟩; exact k2 h), if_neg (by rintro ⟨h, _⟩; exact k3 h), if_neg (by rintro ⟨h, _⟩; exact k4 h), if_pos trivial]
              rfl
            rw [e]
            exact rread_recoup g c t w hs (by rw [hlen] at hl; omega) (fun x h => hx x (by simp [h]))
          · have e : readR (a0 :: t) = zeroT := by
              unfold readR
              simp only [List.getElem?_cons_zero, Option.getD_some]
              rw [if_neg (by rintro ⟨h, _⟩; exact k1 h), if_neg (by rintro ⟨h, _⟩; exact k1 h), if_neg (by rintro ⟨h, _⟩; exact k2 h), if_neg (by rintro ⟨h, _⟩; exact k3 h), if_neg (by rintro ⟨h, _⟩; exact k4 h), if_neg k5]
            rw [e]
            exact rread_z g _ a0 c w hg h0 (by rw [hlen]; omega) hl k1 k2 k3 k4 k5
end
end Go.Proofs.YtfiabonacpepnaaGreatDoor
namespace Go.Proofs.YtfiabonacpepnaaGreatDoor
section
open Go Go.RowKit Go.Lib Go.Shelf Go.Maps

theorem readR_accs (ws : List (List UInt8)) (h : ws.length ≤ 3001) : (readR ws).acc.length ≤ 1000000 ∧ ∀ a ∈ (readR ws).acc, -9223372036854775808 ≤ a ∧ a ≤ 9223372036854775807 := by
  have key : (readR ws).acc = [] ∨ (readR ws).acc = (ws.drop 1).map numR := by
    unfold readR
    simp only
    split
    · exact .inl rfl
    split
    · exact .inl rfl
    split
    · exact .inl rfl
    split
    · exact .inl rfl
    split
    · exact .inl rfl
    split
    · exact .inr rfl
    · exact .inl rfl
  rcases key with e | e
  · rw [e]; simp
  · rw [e]
    refine ⟨by rw [List.length_map, List.length_drop]; omega, fun a ha => ?_⟩
    obtain ⟨x, _, rfl⟩ := List.mem_map.1 ha
    have := numR_bd x
    omega
set_option linter.unusedSimpArgs false in
set_option maxRecDepth 100000 in
set_option maxHeartbeats 8000000 in
theorem rof_any (s : List UInt8) (w : World) (hl : s.length ≤ 3000) :
    Calls Tryz.prog 43 #[strV s] w (TermEnd w (ofR s)) := by
  have hsl := split_len 32 s
  have hne := splitL_ne 32 s
  have HWD := Lib.hid (fun W => rwords_any s W (by omega))
  have HRA := Lib.hid (readR_accs (splitL 32 s) (by omega))
  have HOF : Hid (ofR s = if validT (readR (splitL 32 s)) = true then (readR (splitL 32 s), lineT (readR (splitL 32 s)) == s) else (zeroT, false)) := Lib.hid rfl
  have HRD := Lib.hid (fun A c W h => rread_any (splitL 32 s) A c W h hne (by omega) (fun x hx => by have := hsl.2 x hx; omega))
  obtain ⟨TE, hTE⟩ : ∃ z, ofR s = z := ⟨_, rfl⟩
  rw [hTE] at HOF ⊢
  obtain ⟨ws, hws⟩ : ∃ z, splitL 32 s = z := ⟨_, rfl⟩
  rw [hws] at HWD HRA HOF HRD
  obtain ⟨n, hn⟩ : ∃ z, ws.length = z := ⟨_, rfl⟩
  have HNW := Lib.hid hn
  obtain ⟨p, hp⟩ : ∃ z, readR ws = z := ⟨_, rfl⟩
  rw [hp] at HRA HOF HRD
  have r0 := RowAt.new w 28 zC
  have b0 : Below w.heap.size w (w.alloc (.cells zC 28)) := (Below.refl _ _).alloc (Nat.le_refl _) _
  obtain ⟨W1, hW1⟩ : ∃ z, w.alloc (.cells zC 28) = z := ⟨_, rfl⟩
  obtain ⟨N, hN⟩ : ∃ z, w.heap.size = z := ⟨_, rfl⟩
  rw [hW1] at b0 r0
  rw [hN] at b0 r0
  have HR1 := Lib.hid r0
  have HB1 := Lib.hid b0
  have HW1 := Lib.hid hW1
  have HNN := Lib.hid hN
  unfold zC at HW1
  unfold strV at HWD ⊢
  clear hsl hne hTE hws hn hp r0 b0 hW1
  go_enter Tryz.func43, Tryz.ntmps43
  go_upto_region 1 with fail
  rw [HW1.out]
  clear hN
  go_wp2_with fail
  refine (HWD.out W1).mono ?_
  rintro e w2 ⟨v2, rfl, ho2, hb2⟩
  obtain ⟨A2, c2, rfl, hs2⟩ := ho2.read
  have hN1 : N < W1.heap.size := HR1.out.lt
  have HS2 := Lib.hid (HRD.out A2 c2 w2 hs2)
  rw [HNW.out] at HS2 ⊢
  have HR2 := Lib.hid (HR1.out.below hb2 hN1)
  have HB2 := Lib.hid (HB1.out.trans (hb2.mono (Nat.le_of_lt hN1)))
  have hN2 : N < w2.heap.size := HR2.out.lt
  clear ho2 hs2 hb2
  go_wp2_with fail
  refine HS2.out.mono ?_
  rintro e w3 ⟨va, rfl, ho3, hb3⟩
  have HR3 := Lib.hid (HR2.out.below hb3 hN2)
  have HB3 := Lib.hid (HB2.out.trans (hb3.mono (Nat.le_of_lt hN2)))
  have hN3 : N < w3.heap.size := HR3.out.lt
  have HI3 := Lib.hid (ints_of_rows ho3.rows)
  have HO3 := Lib.hid (ho3.mono (Nat.le_of_lt hN2))
  have hONE : (termC p va).all (·.oneCell') = true := termC_one p HI3.out
  have HONE := Lib.hid hONE
  clear ho3 hb3 hONE
  have r4 := RowAt.new w3 28 (termC p va)
  have b4 : Below w3.heap.size w3 (w3.alloc (.cells (termC p va) 28)) := (Below.refl _ _).alloc (Nat.le_refl _) _
  obtain ⟨W4, hW4⟩ : ∃ z, w3.alloc (.cells (termC p va) 28) = z := ⟨_, rfl⟩
  rw [hW4] at r4 b4
  have HM4 := Lib.hid r4
  have HR4 := Lib.hid (HR3.out.below b4 hN3)
  have HB4 := Lib.hid (HB3.out.trans (b4.mono (Nat.le_of_lt hN3)))
  have HI4 := Lib.hid (HI3.out.below b4)
  have HO4 := Lib.hid (HO3.out.below b4)
  have HW4 := Lib.hid hW4
  clear r4 b4 hW4
  go_upto_region 2 with ((with_reducible refine store_term (o := ⟨none, .store _ _ _, _, _, _, _⟩) (.tmp 4) (.tmp 8) p va _ HONE.out ?_ ?_ ?_ ?_ ?_ ?_); rfl; rfl; rfl; rfl; rfl)
  rw [HW4.out]
  obtain ⟨M, hM⟩ : ∃ z, w3.heap.size = z := ⟨_, rfl⟩
  rw [hM] at HM4 hN3 ⊢
  clear hM
  have HVAL := Lib.hid (validR_any p va W4 HRA.out.1 HI4.out HRA.out.2)
  obtain ⟨q, hq⟩ : ∃ z, validT p = z := ⟨_, rfl⟩
  have HQ := Lib.hid hq
  rw [hq] at HVAL HOF
  clear hq
  go_wp2_with ((with_reducible refine load_trow (o := ⟨some 9, _, _, _, _, _⟩) (.tmp 4) M (termC p va) HM4.out rfl ?_ ?_ ?_ ?_); rfl; rfl; rfl)
  refine HVAL.out.mono ?_
  rintro e w5 ⟨rfl, hb5⟩
  have hN4 : N < W4.heap.size := HR4.out.lt
  have HM5 := Lib.hid (HM4.out.below hb5 HM4.out.lt)
  have HR5 := Lib.hid (HR4.out.below hb5 hN4)
  have HB5 := Lib.hid (HB4.out.trans (hb5.mono (Nat.le_of_lt hN4)))
  have HI5 := Lib.hid (HI4.out.below hb5)
  have HO5 := Lib.hid (HO4.out.below hb5)
  clear hb5
  cases q
  · have HTT : Hid (TE = (zeroT, false)) := Lib.hid (by rw [HOF.out]; rfl)
    have HEND : Hid (TermEnd w TE (.returned (.tuple #[.agg zC, .bool false])) (w5.setRow N zC)) := Lib.hid (by
      rw [HTT.out]
      exact ⟨.slice none 0 0, rfl, OwnI.nil _ _ _ _, by rw [HNN.out]; exact below_setRowT HB5.out (Nat.le_refl _)⟩)
    unfold zC at HEND
    go_wp2_with ((with_reducible refine store_trow (o := ⟨none, .store _ _ _, _, _, _, _⟩) (.tmp 2) (.tmp 13) N #[.int .i64 0, .int .i64 0, .int .i64 0, .int .i64 0, .slice none 0 0] _ HR5.out rfl rfl (term_ones _ _ _ _) ?_ ?_ ?_ ?_ ?_); rfl; rfl; rfl; rfl)
    refine bodyPost_ret (results_cell_tmp rfl _ _ N _ _ _ _ rfl (setRow_at HR5.out) Tryz.underlying28 rfl term_size) rfl ?_
    exact HEND.out
  · have HTT : Hid (TE = (p, lineT p == s)) := Lib.hid (by rw [HOF.out]; rfl)
    have HLI := Lib.hid (fun W (h : IntsL W va p.acc) => rline_any p va W h HQ.out)
    obtain ⟨LT, hLT⟩ : ∃ z, lineT p = z := ⟨_, rfl⟩
    rw [hLT] at HLI HTT
    unfold strV at HLI
    have HEN : Hid (∀ W, OwnI 3 1 W N va (p.acc.map fun a => [a]) → RowAt W N 28 zC → Below N w W → TermEnd w TE (.returned (.tuple #[.agg (termC p va), .bool (LT == s)])) (W.setRow N (termC p va))) := Lib.hid (fun W ho hrN hbW => by
      rw [HTT.out]
      refine ⟨va, rfl, ?_, ?_⟩
      · rw [HNN.out]
        exact ho.kept fun g hg => setRow_far (ho.ne_row (by decide) hrN g hg)
      · rw [HNN.out]
        exact below_setRowT hbW (Nat.le_refl _))
    clear hLT
    go_wp2_with fail
    have HM5d := Lib.hid HM5.out.drew
    have HR5d := Lib.hid HR5.out.drew
    have HB5d : Hid (Below N w w5.drew) := Lib.hid HB5.out.drew
    have HI5d : Hid (IntsL w5.drew va p.acc) := Lib.hid (HI5.out.below (Below.refl _ _).drew)
    have HO5d : Hid (OwnI 3 1 w5.drew N va (p.acc.map fun a => [a])) := Lib.hid (HO5.out.kept fun _ _ => rfl)
    refine wp_region_held_drew (S := fun W' => RowAt W' M 28 (termC p va)) (by kernel_rfl) HM5d.out (fun hHeld => ?_)
    obtain ⟨X, hX⟩ : ∃ z, w5.drew = z := ⟨_, rfl⟩
    rw [hX] at HM5d HR5d HB5d HI5d HO5d hHeld ⊢
    clear hX
    refine wpAnyH_take (i := 0) (oi := ⟨_, _, _, _, _, _⟩) rfl (by kernel_rfl) (by kernel_rfl) (by kernel_rfl) (fun _ _ _ h => h) (yields_row 28 (.tmp 4) M (termC p va) _ (fun w h => h) Tryz.underlying28 (by rfl) rfl rfl rfl term_size) (by assumption) ?_
    simp only [Act.put, sa, s0, s1]
    refine wpAnyH_take (i := 1) (oi := ⟨_, _, _, _, _, _⟩) rfl (by kernel_rfl) (by kernel_rfl) (by kernel_rfl) (fun _ _ _ h => h) (yields_row 28 (.tmp 4) M (termC p va) _ (fun w h => h) Tryz.underlying28 (by rfl) rfl rfl rfl term_size) (by assumption) ?_
    simp only [Act.put, sa, s0, s1]
    refine tk 3 (v := ?_) rfl (by kernel_rfl) (fun _ _ _ h => h) (by rfl) (by assumption) ?_ ?_
    rotate_left
    · intro wS hSw
      go_simp
      all_goals with_reducible rfl
    simp only [Act.put, sa, s0, s1]
    refine rd 2 (by kernel_rfl) rfl fun K hK => ?_
    go_simp
    go_at_call 37
    refine (HLI.out _ HI5d.out).mono ?_
    rintro e w6 ⟨rfl, hb6⟩
    have hNX : N < X.heap.size := HR5d.out.lt
    have HM6 := Lib.hid (HM5d.out.below hb6 HM5d.out.lt)
    have HR6 := Lib.hid (HR5d.out.below hb6 hNX)
    have HB6 := Lib.hid (HB5d.out.trans (hb6.mono (Nat.le_of_lt hNX)))
    have HO6 := Lib.hid (HO5d.out.below hb6)
    clear hb6
    go_wp2_with fail
    refine hK.out _ _ HM6.out (fun hHeld => ?_)
    clear hK K
    try simp only [Act.put, sa, s0, s1]
    refine tk 4 (v := ?_) rfl (by kernel_rfl) (fun _ _ _ h => h) (by rfl) (by assumption) ?_ ?_
    rotate_left
    · intro wS hSw
      go_simp
      all_goals with_reducible rfl
    simp only [Act.put, sa, s0, s1]
    refine rd 5 (by kernel_rfl) rfl fun K hK => ?_
    rw [if_pos (by rfl)]
    refine wp_store_row _ _ _ rfl N (termC p va) rfl rfl _ zC HR6.out term_size rfl HONE.out ?_
    refine hK.out _ _ ((setRow_far (by omega)).trans HM6.out) (fun hHeld => ?_)
    clear hK K
    try simp only [Act.put, sa, s0, s1]
    refine tk 6 (v := ?_) rfl (by kernel_rfl) (fun _ _ _ h => h) (by rfl) (by assumption) ?_ ?_
    rotate_left
    · intro wS hSw
      go_simp
      all_goals with_reducible rfl
    simp only [Act.put, sa, s0, s1]
    refine wpAnyH_done (by kernel_rfl) ?_ _
    go_wp2_with fail
    refine bodyPost_ret (results_cell_tmp rfl _ _ N _ _ _ _ rfl (setRow_at HR6.out) Tryz.underlying28 rfl term_size) rfl ?_
    exact HEN.out _ HO6.out HR6.out HB6.out
end
end Go.Proofs.YtfiabonacpepnaaGreatDoor
namespace Go.Proofs.YtfiabonacpepnaaGreatDoor
section
open Go Go.RowKit Go.Lib Go.Shelf Go.Maps

theorem rparse_step (l : List UInt8) (r : List (List UInt8)) (i : Nat) (out : List TermV) : parseGo (l :: r) i out = if ignoredL l = true then parseGo r (i + 1) out else if (ofR l).2 = true ∧ out.length ≠ 20 then parseGo r (i + 1) (out ++ [(ofR l).1]) else ([], i + 1, false) := by
  obtain ⟨h1, h2⟩ := ofR_eq l
  rw [parse_step, ← h1]
  cases h : (ofR l).2 with
  | false => simp
  | true => rw [h2 h]
theorem OwnT.lower {w : World} {M N : Nat} {v : Value} {L : List (TermV × Value)} (h : OwnT w M v L) (hN : N ≤ M) : OwnT w N v L := by
  refine ⟨⟨h.own.1, ?_⟩, fun p hp => (h.acc p hp).mono hN⟩
  rcases h.own.2 with h0 | ⟨g, cap, cur, hv, hb, rest⟩
  · exact .inl h0
  · exact .inr ⟨g, cap, cur, hv, Nat.le_trans hN hb, rest⟩
set_option maxRecDepth 100000 in
set_option maxHeartbeats 16000000 in
theorem rparse_any (s : List UInt8) (w : World) (hl : s.length ≤ 3000) :
    Calls Tryz.prog 21 #[strV s] w (ParseEnd w (parseV s)) := by
  have HP := Lib.hid (parseV.eq_1 s)
  obtain ⟨n0, hn0⟩ : ∃ n, s.length = n := ⟨_, rfl⟩
  by_cases h2 : 2000 < s.length
  · have HE : Hid (parseV s = ([], 0, false)) := Lib.hid (by rw [HP.out, if_neg (by omega)])
    obtain ⟨q, hq⟩ : ∃ q, parseV s = q := ⟨_, rfl⟩
    rw [hq] at HE ⊢
    have d0 : decide (2000 < (s.length : Int)) = true := by simp; omega
    clear HP hq hn0 h2
    unfold strV
    go_enter Tryz.func21, Tryz.ntmps21
    go_wp2_with fail
    go_ret3
    exact ⟨.slice none 0 0, [], by rw [HE.out]; rfl, by rw [HE.out]; rfl, OwnT.nil _ _, Below.refl _ _⟩
  · have hl2 : s.length ≤ 2000 := by omega
    have HE := Lib.hid (HP.out.trans (if_pos hl2))
    obtain ⟨P0, hP0⟩ : ∃ q, parseV s = q := ⟨_, rfl⟩
    rw [hP0] at HE ⊢
    have hsl := split_len 10 s
    have HSP := Lib.hid (lines_any s w (by omega))
    have d0 : decide (2000 < (s.length : Int)) = false := by simp; omega
    obtain ⟨ls, hls⟩ : ∃ z, splitL 10 s = z := ⟨_, rfl⟩
    rw [hls] at HE HSP hsl
    obtain ⟨n, hn⟩ : ∃ z, ls.length = z := ⟨_, rfl⟩
    rw [hn] at hsl
    obtain ⟨N, hN⟩ : ∃ z, w.heap.size = z := ⟨_, rfl⟩
    rw [hN] at HSP
    have HNN := Lib.hid hN
    have HLN := Lib.hid hn
    have HSL := Lib.hid hsl
    have HS2 := Lib.hid hl2
    have hn2 : n ≤ 2001 := by omega
    clear HP hP0 hn0 h2 hl2 hls hn hN hsl hl
    unfold strV at HSP ⊢
    go_enter Tryz.func21, Tryz.ntmps21
    go_wp2_with fail
    refine HSP.out.mono ?_
    rintro e w1 ⟨v1, rfl, ho1, hb1⟩
    obtain ⟨A1, c1, rfl, hr1⟩ := ho1.read
    rw [HLN.out]
    have HR1 := Lib.hid hr1
    have HB1 := Lib.hid hb1
    have HO1 := Lib.hid (show ∀ g, A1 = some ⟨g, 0, none⟩ → N ≤ g from fun g hg => by
      rcases ho1.2 with ⟨h1, _⟩ | ⟨g', cap, cur, h1, h2, _⟩
      · simp only [Value.slice.injEq] at h1; rw [hg] at h1; cases h1.1
      · simp only [Value.slice.injEq] at h1; rw [hg] at h1; cases h1.1; exact h2)
    have hNw1 : N ≤ w1.heap.size := by have := hb1.size; have := HNN.out; omega
    clear hr1 hb1 ho1
    obtain ⟨M, hM⟩ : ∃ z, w1.heap.size = z := ⟨_, rfl⟩
    have HMM := Lib.hid hM
    rw [hM] at hNw1
    clear hM
    go_wp2_with fail
    go_loopw [5, 7] (fun ov iv wr => ∃ (k : Nat) (L : List (TermV × Value)), iv = .int .i64 k ∧ k ≤ n ∧ Hid (P0 = parseGo (ls.drop k) k (L.map (·.1)) ∧ L.length ≤ 20 ∧ OwnT wr M ov L ∧ StrsAt wr A1 ls ∧ Below M w1 wr ∧ M ≤ wr.heap.size)) (fun _ iv _ => n - (intOf iv).toNat)
    case atStart => exact ⟨0, [], rfl, Nat.zero_le _, Lib.hid ⟨by rw [HE.out]; rfl, by simp, OwnT.nil _ _, HR1.out, Below.refl _ _, by rw [HMM.out]; exact Nat.le_refl _⟩⟩
    case round =>
      obtain ⟨k, L, rfl, hk, HR⟩ := hrel
      obtain ⟨hgo, hL20, how, hrow, hbw, hNr⟩ := HR.out
      have HGO := Lib.hid hgo
      have HOW := Lib.hid how
      have HROW := Lib.hid hrow
      have HBW := Lib.hid hbw
      obtain ⟨A5, n5, c5, rfl⟩ := how.slice3
      obtain rfl : n5 = L.length := by
        rcases how.own.2 with ⟨h1, h2⟩ | ⟨g, cap, cur, h1, _⟩
        · cases h1; exact h2.symm
        · cases h1; rfl
      clear HR hgo how hbw
      by_cases hkn : k < n
      · obtain ⟨l, hlk⟩ : ∃ l, ls[k]? = some l := ⟨_, List.getElem?_eq_getElem (by rw [HLN.out]; exact hkn)⟩
        obtain ⟨g1, rfl, hg1, hcell⟩ := hrow k l hlk
        have hg1M : g1 < M := by
          have := HR1.out k l hlk
          obtain ⟨g', e, h, _⟩ := this
          cases e
          rw [HMM.out] at h; exact h
        unfold strV at hcell
        have hdrop : ls.drop k = l :: ls.drop (k + 1) := List.drop_eq_getElem?_toList_append.trans (by rw [hlk]; rfl)
        have HSTEP := Lib.hid (rparse_step l (ls.drop (k + 1)) k (L.map (·.1)))
        rw [← hdrop, ← HGO.out] at HSTEP
        have hl3 : l.length ≤ 3000 := by have := HSL.out.2 l (List.mem_of_getElem? hlk); have := HS2.out; omega
        clear hlk hdrop hrow
        rcases ignored_cases l with ⟨hig, hc⟩ | ⟨hig, c, r, rfl, hc35⟩
        · have HNX := Lib.hid (HSTEP.out.trans (if_pos hig))
          rcases hc with rfl | ⟨r, rfl⟩
          · clear hig
            go_wp2_with fail
            go_roundw
            case rel => exact ⟨k + 1, L, by go_num, by omega, Lib.hid ⟨HNX.out, hL20, HOW.out, HROW.out, HBW.out, hNr⟩⟩
            case measure => simp [intOf]; omega
          · have hix := fun W => run_str_head 9 Tryz.underlying9 35 r W
            clear hig
            go_wp2_with fail
            go_roundw
            case rel => exact ⟨k + 1, L, by go_num, by omega, Lib.hid ⟨HNX.out, hL20, HOW.out, HROW.out, HBW.out, hNr⟩⟩
            case measure => simp [intOf]; omega
        · have HNX := Lib.hid (HSTEP.out.trans (if_neg (by rw [hig]; decide)))
          have HT := Lib.hid (rof_any (c :: r) wr hl3)
          obtain ⟨T, okk, htv⟩ : ∃ T o, ofR (c :: r) = (T, o) := ⟨_, _, rfl⟩
          rw [htv] at HNX HT
          unfold strV at HT
          have n35 : ((c.toNat : Int) == 35) = false := by
            rw [beq_eq_false_iff_ne]
            intro e
            exact hc35 (by rw [← ofNat_toNat c, show c.toNat = 35 by omega]; rfl)
          have hix := fun W => run_str_head 9 Tryz.underlying9 c r W
          clear hig hc35 htv HSTEP
          go_wp2_with fail
          refine HT.out.mono ?_
          rintro e w2 ⟨va, rfl, ho2, hb2⟩
          obtain ⟨tk, tn, tm, tb, ta⟩ := T
          dsimp only at ho2
          obtain ⟨AV, nv, cv, rfl⟩ := ho2.slice3
          have HO2 := Lib.hid ho2
          have HOW2 := Lib.hid (HOW.out.kept fun g _ h2 => hb2.block g h2)
          have HROW2 := Lib.hid (HROW.out.below hb2)
          have HBW2 := Lib.hid (HBW.out.trans (hb2.mono hNr))
          have hwr2 : wr.heap.size ≤ w2.heap.size := hb2.size
          have hN2 : M ≤ w2.heap.size := by omega
          have HC : Hid ((termC ⟨tk, tn, tm, tb, ta⟩ (.slice AV nv cv)).all (·.oneCell') = true) := Lib.hid (by kernel_rfl)
          have hr3 := RowAt.new w2 28 #[.int .i64 tk, .int .i64 tn, .int .i64 tm, .int .i64 tb, .slice AV nv cv]
          have b3 : Below w2.heap.size w2 (w2.alloc (.cells #[.int .i64 tk, .int .i64 tn, .int .i64 tm, .int .i64 tb, .slice AV nv cv] 28)) := (Below.refl _ _).alloc (Nat.le_refl _) _
          have HR3 := Lib.hid hr3
          have HR3t : Hid (RowAt (w2.alloc (.cells (termC ⟨tk, tn, tm, tb, ta⟩ (.slice AV nv cv)) 28)) w2.heap.size 28 #[.int .i64 tk, .int .i64 tn, .int .i64 tm, .int .i64 tb, .slice AV nv cv]) := Lib.hid hr3
          have HB3 := Lib.hid b3
          clear ho2 hb2 hr3 b3 hcell hix n35
          unfold termC
          by_cases hgood : okk = true ∧ L.length ≠ 20
          · obtain ⟨rfl, hL⟩ := hgood
            have HNX2 := Lib.hid (HNX.out.trans (if_pos ⟨rfl, by rw [List.length_map]; exact hL⟩))
            have d20 : ((L.length : Int) == 20) = false := by rw [beq_eq_false_iff_ne]; omega
            go_wp2_with (first | ((with_reducible refine store_term (o := ⟨none, .store _ _ _, _, _, _, _⟩) (.tmp 8) (.tmp 40) ⟨tk, tn, tm, tb, ta⟩ (.slice AV nv cv) _ HC.out ?_ ?_ ?_ ?_ ?_ ?_); rfl; rfl; rfl; rfl; rfl) | ((with_reducible refine load_trow (o := ⟨some 52, _, _, _, _, _⟩) (.tmp 8) w2.heap.size #[.int .i64 tk, .int .i64 tn, .int .i64 tm, .int .i64 tb, .slice AV nv cv] HR3.out rfl ?_ ?_ ?_ ?_); rfl; rfl; rfl) | ((with_reducible refine load_trow (o := ⟨some 52, _, _, _, _, _⟩) (.tmp 8) w2.heap.size #[.int .i64 tk, .int .i64 tn, .int .i64 tm, .int .i64 tb, .slice AV nv cv] HR3t.out rfl ?_ ?_ ?_ ?_); rfl; rfl; rfl) | ((with_reducible refine wpList_stop (o := ⟨some 54, _, _, _, _, _⟩) ?_)))
            unfold Stop
            obtain ⟨W3, hW3⟩ : ∃ z, w2.alloc (.cells (termC ⟨tk, tn, tm, tb, ta⟩ (.slice AV nv cv)) 28) = z := ⟨_, rfl⟩
            have HR3' := HR3t.out
            have HB3' : Below w2.heap.size w2 (w2.alloc (.cells (termC ⟨tk, tn, tm, tb, ta⟩ (.slice AV nv cv)) 28)) := HB3.out
            have e3 : W3.heap.size = w2.heap.size + 1 := by rw [← hW3]; simp
            rw [hW3] at HR3' HB3' ⊢
            clear hW3
            obtain ⟨i0, hi, hz0, hz1, hz2⟩ := info_parts term_info
            have b8 : Below W3.heap.size W3 (W3.alloc (.cells #[.int .i64 tk, .int .i64 tn, .int .i64 tm, .int .i64 tb, .slice AV nv cv] 28)) := (Below.refl _ _).alloc (Nat.le_refl _) _
            have h3s : w2.heap.size ≤ W3.heap.size := HB3'.size
            have ow8 : OwnT (W3.alloc (.cells #[.int .i64 tk, .int .i64 tn, .int .i64 tm, .int .i64 tb, .slice AV nv cv] 28)) M (.slice A5 L.length c5) L := (HOW2.out.kept fun g _ h2 => HB3'.block g h2).kept fun g _ h2 => b8.block g h2
            have o88 : OwnI 3 1 (W3.alloc (.cells #[.int .i64 tk, .int .i64 tn, .int .i64 tm, .int .i64 tb, .slice AV nv cv] 28)) M (.slice AV nv cv) (ta.map fun a => [a]) := ((HO2.out.below HB3').below b8).mono (by omega)
            refine wpList_append_own _ rfl (.tmp 51) (.tmp 53) 22 rfl M 28 i0 _ 5 56 Tryz.underlying22 hi hz0 hz1 hz2 rfl (by decide) (.slice A5 L.length c5) L.length (tCells L) rfl ow8.own ⟨w2.heap.size + 1, 0, none⟩ 1 1 (termC ⟨tk, tn, tm, tb, ta⟩ (.slice AV nv cv)).toList rfl rfl ?_ ?_ ?_ ?_ ?_ ?_
            · intro j u hj
              rw [addr_add, ← e3, (RowAt.new W3 28 _).cell j, ← hj]
              simp [termC]
            · intro u hu
              have := HC.out
              rw [← Array.all_toList, List.all_eq_true] at this
              exact this u hu
            · unfold maxLen; omega
            · omega
            · simp; omega
            intro v9 w9 hown9 hg9 _
            have HEND := Lib.hid (show (L ++ [((⟨tk, tn, tm, tb, ta⟩ : TermV), Value.slice AV nv cv)]).map (·.1) = L.map (·.1) ++ [⟨tk, tn, tm, tb, ta⟩] ∧ OwnT w9 M v9 (L ++ [((⟨tk, tn, tm, tb, ta⟩ : TermV), Value.slice AV nv cv)]) ∧ Below M w1 w9 ∧ M ≤ w9.heap.size from by
              refine ⟨by simp, ⟨?_, ?_⟩, ?_, ?_⟩
              · rw [tCells_app, List.length_append]
                exact hown9
              · intro p hp
                rcases List.mem_append.1 hp with h | h
                · exact acc_kept (ow8.acc p h) ow8.own hg9
                · rw [List.mem_singleton.1 h]
                  exact acc_kept o88 ow8.own hg9
              · exact ((HBW2.out.trans (HB3'.mono (by omega))).trans (b8.mono (by omega))).grown hg9 (by simp; omega) (fun j e => (World.ownsRow.lt ow8.own j e).1)
              · have := hg9.size; simp at this; omega)
            have HROW9 : Hid (StrsAt w9 (some ⟨g1, 0, none⟩) ls) := Lib.hid (by
              intro j x hx
              obtain ⟨g', e, _, hcx⟩ := HR1.out j x hx
              cases e
              exact ⟨g1, rfl, by have := HEND.out.2.2.2; omega, (HEND.out.2.2.1.cell (p := ⟨g1, j, none⟩) hg1M).trans hcx⟩)
            clear hown9 hg9 ow8 o88 b8 hi hz0 hz1 hz2 HR3' HB3'
            go_wp2_with fail
            go_roundw
            case rel => exact ⟨k + 1, _, by go_num, by omega, Lib.hid ⟨by rw [HEND.out.1]; exact HNX2.out, by simp; omega, HEND.out.2.1, HROW9.out, HEND.out.2.2.1, HEND.out.2.2.2⟩⟩
            case measure => simp [intOf]; omega
          · have HNX2 : Hid (P0 = ([], k + 1, false)) := Lib.hid (HNX.out.trans (if_neg (by rw [List.length_map]; exact hgood)))
            have hfin : Hid (ParseEnd w P0 (.returned (.tuple #[.slice none 0 0, .int .i64 ((k : Int) + 1), .int .i64 140])) (w2.alloc (.cells #[.int .i64 tk, .int .i64 tn, .int .i64 tm, .int .i64 tb, .slice AV nv cv] 28))) := Lib.hid (by
              rw [HNX2.out]
              exact ⟨.slice none 0 0, [], by simp [errI], rfl, OwnT.nil _ _, by rw [HNN.out]; exact (HB1.out.trans (HBW2.out.mono hNw1)).trans (HB3.out.mono (by omega))⟩)
            cases okk
            · clear hgood
              go_wp2_with ((with_reducible refine store_term (o := ⟨none, .store _ _ _, _, _, _, _⟩) (.tmp 8) (.tmp 40) ⟨tk, tn, tm, tb, ta⟩ (.slice AV nv cv) _ HC.out ?_ ?_ ?_ ?_ ?_ ?_); rfl; rfl; rfl; rfl; rfl)
              go_ret3
              exact hfin.out
            · have d20 : ((L.length : Int) == 20) = true := by rw [beq_iff_eq]; simp at hgood; omega
              clear hgood
              go_wp2_with ((with_reducible refine store_term (o := ⟨none, .store _ _ _, _, _, _, _⟩) (.tmp 8) (.tmp 40) ⟨tk, tn, tm, tb, ta⟩ (.slice AV nv cv) _ HC.out ?_ ?_ ?_ ?_ ?_ ?_); rfl; rfl; rfl; rfl; rfl)
              go_ret3
              exact hfin.out
      · obtain rfl : k = n := by omega
        have HFIN : Hid (P0 = (L.map (·.1), 0, true)) := Lib.hid (by rw [HGO.out, List.drop_eq_nil_of_le (by rw [HLN.out]; exact Nat.le_refl _)]; rfl)
        clear hrow
        go_wp2_with fail
        go_ret3
        exact ⟨_, L, by rw [HFIN.out]; rfl, by rw [HFIN.out], by rw [HNN.out]; exact HOW.out.lower hNw1, by rw [HNN.out]; exact HB1.out.trans (HBW.out.mono hNw1)⟩
end
end Go.Proofs.YtfiabonacpepnaaGreatDoor
namespace Go.Proofs.YtfiabonacpepnaaGreatDoor
section
open Go Go.RowKit Go.Lib Go.Shelf Go.Maps

set_option maxRecDepth 100000 in
set_option maxHeartbeats 8000000 in
theorem parseMatches_yes (sb : ByteArray) (w : World) (hK : KAt w) :
    Calls Tryz.prog 4 #[.string sb] w fun e w' => e = .returned (.bool true) ∧ Below w.heap.size w w' := by
  obtain ⟨S, hS, HRS⟩ := cut_min sb 2100 2100 rfl
  have h9 : 9 ≤ w.heap.size := hK.lt
  have HK := Lib.hid hK
  have HP := Lib.hid (fun W (h : KAt W) => parse_any S W h (by omega))
  have HRP := Lib.hid (fun W => rparse_any S W (by omega))
  have hPL20 : (parseV S).1.length ≤ 20 := by
    unfold parseV
    split
    · exact parse_len _ _ _ (by simp)
    · simp
  have HAC : Hid (∀ t ∈ (parseV S).1, t.acc.length ≤ 1000000) := Lib.hid (by
    intro t ht
    cases hb : (parseV S).2.2 with
    | false => rw [(parse_false hb).1] at ht; cases ht
    | true =>
      have h2 : S.length ≤ 2000 := by
        rcases Nat.lt_or_ge 2000 S.length with h | h
        · unfold parseV at hb; rw [if_neg (by omega)] at hb; cases hb
        · exact h
      obtain ⟨ts, h1, _, h3, _⟩ := ofSplit_ok h2 hb
      rw [h1] at ht
      exact (valid_accs (h3 t ht)).1)
  obtain ⟨PV, hPV⟩ : ∃ z, parseV S = z := ⟨_, rfl⟩
  rw [hPV] at HP HRP hPL20 HAC
  obtain ⟨ts, at_, ok⟩ := PV
  dsimp only at HP HRP hPL20 HAC
  have hpl : ts.length ≤ 1000000 := by omega
  clear hPV hK
  unfold strV at HP HRP
  go_enter Tryz.func4, Tryz.ntmps4
  go_wp2_with fail
  refine (sane_any w HK.out).mono ?_
  rintro e w1 ⟨rfl, hb1⟩
  have HB1 := Lib.hid hb1
  have HK1 := Lib.hid (HK.out.mono hb1)
  have hs1 := hb1.size
  clear hb1
  go_upto_region 3 with fail
  rw [HRS.out]
  clear HRS
  go_wp2_with fail
  refine (HP.out w1 HK1.out).mono ?_
  rintro e w2 ⟨v2, L2, rfl, hL2, ho2, hb2⟩
  dsimp only at hL2 ⊢
  have ht2 := ho2.terms
  rw [hL2] at ht2
  obtain ⟨A2, c2, rfl⟩ := ht2.slice
  have HT2 := Lib.hid ht2
  have HB2 := Lib.hid (HB1.out.trans (hb2.mono hs1))
  have hs2 : w.heap.size ≤ w2.heap.size := HB2.out.size
  clear hb2 ho2 hL2 ht2
  go_wp2_with fail
  refine (HRP.out w2).mono ?_
  rintro e w3 ⟨v3, L3, rfl, hL3, ho3, hb3⟩
  dsimp only at hL3 ⊢
  have ht3 := ho3.terms
  rw [hL3] at ht3
  obtain ⟨A3, c3, rfl⟩ := ht3.slice
  have HB3 := Lib.hid (HB2.out.trans (hb3.mono hs2))
  have hs3 : w.heap.size ≤ w3.heap.size := HB3.out.size
  have HSM := Lib.hid (rSame_any ts ts _ _ w3 hpl hpl (HT2.out.below hb3) ht3 HAC.out HAC.out)
  rw [sameTs_iff.2 rfl] at HSM
  obtain ⟨n, hn⟩ : ∃ z, ts.length = z := ⟨_, rfl⟩
  rw [hn] at HSM ⊢
  obtain ⟨er, her⟩ : ∃ z, errI ok = z := ⟨_, rfl⟩
  rw [her]
  clear hb3 ho3 hL3 ht3 hn her
  go_wp2_with fail
  refine HSM.out.mono ?_
  rintro e w4 ⟨rfl, hb4⟩
  have HB4 := Lib.hid (HB3.out.trans (hb4.mono hs3))
  clear hb4
  have q1 : ((at_ : Int) == (at_ : Int)) = true := by simp
  have q2 : (er == er) = true := by simp
  go_wp2_with fail
  go_ret
  exact ⟨rfl, HB4.out⟩
end
end Go.Proofs.YtfiabonacpepnaaGreatDoor
