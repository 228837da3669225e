/- pass (printed by gen_pass.py). -/
import Derived.Test.YtfiabonacpepnaaGreatDoorCtD
import Derived.Test.YtfiabonacpepnaaGreatDoorCtE
import Derived.LaidLaws
import Derived.Lib.LaidTab
import Derived.Lib.Itoa
import Derived.Test.YtfiabonacpepnaaGreatDoorCtShelf
import Derived.Lib.SlBytesConst
import Derived.Laws.Rows
namespace Go.Proofs.YtfiabonacpepnaaGreatDoor
open Go Go.RowKit Go.Lib Go.Shelf

/-- what the library's variables hold -/
structure KAt (w : World) : Prop where
  max : ∃ m : Int, w.cell? ⟨1, 0, none⟩ = some (.int .i64 m)
  tab : Lib.TabIs Tryz.prog w "internal/strconv.uint64pow10" .u64 Lib.pow10Tab
  syn : ∃ tp p, w.var? Tryz.prog "strconv.ErrSyntax" = some #[.iface tp p]
  rng : ∃ tp p, w.var? Tryz.prog "strconv.ErrRange" = some #[.iface tp p]
  lt : 9 ≤ w.heap.size
theorem var_of {w w' : World} {n : String} {g : Nat} (hg : Tryz.prog.globalNamed n = some g) (hb : w'.heap[g]? = w.heap[g]?) : w'.var? Tryz.prog n = w.var? Tryz.prog n := by
  unfold World.var?
  rw [hg]
  simp only [Option.bind_some]
  rw [hb]
theorem KAt.of {w w' : World} (h : KAt w) (hs : w.heap.size ≤ w'.heap.size) (hb : ∀ k, k < 9 → w'.heap[k]? = w.heap[k]?) : KAt w' := by
  refine ⟨?_, ?_, ?_, ?_, Nat.le_trans h.lt hs⟩
  · obtain ⟨m, hm⟩ := h.max
    exact ⟨m, (World.cell?_of_block (a := ⟨1, 0, none⟩) (hb _ (by show 1 < 9; decide))).trans hm⟩
  · unfold Lib.TabIs
    rw [var_of (g := 2) (by kernel_rfl) (hb _ (by decide))]
    exact h.tab
  · rw [var_of (g := 7) (by kernel_rfl) (hb _ (by decide))]
    exact h.syn
  · rw [var_of (g := 8) (by kernel_rfl) (hb _ (by decide))]
    exact h.rng
theorem KAt.below {w w' : World} {B : Nat} (h : KAt w) (hb : Below B w w') (hB : 9 ≤ B) : KAt w' := h.of hb.size fun k hk => hb.block k (by omega)
theorem KAt.mono {w w' : World} (h : KAt w) (hb : Below w.heap.size w w') : KAt w' := h.below hb h.lt
theorem KAt.grown {w w' : World} {b : Nat} (h : KAt w) (hg : w.grownBy w' (some b)) (hB : 9 ≤ b) : KAt w' :=
  h.of hg.size fun k hk => hg.block k (by have := h.lt; omega) (by intro e; cases e; omega)

/-- the bytes of a string -/
def strV (l : List UInt8) : Value := .string ⟨l.toArray⟩
/-- the reader in block b -/
structure RdAt (w : World) (b : Nat) (r : Rd) : Prop where
  hb : 9 ≤ b
  short : ∀ x ∈ r.ws, x.length ≤ 3000
  few : r.ws.length ≤ 3001
  row : ∃ A c, RowAt w b 109 #[.slice A r.ws.length c, .bool r.bad] ∧ r.ws.length ≤ c ∧ c ≤ 3001 ∧ (r.ws = [] ∨ ∃ sb o, A = some ⟨sb, o, none⟩ ∧ sb < b ∧ ∀ (j : Nat) x, r.ws[j]? = some x → w.cell? ⟨sb, o + j, none⟩ = some (strV x))
theorem RdAt.kept {w w' : World} {b : Nat} {r : Rd} (h : RdAt w b r) (hk : ∀ k, k ≤ b → w'.heap[k]? = w.heap[k]?) : RdAt w' b r := by
  obtain ⟨h1, h2, h3, A, c, hr, hl, hc, hs⟩ := h
  refine ⟨h1, h2, h3, A, c, (hk b (Nat.le_refl _)).trans hr, hl, hc, ?_⟩
  rcases hs with e | ⟨sb, o, e, hlt, hcell⟩
  · exact .inl e
  · exact .inr ⟨sb, o, e, hlt, fun j x hx => (World.cell?_of_block (a := ⟨sb, o + j, none⟩) (hk sb (by omega))).trans (hcell j x hx)⟩
theorem RdAt.lt {w : World} {b : Nat} {r : Rd} (h : RdAt w b r) : b < w.heap.size := by
  obtain ⟨A, c, hr, _⟩ := h.row
  exact hr.lt
theorem RdAt.below {w w' : World} {B b : Nat} {r : Rd} (h : RdAt w b r) (hb : Below B w w') (hB : b < B) : RdAt w' b r := h.kept fun k hk => hb.block k (by omega)
theorem grown_set {w : World} {b i : Nat} (u : Value) : w.grownBy (w.setCell ⟨b, i, none⟩ u) (some b) :=
  ⟨rfl, rfl, rfl, by simp [World.setCell], fun k _ hne => Below.heap_setCell w ⟨b, i, none⟩ u k (fun e => hne (by rw [e]))⟩

set_option maxRecDepth 100000 in
set_option maxHeartbeats 1000000 in
theorem next_any (b : Nat) (r : Rd) (w : World) (h : RdAt w b r) :
    Calls Tryz.prog 70 #[.pointer (some ⟨b, 0, none⟩)] w fun e w' => e = .returned (strV r.next.1) ∧ RdAt w' b r.next.2 ∧ w.grownBy w' (some b) := by
  obtain ⟨hb, hsh, hfew, A, c, hr, hl, hc3, hs⟩ := h
  obtain ⟨ws, bad⟩ := r
  dsimp only at hsh hfew hr hl hs
  have c0 := hr.cell 0
  have c1 := hr.cell 1
  have f0 := hr.free 0
  have f1 := hr.free 1
  simp only [List.getElem?_toArray, List.getElem?_cons_zero, List.getElem?_cons_succ] at c0 c1
  have HE := Lib.hid hr
  cases bad with
  | true =>
    have HG : Hid (RdAt (w.setCell ⟨b, 1, none⟩ (.bool true)) b ⟨ws, true⟩) := Lib.hid ⟨hb, hsh, hfew, A, c, hr.set 1 (.bool true), hl, hc3, by
      rcases hs with e | ⟨sb, o, e, hlt, hcell⟩
      · exact .inl e
      · exact .inr ⟨sb, o, e, hlt, fun j x hx => (World.cell?_of_block (a := ⟨sb, o + j, none⟩) (Below.heap_setCell w ⟨b, 1, none⟩ _ sb (by show sb ≠ b; omega))).trans (hcell j x hx)⟩⟩
    rw [next_bad]
    clear hs hr hsh
    go_enter Tryz.func70, Tryz.ntmps70
    go_wp2
    go_ret
    exact ⟨rfl, HG.out, grown_set _⟩
  | false =>
    cases ws with
    | nil =>
      have HG : Hid (RdAt (w.setCell ⟨b, 1, none⟩ (.bool true)) b ⟨[], true⟩) := Lib.hid ⟨hb, hsh, hfew, A, c, hr.set 1 (.bool true), hl, hc3, .inl rfl⟩
      rw [next_nil]
      simp only [List.length_nil] at c0 hl
      clear hs hr hsh
      go_enter Tryz.func70, Tryz.ntmps70
      go_wp2
      go_ret
      exact ⟨rfl, HG.out, grown_set _⟩
    | cons x t =>
      obtain ⟨sb, o, rfl, hlt, hcell⟩ : ∃ sb o, A = some ⟨sb, o, none⟩ ∧ sb < b ∧ ∀ (j : Nat) y, (x :: t)[j]? = some y → w.cell? ⟨sb, o + j, none⟩ = some (strV y) := by
        rcases hs with e | e
        · cases e
        · exact e
      have cx := hcell 0 x rfl
      rw [Nat.add_zero] at cx
      rw [next_cons]
      obtain ⟨m, hm⟩ : ∃ m, t.length = m := ⟨_, rfl⟩
      have HM := Lib.hid hm
      rw [List.length_cons] at c0 hl hfew
      rw [hm] at c0 hl hfew
      obtain ⟨A2, hsl⟩ : ∃ A2, (∀ wx, (Instr.slice 37 (.slice (some ⟨sb, o, none⟩) (m + 1) c) (some (.int .i64 1)) none none).run Tryz.prog wx = .ok (.slice A2 m (c - 1)) wx) ∧ (t = [] ∨ A2 = some ⟨sb, o + 1, none⟩) := by
        refine ⟨if c = 1 then some ⟨sb, o, none⟩ else (some (⟨sb, o, none⟩ : Addr)).map (·.add (1 * 1)), fun wx => ?_, ?_⟩
        · have h := run_slice_l (P := Tryz.prog) wx 37 (some ⟨sb, o, none⟩) (m + 1) c Tryz.underlying37 .i64 1 (by decide) (by omega)
          rw [h]
          rfl
        · by_cases hc1 : c = 1
          · left
            have : t.length = 0 := by omega
            exact List.length_eq_zero_iff.1 this
          · right
            rw [if_neg hc1]
            rfl
      obtain ⟨hsl, hA2⟩ := hsl
      have HG : Hid (RdAt (w.setCell ⟨b, 0, none⟩ (.slice A2 m (c - 1))) b ⟨t, false⟩) := Lib.hid ⟨hb, fun y hy => hsh y (by simp [hy]), by show t.length ≤ 3001; omega, A2, c - 1, by
          show RowAt _ _ _ #[.slice A2 t.length (c - 1), .bool false]
          rw [hm]
          exact hr.set 0 (.slice A2 m (c - 1)), by show t.length ≤ c - 1; omega, by omega, by
          rcases hA2 with e | e
          · exact .inl e
          · refine .inr ⟨sb, o + 1, e, hlt, fun j y hy => ?_⟩
            have h2 := hcell (j + 1) y (by simpa using hy)
            rw [show o + 1 + j = o + (j + 1) by omega]
            exact (World.cell?_of_block (a := ⟨sb, o + (j + 1), none⟩) (Below.heap_setCell w ⟨b, 0, none⟩ _ sb (by show sb ≠ b; omega))).trans h2⟩
      clear hs hr hsh hcell hA2 hm
      go_enter Tryz.func70, Tryz.ntmps70
      go_wp2
      go_ret
      exact ⟨rfl, HG.out, grown_set _⟩
end Go.Proofs.YtfiabonacpepnaaGreatDoor
namespace Go.Proofs.YtfiabonacpepnaaGreatDoor
open Go Go.RowKit Go.Lib Go.Shelf

theorem isDig_iff (c : UInt8) : isDig c = true ↔ 48 ≤ c.toNat ∧ c.toNat ≤ 57 := by unfold isDig; simp
/-- what Atoi returns at digits -/
def AtoiEnd (l : List UInt8) (w : World) (e : Ending) (w' : World) : Prop :=
  Below w.heap.size w w' ∧ ((l ≠ [] ∧ valD l < 9223372036854775808 ∧ e = .returned (.tuple #[.int .i64 (valD l : Int), .nilIface])) ∨
    ((l = [] ∨ 9223372036854775808 ≤ valD l) ∧ ∃ tp p, e = .returned (.tuple #[.int .i64 (if l = [] then 0 else 9223372036854775807), .iface tp p])))
theorem atoi_any (l : List UInt8) (w : World) (hK : KAt w) (hl : l.length ≤ 3001) (hd : l.all isDig = true) :
    Calls Tryz.prog 166 #[strV l] w (AtoiEnd l w) := by
  have e1 : (⟨l.toArray⟩ : ByteArray).data.toList = l := rfl
  have e2 : (⟨l.toArray⟩ : ByteArray).size = l.length := rfl
  by_cases h0 : l = []
  · obtain ⟨tp, p, hv⟩ := hK.syn
    refine (Tryz.strconv_Atoi_syntax_var ⟨l.toArray⟩ (by rw [e2]; omega) (by rw [e1, h0]) tp p w hv).mono ?_
    rintro e w' ⟨N, he, _, _, hb⟩
    exact ⟨hb, .inr ⟨.inl h0, _, _, he.trans (by rw [if_pos h0])⟩⟩
  · have ha := atoi_digs l hd h0
    by_cases h1 : valD l < 9223372036854775808
    · rw [if_pos h1] at ha
      refine (Tryz.strconv_Atoi_ok ⟨l.toArray⟩ (by rw [e2]; omega) (valD l) (by rw [e1]; exact ha) w).mono ?_
      rintro e w' ⟨he, hw⟩
      refine ⟨?_, .inl ⟨h0, h1, he⟩⟩
      rcases hw with rfl | ⟨t, rfl⟩
      · exact Below.refl _ _
      · exact bytesWorld_below _ _ _
    · rw [if_neg h1] at ha
      obtain ⟨tp, p, hv⟩ := hK.rng
      refine (Tryz.strconv_Atoi_range_var ⟨l.toArray⟩ (by rw [e2]; omega) (by rw [e1]; exact ha) tp p w hv).mono ?_
      rintro e w' ⟨N, he, _, _, hb⟩
      have hs : atoiSat l = 9223372036854775807 := by
        cases l with
        | nil => exact absurd rfl h0
        | cons c r =>
          have hc := (isDig_iff c).1 (by simp only [List.all_cons, Bool.and_eq_true] at hd; exact hd.1)
          unfold atoiSat
          rw [if_neg (by simp; intro h; rw [h] at hc; revert hc; decide)]
      rw [e1, hs] at he
      exact ⟨hb, .inr ⟨.inr (by omega), _, _, he.trans (by rw [if_neg h0])⟩⟩

set_option maxRecDepth 100000 in
set_option maxHeartbeats 4000000 in
theorem digits_any (l : List UInt8) (w : World) (hK : KAt w) (hl : l.length ≤ 3001) :
    Calls Tryz.prog 141 #[strV l] w fun e w' => e = .returned (.tuple #[.int .i64 (digV l).1, .bool (digV l).2]) ∧ Below w.heap.size w w' := by
  have hcv := Go.Lib.run_convert_string_bytes (P := Tryz.prog) w 9 59 5 ⟨l.toArray⟩ Tryz.underlying9 Tryz.underlying59 Tryz.underlying5
  have hby : ∀ (j : Nat) c, l[j]? = some c → (Lib.bytesWorld w 5 ⟨l.toArray⟩).cell? ⟨w.heap.size, j, none⟩ = some (.int .u8 (c.toNat : Int)) := by
    intro j c hj
    obtain ⟨hlt, hc⟩ := List.getElem?_eq_some_iff.1 hj
    rw [Lib.bytesWorld_cell w 5 ⟨l.toArray⟩ j hlt]
    show some (Value.int .u8 ((l.getD j 0).toNat : Int)) = _
    rw [List.getD_eq_getElem?_getD, hj]
    rfl
  have b2 := bytesWorld_below w 5 ⟨l.toArray⟩
  have esz : (⟨l.toArray⟩ : ByteArray).size = l.length := rfl
  rw [esz] at hcv
  obtain ⟨n, hn⟩ : ∃ n, l.length = n := ⟨_, rfl⟩
  rw [hn] at hcv hl
  obtain ⟨cp, hcp⟩ : ∃ z, grownCap w n 0 5 = z := ⟨_, rfl⟩
  rw [hcp] at hcv
  obtain ⟨W2, hW2⟩ : ∃ z, Lib.bytesWorld w 5 ⟨l.toArray⟩ = z := ⟨_, rfl⟩
  rw [hW2] at hcv hby b2
  obtain ⟨gB, hgB⟩ : ∃ z, w.heap.size = z := ⟨_, rfl⟩
  have HGB := Lib.hid hgB
  rw [hgB] at hcv hby b2 ⊢
  have HBY := Lib.hid hby
  have HB := Lib.hid b2
  have HN := Lib.hid hn
  have HK2 := Lib.hid (hK.below b2 (by rw [← hgB]; exact hK.lt))
  have HAT : Hid (l.all isDig = true → Calls Tryz.prog 166 #[strV l] W2 (AtoiEnd l W2)) := Lib.hid (fun hd => atoi_any l W2 HK2.out (by rw [HN.out]; exact hl) hd)
  clear hby b2 hn hcp hW2 hK esz hgB
  unfold strV at HAT ⊢
  go_enter Tryz.func141, Tryz.ntmps141
  go_wp2_with fail
  go_loop [11] (fun iv => ∃ k : Nat, k ≤ n ∧ iv = .int .i64 k ∧ Hid ((l.take k).all isDig = true)) (fun i => n - (intOf i).toNat)
  case atStart => exact ⟨0, by omega, rfl, Lib.hid rfl⟩
  case round =>
    obtain ⟨k, hk, rfl, HR⟩ := hrel
    by_cases hk2 : k < n
    · obtain ⟨c, hck⟩ : ∃ c, l[k]? = some c := ⟨_, List.getElem?_eq_getElem (by rw [HN.out]; exact hk2)⟩
      have hcell := HBY.out k c hck
      have HTS : Hid (l.take (k + 1) = l.take k ++ [c]) := Lib.hid (by rw [List.take_add_one, hck]; rfl)
      have HM := Lib.hid (List.mem_of_getElem? hck)
      obtain ⟨x, hx⟩ : ∃ x, c.toNat = x := ⟨_, rfl⟩
      rw [hx] at hcell
      have HX := Lib.hid hx
      clear hck hx
      have hno : Hid (isDig c = false → digV l = (0, false)) := Lib.hid (fun h => by
        unfold digV
        rw [if_neg]
        rintro ⟨h1, _⟩
        rw [List.all_eq_true.1 h1 c HM.out] at h
        cases h)
      by_cases h1 : x < 48
      · have d1 : decide ((x : Int) < 48) = true := by simp; omega
        have HD := Lib.hid (hno.out (by rw [Bool.eq_false_iff]; intro h; have := (isDig_iff c).1 h; have := HX.out; omega))
        go_wp2_with fail
        go_ret2
        exact ⟨by rw [HD.out]; rfl, HB.out⟩
      · have d1 : decide ((x : Int) < 48) = false := by simp; omega
        by_cases h2 : x ≤ 57
        · have d2 : decide (57 < (x : Int)) = false := by simp; omega
          have HN2 : Hid ((l.take (k + 1)).all isDig = true) := Lib.hid (by
            rw [HTS.out, List.all_append, HR.out]
            simp only [List.all_cons, List.all_nil, Bool.and_true, Bool.true_and]
            exact (isDig_iff c).2 (by have := HX.out; omega))
          go_wp2_with fail
          go_round
          case rel => exact ⟨k + 1, by omega, by go_num, HN2⟩
          case measure => simp [intOf]; omega
        · have d2 : decide (57 < (x : Int)) = true := by simp; omega
          have HD := Lib.hid (hno.out (by rw [Bool.eq_false_iff]; intro h; have := (isDig_iff c).1 h; have := HX.out; omega))
          go_wp2_with fail
          go_ret2
          exact ⟨by rw [HD.out]; rfl, HB.out⟩
    · obtain rfl : k = n := by omega
      have hall : l.all isDig = true := by have := HR.out; rwa [List.take_of_length_le (by rw [HN.out]; exact Nat.le_refl _)] at this
      have HAT2 := Lib.hid (HAT.out hall)
      have HALL := Lib.hid hall
      clear hall
      go_wp2_with fail
      refine HAT2.out.mono ?_
      rintro e w3 ⟨hb3, hc3⟩
      have HB3 : Hid (Below gB w w3) := Lib.hid (HB.out.trans (hb3.mono (by have := HB.out.size; have := HGB.out; omega)))
      clear hb3
      rcases hc3 with ⟨h0, hv, rfl⟩ | ⟨hc, tp, p, rfl⟩
      · have HD : Hid (digV l = ((valD l : Int), l == [48] || !(l.head? == some 48))) := Lib.hid (by
          unfold digV
          rw [if_pos ⟨HALL.out, h0⟩, if_pos hv])
        obtain ⟨v, hvv⟩ : ∃ v, valD l = v := ⟨_, rfl⟩
        rw [hvv] at HD ⊢
        clear hvv hv
        by_cases h48 : l = [48]
        · subst h48
          clear h0
          go_wp2_with fail
          go_quiet (fail)
          go_wp2
          go_ret2
          exact ⟨by rw [HD.out]; rfl, below_drewN HB3.out _⟩
        · obtain ⟨c, r, rfl⟩ : ∃ c r, l = c :: r := by
            cases l with
            | nil => exact absurd rfl h0
            | cons c r => exact ⟨c, r, rfl⟩
          have q0 : ((c :: r) == [48]) = false := by rw [beq_eq_false_iff_ne]; exact h48
          clear h0 h48
          have HH : Hid (((c.toNat : Int) != 48) = ((c :: r) == [48] || !((c :: r).head? == some 48))) := Lib.hid (by
            rw [q0, Bool.false_or, bne]
            simp only [List.head?_cons]
            congr 1
            rw [Bool.eq_iff_iff]
            simp only [beq_iff_eq, Option.some.injEq]
            exact ⟨fun e => by rw [← ofNat_toNat c, show c.toNat = 48 by omega]; rfl, fun e => by rw [e]; rfl⟩)
          go_wp2_with fail
          go_quiet (fail)
          go_wp2
          go_ret2
          refine ⟨?_, below_drewN HB3.out _⟩
          rw [HD.out]
          show Ending.returned (.tuple #[.int .i64 (v : Int), .bool ((c.toNat : Int) != 48)]) = Ending.returned (.tuple #[.int .i64 (v : Int), .bool ((c :: r) == [48] || !((c :: r).head? == some 48))])
          rw [HH.out]
      · have HD : Hid (digV l = ((if l = [] then 0 else 9223372036854775807), false)) := Lib.hid (by
          unfold digV
          by_cases h0 : l = []
          · rw [if_neg (by simp [h0]), if_pos h0]
          · rw [if_pos ⟨HALL.out, h0⟩, if_neg (by rcases hc with h | h; exact absurd h h0; omega), if_neg h0])
        obtain ⟨y, hy⟩ : ∃ y : Int, (if l = [] then 0 else 9223372036854775807) = y := ⟨_, rfl⟩
        rw [hy] at HD ⊢
        clear hy hc
        go_wp2_with fail
        go_quiet (fail)
        go_wp2
        go_ret2
        exact ⟨by rw [HD.out]; rfl, below_drewN HB3.out _⟩
end Go.Proofs.YtfiabonacpepnaaGreatDoor
namespace Go.Proofs.YtfiabonacpepnaaGreatDoor
open Go Go.RowKit Go.Lib Go.Shelf

theorem grown_trans {w w1 w2 : World} {row : Option Nat} (h : w.grownBy w1 row) (h2 : w1.grownBy w2 row) : w.grownBy w2 row :=
  ⟨h2.os.trans h.os, h2.tape.trans h.tape, h2.output.trans h.output, Nat.le_trans h.size h2.size, fun k hk hne => (h2.block k (Nat.lt_of_lt_of_le hk h.size) hne).trans (h.block k hk hne)⟩
theorem grown_below {w w' : World} (h : Below w.heap.size w w') (row : Option Nat) : w.grownBy w' row := ⟨h.os, h.tape, h.output, h.size, fun k hk _ => h.block k hk⟩
theorem below_grown {w w' : World} {b : Nat} (h : w.grownBy w' (some b)) (hb : b ≤ w.heap.size) : Below b w w' :=
  ⟨h.os, h.tape, h.output, h.size, fun k hk => h.block k (by omega) (by intro e; cases e; omega)⟩
theorem RdAt.setBad {w : World} {b : Nat} {r : Rd} (h : RdAt w b r) (x : Bool) : RdAt (w.setCell ⟨b, 1, none⟩ (.bool x)) b ⟨r.ws, x⟩ := by
  obtain ⟨hb, hsh, hfew, A, c, hr, hl, hc3, hs⟩ := h
  refine ⟨hb, hsh, hfew, A, c, hr.set 1 (.bool x), hl, hc3, ?_⟩
  rcases hs with e | ⟨sb, o, e, hlt, hcell⟩
  · exact .inl e
  · exact .inr ⟨sb, o, e, hlt, fun j y hy => (World.cell?_of_block (a := ⟨sb, o + j, none⟩) (Below.heap_setCell w ⟨b, 1, none⟩ _ sb (by show sb ≠ b; omega))).trans (hcell j y hy)⟩
theorem RdAt.badCell {w : World} {b : Nat} {r : Rd} (h : RdAt w b r) : w.cell? ⟨b, 1, none⟩ = some (.bool r.bad) ∧ w.frozen? ⟨b, 1, none⟩ = false := by
  obtain ⟨A, c, hr, _⟩ := h.row
  exact ⟨hr.cell 1, hr.free 1⟩
theorem RdAt.wsCell {w : World} {b : Nat} {r : Rd} (h : RdAt w b r) : ∃ A c, w.cell? ⟨b, 0, none⟩ = some (.slice A r.ws.length c) := by
  obtain ⟨A, c, hr, _⟩ := h.row
  exact ⟨A, c, hr.cell 0⟩
theorem RdAt.word_short {w : World} {b : Nat} {r : Rd} (h : RdAt w b r) : r.next.1.length ≤ 3000 := by
  unfold Rd.next
  split
  · simp
  · rename_i hn
    cases hw : r.ws with
    | nil => simp
    | cons x t => exact h.short x (by rw [hw]; simp)

set_option maxRecDepth 100000 in
set_option maxHeartbeats 1000000 in
theorem word_any (b : Nat) (r : Rd) (k : List UInt8) (w : World) (h : RdAt w b r) :
    Calls Tryz.prog 138 #[.pointer (some ⟨b, 0, none⟩), strV k] w fun e w' => e = .returned (.tuple #[]) ∧ RdAt w' b (r.word k) ∧ w.grownBy w' (some b) := by
  have HN := Lib.hid (next_any b r w h)
  unfold Rd.word
  obtain ⟨x, hx⟩ : ∃ x, r.next.1 = x := ⟨_, rfl⟩
  obtain ⟨ws2, y, hr2⟩ : ∃ ws y, r.next.2 = ⟨ws, y⟩ := ⟨_, _, rfl⟩
  rw [hx, hr2] at HN ⊢
  dsimp only at HN ⊢
  obtain ⟨q, hq⟩ : ∃ q, (x == k) = q := ⟨_, rfl⟩
  rw [hq]
  clear h hx hr2
  unfold strV at HN ⊢
  cases q
  all_goals
    go_enter Tryz.func138, Tryz.ntmps138
    go_wp2_with fail
    refine HN.out.mono ?_
    rintro e w1 ⟨rfl, h1, hg⟩
    obtain ⟨c1, f1⟩ := h1.badCell
    have HR := Lib.hid h1
    have HG := Lib.hid hg
    dsimp only at c1
    clear h1 hg
    go_wp2_with fail
    go_end0
    exact ⟨rfl, HR.out.setBad _, grown_trans HG.out (grown_set _)⟩
set_option maxRecDepth 100000 in
set_option maxHeartbeats 1000000 in
theorem number_any (b : Nat) (r : Rd) (w : World) (h : RdAt w b r) (hK : KAt w) :
    Calls Tryz.prog 94 #[.pointer (some ⟨b, 0, none⟩)] w fun e w' => e = .returned (.int .i64 r.number.1) ∧ RdAt w' b r.number.2 ∧ w.grownBy w' (some b) := by
  have HN := Lib.hid (next_any b r w h)
  have hw := h.word_short
  have hb9 := h.hb
  have HK := Lib.hid hK
  unfold Rd.number
  obtain ⟨x, hx⟩ : ∃ x, r.next.1 = x := ⟨_, rfl⟩
  obtain ⟨ws2, y, hr2⟩ : ∃ ws y, r.next.2 = ⟨ws, y⟩ := ⟨_, _, rfl⟩
  rw [hx] at hw
  rw [hx, hr2] at HN ⊢
  dsimp only at HN ⊢
  have HD : Hid (∀ W, KAt W → Calls Tryz.prog 141 #[strV x] W fun e w' => e = .returned (.tuple #[.int .i64 (digV x).1, .bool (digV x).2]) ∧ Below W.heap.size W w') := Lib.hid (fun W hW => digits_any x W hW (by omega))
  obtain ⟨n, hn⟩ : ∃ q, (digV x).1 = q := ⟨_, rfl⟩
  obtain ⟨ok, hok⟩ : ∃ q, (digV x).2 = q := ⟨_, rfl⟩
  rw [hn, hok] at HD ⊢
  clear h hx hr2 hK hn hok hw
  unfold strV at HN HD
  go_enter Tryz.func94, Tryz.ntmps94
  go_wp2_with fail
  refine HN.out.mono ?_
  rintro e w1 ⟨rfl, h1, hg⟩
  have HK1 := Lib.hid (HK.out.grown hg hb9)
  have HR := Lib.hid h1
  have HG := Lib.hid hg
  clear h1 hg
  go_wp2_with fail
  refine (HD.out _ HK1.out).mono ?_
  rintro e w2 ⟨rfl, hb2⟩
  have h2 := HR.out.below hb2 HR.out.lt
  obtain ⟨c1, f1⟩ := h2.badCell
  have HR2 := Lib.hid h2
  have HG2 := Lib.hid (grown_trans HG.out (grown_below hb2 _))
  clear h2 hb2
  cases y
  all_goals
    go_wp2_with fail
    go_ret
    exact ⟨rfl, HR2.out.setBad _, grown_trans HG2.out (grown_set _)⟩
end Go.Proofs.YtfiabonacpepnaaGreatDoor
namespace Go.Proofs.YtfiabonacpepnaaGreatDoor
open Go Go.RowKit Go.Lib Go.Shelf

theorem cutSuffix_any (x : List UInt8) (w : World) (hl : x.length ≤ 3000) :
    Calls Tryz.prog 139 #[strV x, .string ⟨#[37]⟩] w fun e w' => e = .returned (.tuple #[strV (trimSuffix x [37]), .bool (hasSuffix x [37])]) ∧ Below w.heap.size w w' := by
  refine (Tryz.strings_CutSuffix ⟨x.toArray⟩ ⟨#[37]⟩ w (by show x.length ≤ _; omega)).mono ?_
  rintro e w' ⟨he, hw⟩
  exact ⟨he, by rw [hw]; exact Below.refl _ _⟩
theorem cut_any (x : List UInt8) (w : World) (hK : KAt w) (hl : x.length ≤ 3000) :
    Calls Tryz.prog 140 #[strV x, .string ⟨#[46]⟩] w fun e w' => e = .returned (.tuple #[strV (cut x [46]).1, strV (cut x [46]).2.1, .bool (cut x [46]).2.2]) ∧ Below w.heap.size w w' := by
  obtain ⟨m, hm⟩ := hK.max
  refine (Tryz.strings_Cut ⟨x.toArray⟩ ⟨#[46]⟩ m w (by show x.length < _; omega) hm).mono ?_
  rintro e w' ⟨he, n, hw⟩
  exact ⟨he, by rw [hw]; exact below_drewN (Below.refl _ _) _⟩
theorem trim_short (x : List UInt8) : (trimSuffix x [37]).length ≤ x.length := by
  unfold trimSuffix
  split
  · rw [List.length_take]; omega
  · omega
theorem cut_short (x : List UInt8) : (cut x [46]).1.length ≤ x.length ∧ (cut x [46]).2.1.length ≤ x.length := by
  rcases cut_inv (c := 46) (s := x) with ⟨_, h⟩ | ⟨_, h1, h2⟩
  · have := congrArg List.length h
    simp at this
    omega
  · rw [h1, h2]; simp
theorem run_str_add (t : TypeId) (x y : List UInt8) (hx : (x.length : Int) ≤ 8388608) (hy : (y.length : Int) ≤ 8388608) (w : World) : (Go.binOp .add t (.string ⟨x.toArray⟩) (.string ⟨y.toArray⟩)).run Tryz.prog w = .ok (.string ⟨(x ++ y).toArray⟩) w := by
  rw [binOp_string_add]
  exact run_string_add_lists w x y hx hy

theorem run_str_last (t : TypeId) (ht : Tryz.prog.underlying t = some .string) (p : List UInt8) (c : UInt8) (h : p.getLast? = some c) (w : World) :
    (Instr.index t (.string ⟨p.toArray⟩) (.int .i64 ((p.length : Int) - 1))).run Tryz.prog w = .ok (.int .u8 (c.toNat : Int)) w := by
  have hne : p ≠ [] := by intro e; rw [e] at h; simp at h
  have hpos := List.length_pos_iff.2 hne
  have hz : (⟨p.toArray⟩ : ByteArray).size = p.length := rfl
  rw [List.getLast?_eq_getElem?] at h
  obtain ⟨hlt, hc⟩ := List.getElem?_eq_some_iff.1 h
  have e : ((p.length : Int) - 1).toNat = p.length - 1 := by omega
  have e2 : ∀ (i j : Nat) (hi : i < (⟨p.toArray⟩ : ByteArray).size) (hj : j < p.length), i = j → (⟨p.toArray⟩ : ByteArray)[i]'hi = p[j]'hj := by
    intro i j hi hj hij
    subst hij
    rfl
  rw [run_index_string w t _ .i64 _ ht, dif_pos ⟨by omega, by rw [hz]; omega⟩, e2 _ (p.length - 1) _ hlt e, hc]

set_option maxRecDepth 100000 in
set_option maxHeartbeats 4000000 in
theorem pct_any (b : Nat) (r : Rd) (w : World) (h : RdAt w b r) (hK : KAt w) :
    Calls Tryz.prog 91 #[.pointer (some ⟨b, 0, none⟩)] w fun e w' => e = .returned (.int .i64 r.pct.1) ∧ RdAt w' b r.pct.2 ∧ w.grownBy w' (some b) := by
  have HN := Lib.hid (next_any b r w h)
  have hw := h.word_short
  have hb9 := h.hb
  have HK := Lib.hid hK
  unfold Rd.pct
  obtain ⟨x, hx⟩ : ∃ x, r.next.1 = x := ⟨_, rfl⟩
  obtain ⟨ws2, y, hr2⟩ : ∃ ws y, r.next.2 = ⟨ws, y⟩ := ⟨_, _, rfl⟩
  rw [hx] at hw
  rw [hx, hr2] at HN ⊢
  dsimp only at HN ⊢
  have HP := Lib.hid (pctV.eq_1 x)
  have HS := Lib.hid (fun W => cutSuffix_any x W hw)
  have hs1 := trim_short x
  obtain ⟨s, hs⟩ : ∃ s, trimSuffix x [37] = s := ⟨_, rfl⟩
  obtain ⟨hsb, hhs⟩ : ∃ q, hasSuffix x [37] = q := ⟨_, rfl⟩
  rw [hs] at hs1
  rw [hs, hhs] at HS HP
  have HC := Lib.hid (fun W (hW : KAt W) => cut_any s W hW (by omega))
  have hs2 := cut_short s
  obtain ⟨a, p, pt, hc⟩ : ∃ a p pt, cut s [46] = (a, p, pt) := ⟨_, _, _, rfl⟩
  rw [hc] at HC hs2 HP
  dsimp only at HC hs2 HP
  have HDa := Lib.hid (fun W (hW : KAt W) => digits_any a W hW (by omega))
  have HDp := Lib.hid (fun W (hW : KAt W) => digits_any (49 :: p) W hW (by rw [List.length_cons]; omega))
  have ha := digV_bd a
  obtain ⟨na, oka, hda⟩ : ∃ n o, digV a = (n, o) := ⟨_, _, rfl⟩
  have hp := digV_bd (49 :: p)
  have hpb : (digV (49 :: p)).2 = true → (digV (49 :: p)).1 < 2 * 10 ^ p.length := by
    intro ho
    obtain ⟨k, hk, _, hk2⟩ := digV_sound (show digV (49 :: p) = ((digV (49 :: p)).1, true) by rw [← ho])
    have hall := dec_digs k
    rw [← hk2] at hall
    simp only [List.all_cons, Bool.and_eq_true] at hall
    have := (foldD_bd p 1 hall.2).2
    rw [show p.foldl stepD 1 = valD (49 :: p) from rfl, hk2, dec_val] at this
    rw [hk]
    have e : ((2 : Int) * 10 ^ p.length) = ((2 * 10 ^ p.length : Nat) : Int) := by simp
    rw [e]
    omega
  obtain ⟨np, okp, hdp⟩ : ∃ n o, digV (49 :: p) = (n, o) := ⟨_, _, rfl⟩
  rw [hda] at HDa ha HP
  rw [hdp] at HDp hp hpb HP
  dsimp only at HDa ha HP HDp hp hpb
  have HPB := Lib.hid hpb
  have hlp : p.length ≤ 3000 := by omega
  clear h hx hr2 hK hs hhs hc hda hdp hpb hs1 hs2 hw
  unfold strV at HN HDa HDp HS HC
  have hcat := fun W => run_str_add 9 [49] p (by decide) (by omega) W
  go_enter Tryz.func91, Tryz.ntmps91
  go_wp2_with fail
  refine HN.out.mono ?_
  rintro e w1 ⟨rfl, h1, hg⟩
  have HK1 := Lib.hid (HK.out.grown hg hb9)
  have HR1 := Lib.hid h1
  have HG1 := Lib.hid hg
  clear h1 hg
  go_wp2_with fail
  refine (HS.out _).mono ?_
  rintro e w2 ⟨rfl, hb2⟩
  have HK2 := Lib.hid (HK1.out.mono hb2)
  have HR2 := Lib.hid (HR1.out.below hb2 HR1.out.lt)
  have HG2 := Lib.hid (grown_trans HG1.out (grown_below hb2 _))
  clear hb2
  go_wp2_with fail
  refine (HC.out _ HK2.out).mono ?_
  rintro e w3 ⟨rfl, hb3⟩
  have HK3 := Lib.hid (HK2.out.mono hb3)
  have HR3 := Lib.hid (HR2.out.below hb3 HR2.out.lt)
  have HG3 := Lib.hid (grown_trans HG2.out (grown_below hb3 _))
  clear hb3
  go_wp2_with fail
  refine (HDa.out _ HK3.out).mono ?_
  rintro e w4 ⟨rfl, hb4⟩
  have HK4 := Lib.hid (HK3.out.mono hb4)
  have HR4 := Lib.hid (HR3.out.below hb4 HR3.out.lt)
  have HG4 := Lib.hid (grown_trans HG3.out (grown_below hb4 _))
  have hc4 := HR4.out.badCell
  obtain ⟨c1, f1⟩ := hc4
  dsimp only at c1
  clear hb4
  by_cases hg : hsb = true ∧ oka = true ∧ na ≤ 100
  rotate_left
  · have HE : Hid (pctV x = (0, false)) := Lib.hid (by rw [HP.out, if_neg hg])
    cases hsb
    · clear hg
      go_wp2_with fail
      go_ret
      exact ⟨by rw [HE.out]; rfl, by rw [HE.out, Bool.or_comm]; exact HR4.out.setBad true, grown_trans HG4.out (grown_set _)⟩
    · cases oka
      · clear hg
        go_wp2_with fail
        go_ret
        exact ⟨by rw [HE.out]; rfl, by rw [HE.out, Bool.or_comm]; exact HR4.out.setBad true, grown_trans HG4.out (grown_set _)⟩
      · have d1 : decide (100 < na) = true := by simp at hg ⊢; exact hg
        clear hg
        go_wp2_with fail
        go_ret
        exact ⟨by rw [HE.out]; rfl, by rw [HE.out, Bool.or_comm]; exact HR4.out.setBad true, grown_trans HG4.out (grown_set _)⟩
  · obtain ⟨rfl, rfl, hna⟩ := hg
    have HP2 := Lib.hid (HP.out.trans (if_pos ⟨rfl, rfl, hna⟩))
    have d1 : decide (100 < na) = false := by simp; exact hna
    clear HP
    cases pt
    · have HE : Hid (pctV x = (10000 * na, true)) := Lib.hid (HP2.out.trans (if_pos rfl))
      go_wp2_with fail
      go_ret
      exact ⟨by rw [HE.out]; rfl, by rw [HE.out]; simpa using HR4.out, HG4.out⟩
    · have HP3 := Lib.hid (HP2.out.trans (if_neg (by decide)))
      clear HP2
      go_wp2_with fail
      refine (HDp.out _ HK4.out).mono ?_
      rintro e w5 ⟨rfl, hb5⟩
      have HK5 := Lib.hid (HK4.out.mono hb5)
      have HR5 := Lib.hid (HR4.out.below hb5 HR4.out.lt)
      have HG5 := Lib.hid (grown_trans HG4.out (grown_below hb5 _))
      have hc5 := HR5.out.badCell
      obtain ⟨c5, f5⟩ := hc5
      clear hb5 c1 f1
      dsimp only at c5
      by_cases hq : okp = true ∧ p ≠ [] ∧ p.length ≤ 4 ∧ p.getLast? ≠ some 48
      rotate_left
      · have HE : Hid (pctV x = (0, false)) := Lib.hid (HP3.out.trans (if_neg hq))
        cases okp
        · clear hq
          go_wp2_with fail
          go_ret
          exact ⟨by rw [HE.out]; rfl, by rw [HE.out, Bool.or_comm]; exact HR5.out.setBad true, grown_trans HG5.out (grown_set _)⟩
        · by_cases hp0 : p = []
          · subst hp0
            clear hq
            go_wp2_with fail
            go_ret
            exact ⟨by rw [HE.out]; rfl, by rw [HE.out, Bool.or_comm]; exact HR5.out.setBad true, grown_trans HG5.out (grown_set _)⟩
          · have p0 : (p == []) = false := by rw [beq_eq_false_iff_ne]; exact hp0
            have p1 : p.isEmpty = false := by simpa using hp0
            by_cases hp4 : p.length ≤ 4
            · have d4 : decide (4 < (p.length : Int)) = false := by simp; omega
              have d5 : decide (4 < p.length) = false := by simp; omega
              obtain ⟨c, hlast⟩ : ∃ c, p.getLast? = some c := ⟨_, List.getLast?_eq_some_getLast hp0⟩
              have hc48 : c = 48 := by
                by_cases hc : c = 48
                · exact hc
                · exact absurd ⟨rfl, hp0, hp4, by rw [hlast]; simpa using hc⟩ hq
              subst hc48
              have hix := fun W => run_str_last 9 Tryz.underlying9 p 48 hlast W
              have hp1 : 1 ≤ (p.length : Int) := by have := List.length_pos_iff.2 hp0; omega
              clear hq hlast
              go_wp2_with fail
              go_ret
              exact ⟨by rw [HE.out]; rfl, by rw [HE.out, Bool.or_comm]; exact HR5.out.setBad true, grown_trans HG5.out (grown_set _)⟩
            · have d4 : decide (4 < (p.length : Int)) = true := by simp; omega
              have d5 : decide (4 < p.length) = true := by simp; omega
              clear hq hp4
              go_wp2_with fail
              go_ret
              exact ⟨by rw [HE.out]; rfl, by rw [HE.out, Bool.or_comm]; exact HR5.out.setBad true, grown_trans HG5.out (grown_set _)⟩
      · have HE := Lib.hid (HP3.out.trans (if_pos hq))
        obtain ⟨rfl, hp0, hp4, hpl⟩ := hq
        obtain ⟨c, hlast⟩ : ∃ c, p.getLast? = some c := ⟨_, List.getLast?_eq_some_getLast hp0⟩
        have n48 : ((c.toNat : Int) == 48) = false := by
          rw [beq_eq_false_iff_ne]
          intro e
          apply hpl
          rw [hlast, ← ofNat_toNat c, show c.toNat = 48 by omega]
          rfl
        have hix := fun W => run_str_last 9 Tryz.underlying9 p c hlast W
        have hp1 : 1 ≤ (p.length : Int) := by have := List.length_pos_iff.2 hp0; omega
        have p0 : (p == []) = false := by rw [beq_eq_false_iff_ne]; exact hp0
        have p1 : p.isEmpty = false := by simpa using hp0
        have d4 : decide (4 < (p.length : Int)) = false := by simp; omega
        have d5 : decide (4 < p.length) = false := by simp; omega
        obtain ⟨J, hJ⟩ : ∃ J : Nat, 4 - p.length = J := ⟨_, rfl⟩
        have hJ2 : (4 : Int) - (p.length : Int) = (J : Int) := by omega
        have hnp := HPB.out rfl
        rw [hJ] at HE
        obtain ⟨q, hq0, hqs, hqb, hqJ⟩ : ∃ q : Nat → Int, q 0 = np ∧ (∀ j, q (j + 1) = q j * 10) ∧ (∀ j, j ≤ J → 0 ≤ q j ∧ q j < 20000) ∧ q J = np * 10 ^ J := by
          refine ⟨fun j => np * 10 ^ j, by simp, fun j => by show np * 10 ^ (j + 1) = np * 10 ^ j * 10; rw [Int.pow_succ, Int.mul_assoc], fun j hj => ?_, rfl⟩
          obtain ⟨z, rfl⟩ := Int.eq_ofNat_of_zero_le hp.1
          have e1 : (z : Int) * 10 ^ j = ((z * 10 ^ j : Nat) : Int) := by simp
          have hz : z < 2 * 10 ^ p.length := by
            have e : ((2 : Int) * 10 ^ p.length) = ((2 * 10 ^ p.length : Nat) : Int) := by simp
            rw [e] at hnp
            omega
          have h2 : z * 10 ^ j < 2 * 10 ^ p.length * 10 ^ j := Nat.mul_lt_mul_of_pos_right hz (Nat.pow_pos (by decide))
          have h3 : 10 ^ p.length * 10 ^ j ≤ 10 ^ 4 := by rw [← Nat.pow_add]; exact Nat.pow_le_pow_right (by decide) (by omega)
          rw [Nat.mul_assoc] at h2
          show 0 ≤ (z : Int) * 10 ^ j ∧ (z : Int) * 10 ^ j < 20000
          rw [e1]
          omega
        rw [← hqJ] at HE
        rw [← hq0]
        have HQ := Lib.hid (And.intro hqs hqb)
        have hqJ2 := hqb J (Nat.le_refl _)
        have hna0 := ha.1
        clear HP3 hq0 hqs hqb hqJ hnp hpl hlast hp0 HPB hp hp4 hJ ha
        go_wp2_with fail
        go_loop [10, 77] (fun kv iv => ∃ j : Nat, j ≤ J ∧ iv = .int .i64 j ∧ kv = .int .i64 (q j)) (fun _ i => J - (intOf i).toNat)
        case atStart => exact ⟨0, Nat.zero_le _, rfl, rfl⟩
        case round =>
          obtain ⟨j, hj, rfl, rfl⟩ := hrel
          have hqj := HQ.out.2 j hj
          have HQS := Lib.hid (HQ.out.1 j)
          by_cases hj2 : j < J
          · go_wp2_with fail
            go_round
            case rel => exact ⟨j + 1, by omega, by go_num, by rw [HQS.out]⟩
            case measure => simp [intOf]; omega
          · obtain rfl : j = J := by omega
            go_wp2_with fail
            go_ret
            exact ⟨by rw [HE.out]; rfl, by rw [HE.out]; simpa using HR5.out, HG5.out⟩
end Go.Proofs.YtfiabonacpepnaaGreatDoor
namespace Go.Proofs.YtfiabonacpepnaaGreatDoor
open Go Go.RowKit Go.Lib Go.Shelf

theorem setRow_at {w : World} {g : Nat} {cs old : Array Value} {t : TypeId} (h : RowAt w g t old) : RowAt (w.setRow g cs) g t cs := by
  unfold RowAt at h ⊢
  simp [World.setRow, Array.getElem?_modify, h]
theorem setRow_far {w : World} {g k : Nat} {cs : Array Value} (h : k ≠ g) : (w.setRow g cs).heap[k]? = w.heap[k]? := by
  have : ¬ g = k := fun e => h e.symm
  simp [World.setRow, Array.getElem?_modify, this]
theorem setRow_size {w : World} {g : Nat} {cs : Array Value} : (w.setRow g cs).heap.size = w.heap.size := by simp [World.setRow]
theorem results_cell1 {P : Program} {fn : Func} {p : Tmp} {ty : TypeId} (h : fn.results = #[.cell p ty]) (tmps : Array Value) (w : World) (g : Nat) (t : TypeId) (cs : Array Value) (fr : Nat × Nat) (d : TypeDesc)
    (hp : tmps.getD p undef = .pointer (some ⟨g, 0, none⟩)) (hg : w.heap[g]? = some (.cells cs t fr))
    (hu : P.underlying ty = some d) (hd : (match d with | .struct _ | .array _ _ => true | _ => false) = true) (hi : (P.info? ty).map (·.size) = some cs.size) :
    (results fn tmps).run P w = .ok (.agg cs) w := by
  have hp' : tmps[p]?.getD undef = .pointer (some ⟨g, 0, none⟩) := by simpa using hp
  simp [results, h, hp', asAddr, run_loadVar_row w g t ty cs fr d hg hu hd hi]
theorem results_cell_tmp {P : Program} {fn : Func} {p q : Tmp} {ty : TypeId} (h : fn.results = #[.cell p ty, .tmp q]) (tmps : Array Value) (w : World) (g : Nat) (t : TypeId) (cs : Array Value) (fr : Nat × Nat) (d : TypeDesc)
    (hp : tmps.getD p undef = .pointer (some ⟨g, 0, none⟩)) (hg : w.heap[g]? = some (.cells cs t fr))
    (hu : P.underlying ty = some d) (hd : (match d with | .struct _ | .array _ _ => true | _ => false) = true) (hi : (P.info? ty).map (·.size) = some cs.size) :
    (results fn tmps).run P w = .ok (.tuple #[.agg cs, tmps.getD q undef]) w := by
  have hp' : tmps[p]?.getD undef = .pointer (some ⟨g, 0, none⟩) := by simpa using hp
  simp [results, h, hp', asAddr, run_loadVar_row w g t ty cs fr d hg hu hd hi]
theorem load_trow {ops : Array Oper} {rest : List Oper} {o : Oper} {a : Act} {w : World} {Q : Exit → Act → World → Prop} (x : Operand) (g : Nat) (cs : Array Value) (hg : RowAt w g 28 cs) (hs : cs.size = 5)
    (hgd : o.guard = none) (ho : o.op = .load 28 x) (hx : a.eval x = .pointer (some ⟨g, 0, none⟩)) (h : wpList Tryz.prog ops Q rest (a.put o.dst (.agg cs)) w) : wpList Tryz.prog ops Q (o :: rest) a w :=
  wpList_load_row hgd 28 x ho g hx 28 cs (0, 0) _ hg Tryz.underlying28 rfl (by rw [hs]; exact term_size) h
theorem store_trow {ops : Array Oper} {rest : List Oper} {o : Oper} {a : Act} {w : World} {Q : Exit → Act → World → Prop} (x y : Operand) (g : Nat) (cs old : Array Value) (hg : RowAt w g 28 old) (hs : cs.size = 5) (hold : old.size = 5)
    (h1 : cs.all (·.oneCell') = true) (hgd : o.guard = none) (ho : o.op = .store 28 x y) (hx : a.eval x = .pointer (some ⟨g, 0, none⟩)) (hy : a.eval y = .agg cs)
    (h : wpList Tryz.prog ops Q rest (a.put o.dst undef) (w.setRow g cs)) : wpList Tryz.prog ops Q (o :: rest) a w :=
  wpList_store_row hgd 28 x y ho g cs hx hy 28 old hg (by rw [hs]; exact term_size) (by rw [hs]; exact hold) h1 h
/-- the zero term's cells -/
def zC : Array Value := #[.int .i64 0, .int .i64 0, .int .i64 0, .int .i64 0, .slice none 0 0]
/-- what a form returns -/
def FormEnd (w : World) (b : Nat) (p : TermV × Rd) (e : Ending) (w' : World) : Prop :=
  ∃ va, e = .returned (.agg (termC p.1 va)) ∧ OwnI 3 1 w' w.heap.size va (p.1.acc.map fun a => [a]) ∧ RdAt w' b p.2 ∧ w.grownBy w' (some b)
theorem RowAt.grown {w w' : World} {g b : Nat} {T : TypeId} {cs : Array Value} (h : RowAt w g T cs) (hg : w.grownBy w' (some b)) (hne : g ≠ b) : RowAt w' g T cs :=
  (hg.block g h.lt (by intro e; cases e; exact hne rfl)).trans h
theorem KAt.alloc {w : World} (h : KAt w) (o : Obj) : KAt (w.alloc o) := h.mono ((Below.refl _ _).alloc (Nat.le_refl _) _)
theorem RdAt.alloc {w : World} {b : Nat} {r : Rd} (h : RdAt w b r) (o : Obj) : RdAt (w.alloc o) b r := h.below ((Below.refl w.heap.size w).alloc (Nat.le_refl _) _) h.lt
theorem grown_alloc (w : World) (o : Obj) (row : Option Nat) : w.grownBy (w.alloc o) row := World.grownBy_alloc w o row

theorem grown_row {w w2 : World} {b N : Nat} {cs : Array Value} (h : w.grownBy w2 (some b)) (hN : w.heap.size ≤ N) : w.grownBy (w2.setRow N cs) (some b) :=
  ⟨h.os, h.tape, h.output, by rw [setRow_size]; exact h.size, fun k hk hne => (setRow_far (by omega)).trans (h.block k hk hne)⟩
theorem grown_cell {w w2 : World} {b N i : Nat} {u : Value} (h : w.grownBy w2 (some b)) (hN : w.heap.size ≤ N) : w.grownBy (w2.setCell ⟨N, i, none⟩ u) (some b) :=
  ⟨h.os, h.tape, h.output, by simpa [World.setCell] using h.size, fun k hk hne => (Below.heap_setCell w2 ⟨N, i, none⟩ u k (by show k ≠ N; omega)).trans (h.block k hk hne)⟩
theorem RdAt.cellFar {w : World} {b N i : Nat} {r : Rd} {u : Value} (h : RdAt w b r) (hN : b < N) : RdAt (w.setCell ⟨N, i, none⟩ u) b r :=
  h.kept fun k hk => Below.heap_setCell w ⟨N, i, none⟩ u k (by show k ≠ N; omega)
theorem RdAt.rowFar {w : World} {b N : Nat} {r : Rd} {cs : Array Value} (h : RdAt w b r) (hN : b < N) : RdAt (w.setRow N cs) b r := h.kept fun k hk => setRow_far (by omega)
theorem KAt.cellFar {w : World} {N i : Nat} {u : Value} (h : KAt w) (hN : 9 ≤ N) : KAt (w.setCell ⟨N, i, none⟩ u) :=
  h.of (by simp [World.setCell]) fun k hk => Below.heap_setCell w ⟨N, i, none⟩ u k (by show k ≠ N; omega)
theorem term_ones (a b c d : Int) : (#[.int .i64 a, .int .i64 b, .int .i64 c, .int .i64 d, .slice none 0 0] : Array Value).all (·.oneCell') = true := by kernel_rfl

set_option maxRecDepth 100000 in
set_option maxHeartbeats 4000000 in
theorem tax_any (b : Nat) (r : Rd) (w : World) (h : RdAt w b r) (hK : KAt w) :
    Calls Tryz.prog 90 #[.pointer (some ⟨b, 0, none⟩)] w (FormEnd w b (taxV r)) := by
  have HP := Lib.hid (pct_any b r (w.alloc (.cells zC 28)) (h.alloc _) (hK.alloc _))
  have hlt := h.lt
  have hr := RowAt.new w 28 zC
  obtain ⟨N, hN⟩ : ∃ z, w.heap.size = z := ⟨_, rfl⟩
  have HG := Lib.hid (grown_alloc w (.cells zC 28) (some b))
  rw [hN] at hr hlt
  have HR := Lib.hid hr
  have HN := Lib.hid hN
  unfold zC at HP HR HG
  unfold taxV
  obtain ⟨n, r2, hp⟩ : ∃ n r2, r.pct = (n, r2) := ⟨_, _, rfl⟩
  rw [hp] at HP ⊢
  dsimp only at HP ⊢
  clear h hK hr hp
  go_enter Tryz.func90, Tryz.ntmps90
  go_wp2_with fail
  refine HP.out.mono ?_
  rintro e w2 ⟨rfl, h2, hg2⟩
  have HR2 := Lib.hid (HR.out.grown hg2 (by omega))
  have HH2 := Lib.hid h2
  have HG2 := Lib.hid (grown_trans HG.out hg2)
  clear h2 hg2
  go_wp2_with ((with_reducible refine store_trow (o := ⟨none, .store _ _ _, _, _, _, _⟩) (.tmp 2) (.tmp 5) N #[.int .i64 2, .int .i64 n, .int .i64 0, .int .i64 0, .slice none 0 0] _ HR2.out rfl rfl (term_ones _ _ _ _) ?_ ?_ ?_ ?_ ?_); rfl; rfl; rfl; rfl)
  refine bodyPost_ret (results_cell1 rfl _ _ N _ _ _ _ rfl (setRow_at HR2.out) Tryz.underlying28 rfl term_size) rfl ⟨.slice none 0 0, rfl, OwnI.nil _ _ _ _, HH2.out.rowFar hlt, grown_row HG2.out (by rw [HN.out]; exact Nat.le_refl _)⟩
set_option maxRecDepth 100000 in
set_option maxHeartbeats 4000000 in
theorem cap_any (b : Nat) (r : Rd) (w : World) (h : RdAt w b r) (hK : KAt w) :
    Calls Tryz.prog 93 #[.pointer (some ⟨b, 0, none⟩)] w (FormEnd w b (capV r)) := by
  have HP := Lib.hid (number_any b r (w.alloc (.cells zC 28)) (h.alloc _) (hK.alloc _))
  have hlt := h.lt
  have hr := RowAt.new w 28 zC
  obtain ⟨N, hN⟩ : ∃ z, w.heap.size = z := ⟨_, rfl⟩
  have HG := Lib.hid (grown_alloc w (.cells zC 28) (some b))
  rw [hN] at hr hlt
  have HR := Lib.hid hr
  have HN := Lib.hid hN
  unfold zC at HP HR HG
  unfold capV
  obtain ⟨n, r2, hp⟩ : ∃ n r2, r.number = (n, r2) := ⟨_, _, rfl⟩
  rw [hp] at HP ⊢
  dsimp only at HP ⊢
  clear h hK hr hp
  go_enter Tryz.func93, Tryz.ntmps93
  go_wp2_with fail
  refine HP.out.mono ?_
  rintro e w2 ⟨rfl, h2, hg2⟩
  have HR2 := Lib.hid (HR.out.grown hg2 (by omega))
  have HH2 := Lib.hid h2
  have HG2 := Lib.hid (grown_trans HG.out hg2)
  clear h2 hg2
  go_wp2_with ((with_reducible refine store_trow (o := ⟨none, .store _ _ _, _, _, _, _⟩) (.tmp 2) (.tmp 5) N #[.int .i64 4, .int .i64 n, .int .i64 0, .int .i64 0, .slice none 0 0] _ HR2.out rfl rfl (term_ones _ _ _ _) ?_ ?_ ?_ ?_ ?_); rfl; rfl; rfl; rfl)
  refine bodyPost_ret (results_cell1 rfl _ _ N _ _ _ _ rfl (setRow_at HR2.out) Tryz.underlying28 rfl term_size) rfl ⟨.slice none 0 0, rfl, OwnI.nil _ _ _ _, HH2.out.rowFar hlt, grown_row HG2.out (by rw [HN.out]; exact Nat.le_refl _)⟩
set_option maxRecDepth 100000 in
set_option maxHeartbeats 8000000 in
theorem reserve_any (b : Nat) (r : Rd) (w : World) (h : RdAt w b r) (hK : KAt w) :
    Calls Tryz.prog 92 #[.pointer (some ⟨b, 0, none⟩)] w (FormEnd w b (reserveV r)) := by
  have HP := Lib.hid (pct_any b r (w.alloc (.cells zC 28)) (h.alloc _) (hK.alloc _))
  have hlt := h.lt
  have h9 := h.hb
  have hr := RowAt.new w 28 zC
  obtain ⟨N, hN⟩ : ∃ z, w.heap.size = z := ⟨_, rfl⟩
  have HG := Lib.hid (grown_alloc w (.cells zC 28) (some b))
  have HKA := Lib.hid (hK.alloc (.cells zC 28))
  rw [hN] at hr hlt
  have HR := Lib.hid hr
  have HN := Lib.hid hN
  unfold zC at HP HR HG HKA
  unfold reserveV
  obtain ⟨n, r2, hp⟩ : ∃ n r2, r.pct = (n, r2) := ⟨_, _, rfl⟩
  rw [hp]
  rw [hp] at HP
  dsimp only at HP ⊢
  obtain ⟨r4, hr4⟩ : ∃ r4, r2.word kFor = r4 := ⟨_, rfl⟩
  rw [hr4]
  obtain ⟨m, ws5, bad5, hm5⟩ : ∃ m ws y, r4.number = (m, ⟨ws, y⟩) := ⟨_, _, _, rfl⟩
  rw [hm5]
  dsimp only
  have HW : Hid (∀ W, RdAt W b r2 → Calls Tryz.prog 138 #[.pointer (some ⟨b, 0, none⟩), .string ⟨#[102, 111, 114]⟩] W fun e w' => e = .returned (.tuple #[]) ∧ RdAt w' b r4 ∧ W.grownBy w' (some b)) := Lib.hid (fun W hW => by rw [← hr4]; exact word_any b r2 kFor W hW)
  have HNU : Hid (∀ W, RdAt W b r4 → KAt W → Calls Tryz.prog 94 #[.pointer (some ⟨b, 0, none⟩)] W fun e w' => e = .returned (.int .i64 m) ∧ RdAt w' b ⟨ws5, bad5⟩ ∧ W.grownBy w' (some b)) := Lib.hid (fun W hW hk => by have := number_any b r4 W hW hk; rw [hm5] at this; exact this)
  clear h hK hr hp hr4 hm5
  go_enter Tryz.func92, Tryz.ntmps92
  go_wp2_with fail
  refine HP.out.mono ?_
  rintro e w2 ⟨rfl, h2, hg2⟩
  have HR2 := Lib.hid (HR.out.grown hg2 (by omega))
  have HH2 := Lib.hid h2
  have HG2 := Lib.hid (grown_trans HG.out hg2)
  have HK2 := Lib.hid (HKA.out.grown hg2 h9)
  have hN2 := HR2.out.lt
  clear h2 hg2
  obtain ⟨M, hM⟩ : ∃ z, w2.heap.size = z := ⟨_, rfl⟩
  have HM := Lib.hid hM
  rw [hM] at hN2
  clear hM
  go_wp2_with ((with_reducible refine store_term (o := ⟨none, .store _ _ _, _, _, _, _⟩) (.tmp 3) (.tmp 6) ⟨3, n, 0, 0, []⟩ (.slice none 0 0) _ (term_ones _ _ _ _) ?_ ?_ ?_ ?_ ?_ ?_); rfl; rfl; rfl; rfl; rfl)
  obtain ⟨W3, hW3⟩ : ∃ z, w2.alloc (.cells #[.int .i64 3, .int .i64 n, .int .i64 0, .int .i64 0, .slice none 0 0] 28) = z := ⟨_, rfl⟩
  have r3 : RowAt W3 w2.heap.size 28 #[.int .i64 3, .int .i64 n, .int .i64 0, .int .i64 0, .slice none 0 0] := by rw [← hW3]; exact RowAt.new w2 _ _
  have b3 : Below w2.heap.size w2 W3 := by rw [← hW3]; exact (Below.refl _ _).alloc (Nat.le_refl _) _
  have g3 := grown_below b3 (some b)
  rw [hW3, HM.out]
  rw [HM.out] at r3
  have HM3 := Lib.hid r3
  have HN3 := Lib.hid (HR2.out.grown g3 (by omega))
  have HH3 := Lib.hid (HH2.out.below b3 HH2.out.lt)
  have HG3 := Lib.hid (grown_trans HG2.out g3)
  have HK3 := Lib.hid (HK2.out.mono b3)
  clear hW3 r3 b3 g3
  go_wp2_with fail
  refine (HW.out _ HH3.out).mono ?_
  rintro e w4 ⟨rfl, h4, hg4⟩
  have HM4 := Lib.hid (HM3.out.grown hg4 (by omega))
  have HN4 := Lib.hid (HN3.out.grown hg4 (by omega))
  have HH4 := Lib.hid h4
  have HG4 := Lib.hid (grown_trans HG3.out hg4)
  have HK4 := Lib.hid (HK3.out.grown hg4 h9)
  clear h4 hg4
  go_wp2_with fail
  refine (HNU.out _ HH4.out HK4.out).mono ?_
  rintro e w5 ⟨rfl, h5, hg5⟩
  have HM5 := Lib.hid (HM4.out.grown hg5 (by omega))
  have HN5 := Lib.hid (HN4.out.grown hg5 (by omega))
  have HH5 := Lib.hid h5
  have HG5 := Lib.hid (grown_trans HG4.out hg5)
  have HK5 := Lib.hid (HK4.out.grown hg5 h9)
  clear h5 hg5
  have c52 : w5.cell? ⟨M, 2, none⟩ = some (.int .i64 0) := HM5.out.cell 2
  have f52 : w5.frozen? ⟨M, 2, none⟩ = false := HM5.out.free 2
  obtain ⟨W6, hW6⟩ : ∃ z, w5.setCell ⟨M, 2, none⟩ (.int .i64 m) = z := ⟨_, rfl⟩
  have HM6 : Hid (RowAt W6 M 28 #[.int .i64 3, .int .i64 n, .int .i64 m, .int .i64 0, .slice none 0 0]) := Lib.hid (by rw [← hW6]; exact HM5.out.set 2 _)
  have HN6 := Lib.hid (show RowAt W6 N 28 _ from by rw [← hW6]; exact HN5.out.far (p := ⟨M, 2, none⟩) (by show N ≠ M; omega) _)
  have HH6 : Hid (RdAt W6 b ⟨ws5, bad5⟩) := Lib.hid (by rw [← hW6]; exact HH5.out.cellFar (by omega))
  have HG6 : Hid (w.grownBy W6 (some b)) := Lib.hid (by rw [← hW6]; exact grown_cell HG5.out (by have := HN.out; omega))
  have HK6 : Hid (KAt W6) := Lib.hid (by rw [← hW6]; exact HK5.out.cellFar (by omega))
  have HW6 := Lib.hid hW6
  clear hW6
  go_upto_region 4 with fail
  rw [HW6.out]
  go_wp2_with (first | ((with_reducible refine load_trow (o := ⟨some 12, _, _, _, _, _⟩) (.tmp 3) M #[.int .i64 3, .int .i64 n, .int .i64 m, .int .i64 0, .slice none 0 0] HM6.out rfl ?_ ?_ ?_ ?_); rfl; rfl; rfl) | ((with_reducible refine store_trow (o := ⟨none, .store _ _ _, _, _, _, _⟩) (.tmp 2) (.tmp 12) N #[.int .i64 3, .int .i64 n, .int .i64 m, .int .i64 0, .slice none 0 0] _ HN6.out rfl rfl (term_ones _ _ _ _) ?_ ?_ ?_ ?_ ?_); rfl; rfl; rfl; rfl))
  refine bodyPost_ret (results_cell1 rfl _ _ N _ _ _ _ rfl (setRow_at HN6.out) Tryz.underlying28 rfl term_size) rfl ⟨.slice none 0 0, rfl, OwnI.nil _ _ _ _, HH6.out.rowFar hlt, grown_row HG6.out (by rw [HN.out]; exact Nat.le_refl _)⟩
end Go.Proofs.YtfiabonacpepnaaGreatDoor
namespace Go.Proofs.YtfiabonacpepnaaGreatDoor
open Go Go.RowKit Go.Lib Go.Shelf

set_option maxRecDepth 100000 in
set_option maxHeartbeats 8000000 in
theorem pass_any (b : Nat) (r : Rd) (w : World) (h : RdAt w b r) (hK : KAt w) :
    Calls Tryz.prog 89 #[.pointer (some ⟨b, 0, none⟩)] w (FormEnd w b (passV r)) := by
  have HP := Lib.hid (pct_any b r (w.alloc (.cells zC 28)) (h.alloc _) (hK.alloc _))
  have hlt := h.lt
  have h9 := h.hb
  have hr := RowAt.new w 28 zC
  obtain ⟨N, hN⟩ : ∃ z, w.heap.size = z := ⟨_, rfl⟩
  have HG := Lib.hid (grown_alloc w (.cells zC 28) (some b))
  have HKA := Lib.hid (hK.alloc (.cells zC 28))
  rw [hN] at hr hlt
  have HR := Lib.hid hr
  have HN := Lib.hid hN
  unfold zC at HP HR HG HKA
  unfold passV
  obtain ⟨n, r2, hp⟩ : ∃ n r2, r.pct = (n, r2) := ⟨_, _, rfl⟩
  rw [hp]
  rw [hp] at HP
  dsimp only at HP ⊢
  obtain ⟨r4, hr4⟩ : ∃ r4, r2.word kTo = r4 := ⟨_, rfl⟩
  rw [hr4]
  obtain ⟨m, ws5, bad5, hm5⟩ : ∃ m ws y, r4.number = (m, ⟨ws, y⟩) := ⟨_, _, _, rfl⟩
  rw [hm5]
  dsimp only
  have HW : Hid (∀ W, RdAt W b r2 → Calls Tryz.prog 138 #[.pointer (some ⟨b, 0, none⟩), .string ⟨#[116, 111]⟩] W fun e w' => e = .returned (.tuple #[]) ∧ RdAt w' b r4 ∧ W.grownBy w' (some b)) := Lib.hid (fun W hW => by rw [← hr4]; exact word_any b r2 kTo W hW)
  have HNU : Hid (∀ W, RdAt W b r4 → KAt W → Calls Tryz.prog 94 #[.pointer (some ⟨b, 0, none⟩)] W fun e w' => e = .returned (.int .i64 m) ∧ RdAt w' b ⟨ws5, bad5⟩ ∧ W.grownBy w' (some b)) := Lib.hid (fun W hW hk => by have := number_any b r4 W hW hk; rw [hm5] at this; exact this)
  obtain ⟨r7, hr7⟩ : ∃ z, (Rd.mk ws5 bad5).word kAbove = z := ⟨_, rfl⟩
  rw [hr7]
  obtain ⟨ab, ws8, bad8, hm8⟩ : ∃ m ws y, r7.number = (m, ⟨ws, y⟩) := ⟨_, _, _, rfl⟩
  rw [hm8]
  dsimp only
  have HW2 : Hid (∀ W, RdAt W b ⟨ws5, bad5⟩ → Calls Tryz.prog 138 #[.pointer (some ⟨b, 0, none⟩), .string ⟨#[97, 98, 111, 118, 101]⟩] W fun e w' => e = .returned (.tuple #[]) ∧ RdAt w' b r7 ∧ W.grownBy w' (some b)) := Lib.hid (fun W hW => by rw [← hr7]; exact word_any b ⟨ws5, bad5⟩ kAbove W hW)
  have HNU2 : Hid (∀ W, RdAt W b r7 → KAt W → Calls Tryz.prog 94 #[.pointer (some ⟨b, 0, none⟩)] W fun e w' => e = .returned (.int .i64 ab) ∧ RdAt w' b ⟨ws8, bad8⟩ ∧ W.grownBy w' (some b)) := Lib.hid (fun W hW hk => by have := number_any b r7 W hW hk; rw [hm8] at this; exact this)
  clear h hK hr hp hr4 hm5 hr7 hm8
  by_cases hws : ws5 = []
  · subst hws
    rw [if_pos rfl]
    go_enter Tryz.func89, Tryz.ntmps89
    go_wp2_with fail
    refine HP.out.mono ?_
    rintro e w2 ⟨rfl, h2, hg2⟩
    have HR2 := Lib.hid (HR.out.grown hg2 (by omega))
    have HH2 := Lib.hid h2
    have HG2 := Lib.hid (grown_trans HG.out hg2)
    have HK2 := Lib.hid (HKA.out.grown hg2 h9)
    have hN2 := HR2.out.lt
    clear h2 hg2
    obtain ⟨M, hM⟩ : ∃ z, w2.heap.size = z := ⟨_, rfl⟩
    have HM := Lib.hid hM
    rw [hM] at hN2
    clear hM
    go_wp2_with ((with_reducible refine store_term (o := ⟨none, .store _ _ _, _, _, _, _⟩) (.tmp 3) (.tmp 6) ⟨1, n, 0, 0, []⟩ (.slice none 0 0) _ (term_ones _ _ _ _) ?_ ?_ ?_ ?_ ?_ ?_); rfl; rfl; rfl; rfl; rfl)
    obtain ⟨W3, hW3⟩ : ∃ z, w2.alloc (.cells #[.int .i64 1, .int .i64 n, .int .i64 0, .int .i64 0, .slice none 0 0] 28) = z := ⟨_, rfl⟩
    have r3 : RowAt W3 w2.heap.size 28 #[.int .i64 1, .int .i64 n, .int .i64 0, .int .i64 0, .slice none 0 0] := by rw [← hW3]; exact RowAt.new w2 _ _
    have b3 : Below w2.heap.size w2 W3 := by rw [← hW3]; exact (Below.refl _ _).alloc (Nat.le_refl _) _
    have g3 := grown_below b3 (some b)
    rw [hW3, HM.out]
    rw [HM.out] at r3
    have HM3 := Lib.hid r3
    have HN3 := Lib.hid (HR2.out.grown g3 (by omega))
    have HH3 := Lib.hid (HH2.out.below b3 HH2.out.lt)
    have HG3 := Lib.hid (grown_trans HG2.out g3)
    have HK3 := Lib.hid (HK2.out.mono b3)
    clear hW3 r3 b3 g3
    go_wp2_with fail
    refine (HW.out _ HH3.out).mono ?_
    rintro e w4 ⟨rfl, h4, hg4⟩
    have HM4 := Lib.hid (HM3.out.grown hg4 (by omega))
    have HN4 := Lib.hid (HN3.out.grown hg4 (by omega))
    have HH4 := Lib.hid h4
    have HG4 := Lib.hid (grown_trans HG3.out hg4)
    have HK4 := Lib.hid (HK3.out.grown hg4 h9)
    clear h4 hg4
    go_wp2_with fail
    refine (HNU.out _ HH4.out HK4.out).mono ?_
    rintro e w5 ⟨rfl, h5, hg5⟩
    have HM5 := Lib.hid (HM4.out.grown hg5 (by omega))
    have HN5 := Lib.hid (HN4.out.grown hg5 (by omega))
    have HH5 := Lib.hid h5
    have HG5 := Lib.hid (grown_trans HG4.out hg5)
    have HK5 := Lib.hid (HK4.out.grown hg5 h9)
    clear h5 hg5
    have c52 : w5.cell? ⟨M, 2, none⟩ = some (.int .i64 0) := HM5.out.cell 2
    have f52 : w5.frozen? ⟨M, 2, none⟩ = false := HM5.out.free 2
    obtain ⟨W6, hW6⟩ : ∃ z, w5.setCell ⟨M, 2, none⟩ (.int .i64 m) = z := ⟨_, rfl⟩
    have HM6 : Hid (RowAt W6 M 28 #[.int .i64 1, .int .i64 n, .int .i64 m, .int .i64 0, .slice none 0 0]) := Lib.hid (by rw [← hW6]; exact HM5.out.set 2 _)
    have HN6 := Lib.hid (show RowAt W6 N 28 _ from by rw [← hW6]; exact HN5.out.far (p := ⟨M, 2, none⟩) (by show N ≠ M; omega) _)
    have HH6 : Hid (RdAt W6 b ⟨[], bad5⟩) := Lib.hid (by rw [← hW6]; exact HH5.out.cellFar (by omega))
    have HG6 : Hid (w.grownBy W6 (some b)) := Lib.hid (by rw [← hW6]; exact grown_cell HG5.out (by have := HN.out; omega))
    have HK6 : Hid (KAt W6) := Lib.hid (by rw [← hW6]; exact HK5.out.cellFar (by omega))
    have HW6 := Lib.hid hW6
    clear hW6
    go_upto_region 4 with fail
    rw [HW6.out]
    obtain ⟨A6, c6, hc6⟩ := HH6.out.wsCell
    dsimp only at hc6
    clear HW2 HNU2
    simp only [List.length_nil] at hc6
    go_wp2_with (first | ((with_reducible refine load_trow (o := ⟨some 35, _, _, _, _, _⟩) (.tmp 3) M #[.int .i64 1, .int .i64 n, .int .i64 m, .int .i64 0, .slice none 0 0] HM6.out rfl ?_ ?_ ?_ ?_); rfl; rfl; rfl) | ((with_reducible refine store_trow (o := ⟨none, .store _ _ _, _, _, _, _⟩) (.tmp 2) (.tmp 35) N #[.int .i64 1, .int .i64 n, .int .i64 m, .int .i64 0, .slice none 0 0] _ HN6.out rfl rfl (term_ones _ _ _ _) ?_ ?_ ?_ ?_ ?_); rfl; rfl; rfl; rfl))
    refine bodyPost_ret (results_cell1 rfl _ _ N _ _ _ _ rfl (setRow_at HN6.out) Tryz.underlying28 rfl term_size) rfl ⟨.slice none 0 0, rfl, OwnI.nil _ _ _ _, HH6.out.rowFar hlt, grown_row HG6.out (by rw [HN.out]; exact Nat.le_refl _)⟩
  · rw [if_neg hws]
    obtain ⟨L6, hL6⟩ : ∃ z, ws5.length = z := ⟨_, rfl⟩
    have hL1 : 0 < L6 := by rw [← hL6]; exact List.length_pos_iff.2 hws
    have HL6 := Lib.hid hL6
    have d0 : decide (0 < L6) = true := by simp; exact hL1
    clear hws hL6 hL1
    obtain ⟨z, hz⟩ : ∃ z, (bad8 || ab == 0) = z := ⟨_, rfl⟩
    rw [hz]
    have HZ := Lib.hid hz
    clear hz
    go_enter Tryz.func89, Tryz.ntmps89
    go_wp2_with fail
    refine HP.out.mono ?_
    rintro e w2 ⟨rfl, h2, hg2⟩
    have HR2 := Lib.hid (HR.out.grown hg2 (by omega))
    have HH2 := Lib.hid h2
    have HG2 := Lib.hid (grown_trans HG.out hg2)
    have HK2 := Lib.hid (HKA.out.grown hg2 h9)
    have hN2 := HR2.out.lt
    clear h2 hg2
    obtain ⟨M, hM⟩ : ∃ z, w2.heap.size = z := ⟨_, rfl⟩
    have HM := Lib.hid hM
    rw [hM] at hN2
    clear hM
    go_wp2_with ((with_reducible refine store_term (o := ⟨none, .store _ _ _, _, _, _, _⟩) (.tmp 3) (.tmp 6) ⟨1, n, 0, 0, []⟩ (.slice none 0 0) _ (term_ones _ _ _ _) ?_ ?_ ?_ ?_ ?_ ?_); rfl; rfl; rfl; rfl; rfl)
    obtain ⟨W3, hW3⟩ : ∃ z, w2.alloc (.cells #[.int .i64 1, .int .i64 n, .int .i64 0, .int .i64 0, .slice none 0 0] 28) = z := ⟨_, rfl⟩
    have r3 : RowAt W3 w2.heap.size 28 #[.int .i64 1, .int .i64 n, .int .i64 0, .int .i64 0, .slice none 0 0] := by rw [← hW3]; exact RowAt.new w2 _ _
    have b3 : Below w2.heap.size w2 W3 := by rw [← hW3]; exact (Below.refl _ _).alloc (Nat.le_refl _) _
    have g3 := grown_below b3 (some b)
    rw [hW3, HM.out]
    rw [HM.out] at r3
    have HM3 := Lib.hid r3
    have HN3 := Lib.hid (HR2.out.grown g3 (by omega))
    have HH3 := Lib.hid (HH2.out.below b3 HH2.out.lt)
    have HG3 := Lib.hid (grown_trans HG2.out g3)
    have HK3 := Lib.hid (HK2.out.mono b3)
    clear hW3 r3 b3 g3
    go_wp2_with fail
    refine (HW.out _ HH3.out).mono ?_
    rintro e w4 ⟨rfl, h4, hg4⟩
    have HM4 := Lib.hid (HM3.out.grown hg4 (by omega))
    have HN4 := Lib.hid (HN3.out.grown hg4 (by omega))
    have HH4 := Lib.hid h4
    have HG4 := Lib.hid (grown_trans HG3.out hg4)
    have HK4 := Lib.hid (HK3.out.grown hg4 h9)
    clear h4 hg4
    go_wp2_with fail
    refine (HNU.out _ HH4.out HK4.out).mono ?_
    rintro e w5 ⟨rfl, h5, hg5⟩
    have HM5 := Lib.hid (HM4.out.grown hg5 (by omega))
    have HN5 := Lib.hid (HN4.out.grown hg5 (by omega))
    have HH5 := Lib.hid h5
    have HG5 := Lib.hid (grown_trans HG4.out hg5)
    have HK5 := Lib.hid (HK4.out.grown hg5 h9)
    clear h5 hg5
    have c52 : w5.cell? ⟨M, 2, none⟩ = some (.int .i64 0) := HM5.out.cell 2
    have f52 : w5.frozen? ⟨M, 2, none⟩ = false := HM5.out.free 2
    obtain ⟨W6, hW6⟩ : ∃ z, w5.setCell ⟨M, 2, none⟩ (.int .i64 m) = z := ⟨_, rfl⟩
    have HM6 : Hid (RowAt W6 M 28 #[.int .i64 1, .int .i64 n, .int .i64 m, .int .i64 0, .slice none 0 0]) := Lib.hid (by rw [← hW6]; exact HM5.out.set 2 _)
    have HN6 := Lib.hid (show RowAt W6 N 28 _ from by rw [← hW6]; exact HN5.out.far (p := ⟨M, 2, none⟩) (by show N ≠ M; omega) _)
    have HH6 : Hid (RdAt W6 b ⟨ws5, bad5⟩) := Lib.hid (by rw [← hW6]; exact HH5.out.cellFar (by omega))
    have HG6 : Hid (w.grownBy W6 (some b)) := Lib.hid (by rw [← hW6]; exact grown_cell HG5.out (by have := HN.out; omega))
    have HK6 : Hid (KAt W6) := Lib.hid (by rw [← hW6]; exact HK5.out.cellFar (by omega))
    have HW6 := Lib.hid hW6
    clear hW6
    go_upto_region 4 with fail
    rw [HW6.out]
    obtain ⟨A6, c6, hc6⟩ := HH6.out.wsCell
    dsimp only at hc6
    rw [HL6.out] at hc6
    go_wp2_with fail
    refine (HW2.out _ HH6.out).mono ?_
    rintro e w7 ⟨rfl, h7, hg7⟩
    have HM7 := Lib.hid (HM6.out.grown hg7 (by omega))
    have HN7 := Lib.hid (HN6.out.grown hg7 (by omega))
    have HH7 := Lib.hid h7
    have HG7 := Lib.hid (grown_trans HG6.out hg7)
    have HK7 := Lib.hid (HK6.out.grown hg7 h9)
    clear h7 hg7 hc6
    go_wp2_with fail
    refine (HNU2.out _ HH7.out HK7.out).mono ?_
    rintro e w8 ⟨rfl, h8, hg8⟩
    have HM8 := Lib.hid (HM7.out.grown hg8 (by omega))
    have HN8 := Lib.hid (HN7.out.grown hg8 (by omega))
    have HH8 := Lib.hid h8
    have HG8 := Lib.hid (grown_trans HG7.out hg8)
    clear h8 hg8
    have c83 : w8.cell? ⟨M, 3, none⟩ = some (.int .i64 0) := HM8.out.cell 3
    have f83 : w8.frozen? ⟨M, 3, none⟩ = false := HM8.out.free 3
    have HM9 : Hid (RowAt (w8.setCell ⟨M, 3, none⟩ (.int .i64 ab)) M 28 #[.int .i64 1, .int .i64 n, .int .i64 m, .int .i64 ab, .slice none 0 0]) := Lib.hid (HM8.out.set 3 _)
    have HN9 := Lib.hid (show RowAt (w8.setCell ⟨M, 3, none⟩ (.int .i64 ab)) N 28 _ from HN8.out.far (p := ⟨M, 3, none⟩) (by show N ≠ M; omega) _)
    have HH9 : Hid (RdAt (w8.setCell ⟨M, 3, none⟩ (.int .i64 ab)) b ⟨ws8, bad8⟩) := Lib.hid (HH8.out.cellFar (by omega))
    have HG9 : Hid (w.grownBy (w8.setCell ⟨M, 3, none⟩ (.int .i64 ab)) (some b)) := Lib.hid (grown_cell HG8.out (by have := HN.out; omega))
    obtain ⟨c9, f9⟩ := HH9.out.badCell
    dsimp only at c9
    have c93 : (w8.setCell ⟨M, 3, none⟩ (.int .i64 ab)).cell? ⟨M, 3, none⟩ = some (.int .i64 ab) := HM9.out.cell 3
    have HMX := Lib.hid (show RowAt ((w8.setCell ⟨M, 3, none⟩ (.int .i64 ab)).setCell ⟨b, 1, none⟩ (.bool z)) M 28 _ from HM9.out.far (p := ⟨b, 1, none⟩) (by show M ≠ b; omega) _)
    have HNX := Lib.hid (show RowAt ((w8.setCell ⟨M, 3, none⟩ (.int .i64 ab)).setCell ⟨b, 1, none⟩ (.bool z)) N 28 _ from HN9.out.far (p := ⟨b, 1, none⟩) (by show N ≠ b; omega) _)
    have HHX : Hid (RdAt ((w8.setCell ⟨M, 3, none⟩ (.int .i64 ab)).setCell ⟨b, 1, none⟩ (.bool z)) b ⟨ws8, z⟩) := Lib.hid (HH9.out.setBad _)
    have HGX : Hid (w.grownBy ((w8.setCell ⟨M, 3, none⟩ (.int .i64 ab)).setCell ⟨b, 1, none⟩ (.bool z)) (some b)) := Lib.hid (grown_trans HG9.out (grown_set _))
    have hz := HZ.out
    cases bad8
    · have hq : (ab == 0) = z := by rw [← hz]; rfl
      clear hz
      go_wp2_with (first | ((with_reducible refine load_trow (o := ⟨some 35, _, _, _, _, _⟩) (.tmp 3) M #[.int .i64 1, .int .i64 n, .int .i64 m, .int .i64 ab, .slice none 0 0] HMX.out rfl ?_ ?_ ?_ ?_); rfl; rfl; rfl) | ((with_reducible refine store_trow (o := ⟨none, .store _ _ _, _, _, _, _⟩) (.tmp 2) (.tmp 35) N #[.int .i64 1, .int .i64 n, .int .i64 m, .int .i64 ab, .slice none 0 0] _ HNX.out rfl rfl (term_ones _ _ _ _) ?_ ?_ ?_ ?_ ?_); rfl; rfl; rfl; rfl))
      refine bodyPost_ret (results_cell1 rfl _ _ N _ _ _ _ rfl (setRow_at HNX.out) Tryz.underlying28 rfl term_size) rfl ⟨.slice none 0 0, rfl, OwnI.nil _ _ _ _, HHX.out.rowFar hlt, grown_row HGX.out (by rw [HN.out]; exact Nat.le_refl _)⟩
    · have hq : true = z := by rw [← hz]; rfl
      subst hq
      clear hz
      go_wp2_with (first | ((with_reducible refine load_trow (o := ⟨some 35, _, _, _, _, _⟩) (.tmp 3) M #[.int .i64 1, .int .i64 n, .int .i64 m, .int .i64 ab, .slice none 0 0] HMX.out rfl ?_ ?_ ?_ ?_); rfl; rfl; rfl) | ((with_reducible refine store_trow (o := ⟨none, .store _ _ _, _, _, _, _⟩) (.tmp 2) (.tmp 35) N #[.int .i64 1, .int .i64 n, .int .i64 m, .int .i64 ab, .slice none 0 0] _ HNX.out rfl rfl (term_ones _ _ _ _) ?_ ?_ ?_ ?_ ?_); rfl; rfl; rfl; rfl))
      refine bodyPost_ret (results_cell1 rfl _ _ N _ _ _ _ rfl (setRow_at HNX.out) Tryz.underlying28 rfl term_size) rfl ⟨.slice none 0 0, rfl, OwnI.nil _ _ _ _, HHX.out.rowFar hlt, grown_row HGX.out (by rw [HN.out]; exact Nat.le_refl _)⟩
end Go.Proofs.YtfiabonacpepnaaGreatDoor
