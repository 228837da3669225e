/- WireUnique: the walk of the statement. -/
import Derived.Test.YtmakkfgdpdbcnaaDoorWireS
import Derived.Test.YtmakkfgdpdbcnaaDoorWireB
import Derived.Test.YtmakkfgdpdbcnaaDoorBaseB
import Derived.BigRegion
namespace Go.Proofs.YtmakkfgdpdbcnaaDoor
open Go Go.RowKit

/-- what Int accepts is what PutInt writes -/
theorem int_unique (l : List UInt8) (k : Nat) (hk : k ≤ l.length) :
    intSpec l k = (0, 0, 10) ∨ ∃ (n : Int) (e : List UInt8), intSpec l k = (n, ((k + e.length : Nat) : Int), 0) ∧ putSpec n = (e, 0) ∧ (l.drop k).take e.length = e ∧ k + e.length ≤ l.length ∧ -4611686018427387903 ≤ n ∧ n ≤ 4611686018427387903 ∧ e.length ≤ 9 := by
  have h0 : intSpec l k = intOk l k := by unfold intSpec; rw [if_neg (by omega)]; simp
  rw [h0]
  unfold intOk
  cases hd : WireP.dec (l.drop k) with
  | none => exact Or.inl rfl
  | some r =>
    obtain ⟨n, m⟩ := r
    obtain ⟨b1, b2, b3, b4, _, b5, b6⟩ := WireP.dec_some hd
    rw [List.length_drop] at b6
    exact Or.inr ⟨n, _, by rw [b3], by unfold putSpec; rw [if_neg (by omega)], by rw [← b3]; exact b4, by omega, b1, b2, by omega⟩
theorem str_unique (l : List UInt8) (k : Nat) (hk : k ≤ l.length) :
    strSpec l k = ([], 0, 10) ∨ ∃ (v e : List UInt8), strSpec l k = (v, ((k + e.length : Nat) : Int), 0) ∧ putStrSpec v = (e, 0) ∧ (l.drop k).take e.length = e ∧ k + e.length ≤ l.length := by
  unfold strSpec
  rcases int_unique l k hk with h | ⟨n, e, h, hp, ht, hl, b1, b2, b3⟩
  · rw [h]; exact Or.inl rfl
  · rw [h]
    dsimp only
    rw [if_neg (by simp)]
    by_cases hb : n < 0 ∨ 65536 < n ∨ (l.length : Int) - ((k + e.length : Nat) : Int) < n
    · rw [if_pos hb]; exact Or.inl rfl
    · rw [if_neg hb]
      obtain ⟨m, rfl⟩ : ∃ m : Nat, n = (m : Int) := ⟨n.toNat, by omega⟩
      have hv : ((l.drop (k + e.length)).take m).length = m := by rw [List.length_take, List.length_drop]; omega
      refine Or.inr ⟨(l.drop (k + e.length)).take m, e ++ (l.drop (k + e.length)).take m, ?_, ?_, ?_, ?_⟩
      · rw [Int.toNat_natCast, Int.toNat_natCast, List.length_append, hv]; simp [Int.add_assoc]
      · unfold putStrSpec
        have he : putSpec (m : Int) = (WireP.enc (WireP.zz m), 0) := by unfold putSpec; rw [if_neg (by omega)]
        rw [he] at hp
        rw [if_neg (by omega), hv]
        simp at hp
        rw [hp]
      · have e1 : (l.drop k).take (e.length + m) = (l.drop k).take e.length ++ ((l.drop k).drop e.length).take m := List.take_add
        rw [List.length_append, hv, e1, ht, List.drop_drop]
      · rw [List.length_append, hv]; omega

/-- string([]byte{b}) -/
theorem run_one_byte (P : Program) (src dst e : TypeId) (hs : P.underlying src = some (.slice e)) (he : P.underlying e = some (.int .u8)) (hd : P.underlying dst = some .string) (b : UInt8) :
    ∀ (wx : World) (a : Addr), wx.cell? a = some (.int .u8 (b.toNat : Int)) → (convert src dst (.slice (some a) 1 1)).run P wx = .ok (.string ⟨#[b]⟩) wx := fun wx a h =>
  run_string_of_row wx src dst e a 1 1 [b] hs he hd rfl (fun j u hj => by
    match j, hj with
    | 0, hj => simp [u8s] at hj; subst hj; simpa [Addr.add] using h)

set_option maxRecDepth 100000 in
set_option maxHeartbeats 2000000 in
theorem unique_walk (s : ByteArray) (at_ : Int) (first : UInt8) (w : World) (hT : NibAt w) (hw : 0 < w.heap.size) (h1 : -9223372036854775808 ≤ at_) (h2 : at_ ≤ 9223372036854775807) :
    Calls Tryd.prog 5 #[.string s, .int .i64 at_, .int .u8 (first.toNat : Int)] w fun e w' => e = .returned (.bool true) ∧ Below w.heap.size w w' := by
  have HT := Lib.hid hT; clear hT
  obtain ⟨mp, P, lp1, lp2, zp, xp, dp, np⟩ := cut_ex s 300 300 rfl
  have zp' : P.size ≤ 300 := by omega
  clear zp dp
  obtain ⟨T, hTT⟩ : ∃ T : ByteArray, (ByteArray.mk #[first]) ++ P = T := ⟨_, rfl⟩
  have zT : T.size = P.size + 1 := by rw [← hTT, ByteArray.size_append]; show 1 + P.size = P.size + 1; omega
  have hcv := run_one_byte Tryd.prog 38 9 5 Tryd.underlying38 Tryd.underlying5 Tryd.underlying9 first
  have bk := pickN_bd at_ ((T.size : Int) + 1) (by omega)
  have PK := pick_any at_ ((T.size : Int) + 1)
  obtain ⟨k1, ek⟩ : ∃ j : Nat, pickN at_ ((T.size : Int) + 1) = (j : Int) := ⟨(pickN at_ ((T.size : Int) + 1)).toNat, by omega⟩
  rw [ek] at bk PK
  clear ek
  have HPK := Lib.hid PK; clear PK
  have zT1 : T.size ≤ 301 := by omega
  have zT2 : 1 ≤ T.size := by omega
  clear zT
  have hfl := first.toNat_lt
  go_enter Tryd.func5, Tryd.ntmps5
  go_wp2_with fail
  refine (sane_any _ HT.out hw).mono ?_
  rintro e w1 ⟨rfl, hb1⟩
  have HB1 := Lib.hid hb1; clear hb1
  go_wp2_with fail
  go_region
  go_wp2_with fail
  refine (HPK.out _ h1 h2 (by omega) (by omega)).mono ?_
  rintro e w' ⟨rfl, rfl⟩
  go_wp2_with fail
  obtain ⟨W0, hW0⟩ : ∃ W0, ((w1.alloc (Obj.cells #[Value.int IntKind.u8 (first.toNat : Int)] 5)).alloc (Obj.cells #[Value.int IntKind.i64 0, Value.int IntKind.i64 (k1 : Int)] 3)).drew = W0 := ⟨_, rfl⟩
  have hcell : Hid (∀ i, i < 2 → ∃ κ : Nat, κ ≤ T.size ∧ W0.cell? ⟨w1.heap.size + 1, i, none⟩ = some (.int .i64 (κ : Int))) := Lib.hid (by
    intro i hi
    rw [← hW0]
    match i, hi with
    | 0, _ => exact ⟨0, by omega, by simp⟩
    | 1, _ => exact ⟨k1, by omega, by simp⟩)
  have HBw : Hid (Below w.heap.size w W0) := Lib.hid (by
    rw [← hW0]
    exact ((HB1.out.alloc HB1.out.size _).alloc (by have := HB1.out.size; simp; omega) _).drew)
  have hsz0 : w1.heap.size + 2 ≤ W0.heap.size := by rw [← hW0]; simp
  have hsz1 : w.heap.size ≤ w1.heap.size := HB1.out.size
  rw [hW0]
  clear hW0 hcv hTT xp np
  go_loopw [38] (fun i wr => ∃ n : Nat, n ≤ 2 ∧ i = .int .i64 n ∧ Hid (Below (w1.heap.size + 2) W0 wr)) (fun i _ => 2 - (intOf i).toNat)
  case atStart => exact ⟨0, by omega, rfl, Lib.hid (Below.refl _ _)⟩
  case round =>
    obtain ⟨i, hi, rfl, hbr⟩ := hrel
    by_cases hlt : i < 2
    · obtain ⟨κ, hκ, hc⟩ := hcell.out i hlt
      have hc' : wr.cell? ⟨w1.heap.size + 1, i, none⟩ = some (.int .i64 (κ : Int)) := (hbr.out.cell (p := ⟨w1.heap.size + 1, i, none⟩) (by simp)).trans hc
      clear hc
      go_wp2_with fail
      have II := int_any T (κ : Int)
      rcases int_unique T.data.toList κ (by simpa using hκ) with hs1 | ⟨n, e1, hs1, hp1, ht1, hl1, g1, g2, g3⟩
      · rw [hs1] at II
        refine (II _ (by omega) (by omega) (by omega)).mono ?_
        rintro e w' ⟨rfl, rfl⟩
        unfold V3; dsimp only
        clear II hs1
        go_wp2_with fail
        refine (putInt_any 0 _ (by omega) (by omega)).mono ?_
        rintro e w3 ⟨rfl, hb3⟩
        have HB3 := Lib.hid (hbr.out.trans (hb3.mono (Nat.le_trans hsz0 hbr.out.size))); clear hb3
        rw [show putSpec 0 = ([0], 0) from by decide]
        unfold V2s; dsimp only
        clear hc'
        go_wp2_with fail
        have IS := string_any T (κ : Int)
        rcases str_unique T.data.toList κ (by simpa using hκ) with hs2 | ⟨v, e2, hs2, hp2, ht2, hl2⟩
        · rw [hs2] at IS
          refine (IS _ (by omega) (by omega) (by omega)).mono ?_
          rintro e w' ⟨rfl, rfl⟩
          unfold V3s; dsimp only
          clear IS hs2
          go_wp2_with fail
          refine (putString_any ⟨#[]⟩ _ (by simp [ByteArray.size])).mono ?_
          rintro e w5 ⟨rfl, hb5⟩
          have HB5 := Lib.hid (HB3.out.trans (hb5.mono (Nat.le_trans hsz0 HB3.out.size))); clear hb5
          rw [show putStrSpec (ByteArray.mk #[]).data.toList = ([0], 0) from by decide]
          unfold V2s; dsimp only
          go_wp2_with fail
          go_roundw
          case rel => exact ⟨i + 1, by omega, by go_num, HB5⟩
          case measure => simp [intOf]; omega
        · rw [hs2] at IS
          refine (IS _ (by omega) (by omega) (by omega)).mono ?_
          rintro e w' ⟨rfl, rfl⟩
          unfold V3s; dsimp only
          have hl2' : κ + e2.length ≤ T.size := by simpa using hl2
          have hsl2 : ∀ wx, (Instr.slice 9 (.string T) (some (.int .i64 (κ : Int))) (some (.int .i64 ((κ : Int) + (e2.length : Int)))) none).run Tryd.prog wx = .ok (.string ⟨e2.toArray⟩) wx := fun wx => by
            have := run_slice_string (P := Tryd.prog) (w := wx) 9 T .i64 .i64 (κ : Int) ((κ : Int) + (e2.length : Int)) Tryd.underlying9 (by omega) (by omega) (by omega)
            rw [this, Int.toNat_natCast, show ((κ : Int) + (e2.length : Int)).toNat = κ + e2.length by omega, extract_list, ht2]
          have hvl : v.length ≤ 140737488351232 := by
            unfold putStrSpec at hp2
            split at hp2
            · simp at hp2
            · omega
          have PS := putString_any ⟨v.toArray⟩
          rw [show (ByteArray.mk v.toArray).data.toList = v by simp, hp2] at PS
          rw [Int.natCast_add]
          clear IS hs2 hl2 ht2 hp2
          have HPS := Lib.hid PS; clear PS
          go_wp2_with fail
          refine (HPS.out _ (by simpa [ByteArray.size] using hvl)).mono ?_
          rintro e w5 ⟨rfl, hb5⟩
          have HB5 := Lib.hid (HB3.out.trans (hb5.mono (Nat.le_trans hsz0 HB3.out.size))); clear hb5
          unfold V2s; dsimp only
          go_wp2_with fail
          go_roundw
          case rel => exact ⟨i + 1, by omega, by go_num, HB5⟩
          case measure => simp [intOf]; omega
      · rw [hs1] at II
        refine (II _ (by omega) (by omega) (by omega)).mono ?_
        rintro e w' ⟨rfl, rfl⟩
        unfold V3; dsimp only
        have hl1' : κ + e1.length ≤ T.size := by simpa using hl1
        have hsl1 : ∀ wx, (Instr.slice 9 (.string T) (some (.int .i64 (κ : Int))) (some (.int .i64 ((κ : Int) + (e1.length : Int)))) none).run Tryd.prog wx = .ok (.string ⟨e1.toArray⟩) wx := fun wx => by
          have := run_slice_string (P := Tryd.prog) (w := wx) 9 T .i64 .i64 (κ : Int) ((κ : Int) + (e1.length : Int)) Tryd.underlying9 (by omega) (by omega) (by omega)
          rw [this, Int.toNat_natCast, show ((κ : Int) + (e1.length : Int)).toNat = κ + e1.length by omega, extract_list, ht1]
        have PI := putInt_any n
        rw [hp1] at PI
        rw [Int.natCast_add]
        clear II hs1 hl1 ht1 hp1
        have HPI := Lib.hid PI; clear PI
        go_wp2_with fail
        refine (HPI.out _ (by omega) (by omega)).mono ?_
        rintro e w3 ⟨rfl, hb3⟩
        have HB3 := Lib.hid (hbr.out.trans (hb3.mono (Nat.le_trans hsz0 hbr.out.size))); clear hb3
        unfold V2s; dsimp only
        clear hc'
        go_wp2_with fail
        have IS := string_any T (κ : Int)
        rcases str_unique T.data.toList κ (by simpa using hκ) with hs2 | ⟨v, e2, hs2, hp2, ht2, hl2⟩
        · rw [hs2] at IS
          refine (IS _ (by omega) (by omega) (by omega)).mono ?_
          rintro e w' ⟨rfl, rfl⟩
          unfold V3s; dsimp only
          clear IS hs2
          go_wp2_with fail
          refine (putString_any ⟨#[]⟩ _ (by simp [ByteArray.size])).mono ?_
          rintro e w5 ⟨rfl, hb5⟩
          have HB5 := Lib.hid (HB3.out.trans (hb5.mono (Nat.le_trans hsz0 HB3.out.size))); clear hb5
          rw [show putStrSpec (ByteArray.mk #[]).data.toList = ([0], 0) from by decide]
          unfold V2s; dsimp only
          go_wp2_with fail
          go_roundw
          case rel => exact ⟨i + 1, by omega, by go_num, HB5⟩
          case measure => simp [intOf]; omega
        · rw [hs2] at IS
          refine (IS _ (by omega) (by omega) (by omega)).mono ?_
          rintro e w' ⟨rfl, rfl⟩
          unfold V3s; dsimp only
          have hl2' : κ + e2.length ≤ T.size := by simpa using hl2
          have hsl2 : ∀ wx, (Instr.slice 9 (.string T) (some (.int .i64 (κ : Int))) (some (.int .i64 ((κ : Int) + (e2.length : Int)))) none).run Tryd.prog wx = .ok (.string ⟨e2.toArray⟩) wx := fun wx => by
            have := run_slice_string (P := Tryd.prog) (w := wx) 9 T .i64 .i64 (κ : Int) ((κ : Int) + (e2.length : Int)) Tryd.underlying9 (by omega) (by omega) (by omega)
            rw [this, Int.toNat_natCast, show ((κ : Int) + (e2.length : Int)).toNat = κ + e2.length by omega, extract_list, ht2]
          have hvl : v.length ≤ 140737488351232 := by
            unfold putStrSpec at hp2
            split at hp2
            · simp at hp2
            · omega
          have PS := putString_any ⟨v.toArray⟩
          rw [show (ByteArray.mk v.toArray).data.toList = v by simp, hp2] at PS
          rw [Int.natCast_add]
          clear IS hs2 hl2 ht2 hp2
          have HPS := Lib.hid PS; clear PS
          go_wp2_with fail
          refine (HPS.out _ (by simpa [ByteArray.size] using hvl)).mono ?_
          rintro e w5 ⟨rfl, hb5⟩
          have HB5 := Lib.hid (HB3.out.trans (hb5.mono (Nat.le_trans hsz0 HB3.out.size))); clear hb5
          unfold V2s; dsimp only
          go_wp2_with fail
          go_roundw
          case rel => exact ⟨i + 1, by omega, by go_num, HB5⟩
          case measure => simp [intOf]; omega
    · go_wp2_with fail
      go_ret
      exact ⟨rfl, HBw.out.trans (hbr.out.mono (by omega))⟩
end Go.Proofs.YtmakkfgdpdbcnaaDoor
