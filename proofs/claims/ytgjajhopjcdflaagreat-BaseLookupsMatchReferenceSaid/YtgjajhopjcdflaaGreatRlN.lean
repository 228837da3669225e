/- BaseLookupsMatchReference: the walk (printed by gen_rln.py). -/
import Derived.Test.YtgjajhopjcdflaaGreatRlD
import Derived.Test.YtgjajhopjcdflaaGreatRfO
import Derived.Test.YtgjajhopjcdflaaGreatFlG2
import Derived.Test.YtgjajhopjcdflaaGreatFlE
namespace Go.Proofs.YtgjajhopjcdflaaGreat
open Go Go.RowKit Go.Lib Go.Shelf Go.Maps

abbrev zf18 : Array Value := #[.int .i64 0, .int .i64 0, .int .i64 0, .int .i64 0, .int .i64 0, .int .i64 0, .int .i64 0, .int .i64 0, .int .i64 0, .int .i64 0, .int .i64 0, .int .i64 0, .int .i64 0, .int .i64 0, .int .i64 0, .int .i64 0, .int .i64 0, .string ⟨#[]⟩]
/-- the base whose lists are one list -/
def mixL (L : List FactV) (q : Nat) : List FactV := if q = 4 ∨ q = 5 ∨ q = 7 then [] else L
theorem mix_base {w : World} {v : Value} {L : List FactV} (h : FactsAt w v L) : BaseR w #[v, v, v, v, .slice none 0 0, .slice none 0 0, v, .slice none 0 0, v, v] (mixL L) := by
  refine ⟨rfl, fun q hq => ?_⟩
  have hn : FactsAt w (.slice none 0 0) [] := .inl ⟨rfl, none, 0, rfl⟩
  rcases (by omega : q = 0 ∨ q = 1 ∨ q = 2 ∨ q = 3 ∨ q = 4 ∨ q = 5 ∨ q = 6 ∨ q = 7 ∨ q = 8 ∨ q = 9) with rfl | rfl | rfl | rfl | rfl | rfl | rfl | rfl | rfl | rfl
  all_goals first | exact ⟨_, rfl, h⟩ | exact ⟨_, rfl, hn⟩
set_option linter.unusedSimpArgs false in
set_option maxRecDepth 100000 in
set_option maxHeartbeats 40000000 in
theorem lookups_yes (X1 : Nat → Nat → Int) (m : Nat) (n p : Int) (mixed : Bool) (vx : Value) (w : World) (hm : m ≤ 140737488351232) (hx : XsAt w vx m X1) (hn1 : -9223372036854775808 ≤ n) (hn2 : n ≤ 9223372036854775807) (hp1 : -9223372036854775808 ≤ p) (hp2 : p ≤ 9223372036854775807) :
    Calls Tryz.prog 4 #[vx, .int .i64 n, .int .i64 p, .bool mixed] w fun e w' => e = .returned (.bool true) ∧ Below w.heap.size w w' := by
  obtain ⟨L, hL⟩ : ∃ z, factsL X1 [] (min m 50) = z := ⟨_, rfl⟩
  have HLL : Hid (L.length ≤ 100) := Lib.hid (by have := factsL_len X1 [] (min m 50); rw [hL] at this; omega)
  have HLG : Hid (∀ f ∈ L, FactOk f ∧ Canon f) := Lib.hid (by rw [← hL]; exact factsL_good X1 [] (by simp) _)
  have HFX : Hid (∀ W, Below w.heap.size w W → Calls Tryz.prog 6 #[vx, .slice none 0 0] W fun e w' => ∃ v, e = .returned v ∧ OwnF w' W.heap.size v L ∧ Below W.heap.size W w') := Lib.hid (fun W hb => by
    have h := facts_any X1 [] m vx (.slice none 0 0) W hm (hx.more hb) (.inl ⟨rfl, none, 0, rfl⟩)
    rw [hL] at h
    exact h)
  have HNP := Lib.hid (And.intro (And.intro hn1 hn2) (And.intro hp1 hp2))
  clear hm hx hL hn1 hn2 hp1 hp2
  go_enter Tryz.func4, Tryz.ntmps4
  go_wp2_with fail
  refine (sane_yes _).mono ?_
  rintro e W1 ⟨rfl, hb1⟩
  have HB1 := Lib.hid hb1
  clear hb1
  go_wp2_with fail
  refine (HFX.out W1 HB1.out).mono ?_
  rintro e W2 ⟨v8, rfl, ho8, hb2⟩
  have H2 : Hid (FactsAt W2 v8 L ∧ Below w.heap.size w W2) := Lib.hid ⟨ho8.facts, HB1.out.trans (hb2.mono HB1.out.size)⟩
  obtain ⟨A8, m8, c8, rfl⟩ := own_slice ho8
  clear ho8 hb2
  go_wp2_with fail
  refine (rof_any L _ W2 (by have := HLL.out; omega) HLG.out H2.out.1).mono ?_
  rintro e W3 ⟨ba, rfl, hr3, hb3⟩
  have HIA : Hid ((Tryz.prog.info? 27).map (·.size) = some ba.size ∧ zb10.size = ba.size ∧ ba.all (·.oneCell') = true) := Lib.hid ⟨by rw [hr3.size]; exact base_size, by rw [hr3.size]; rfl, hr3.one⟩
  obtain ⟨N11, hN11⟩ : ∃ z, W3.heap.size = z := ⟨_, rfl⟩
  obtain ⟨W4, hW4⟩ : ∃ z, W3.alloc (.cells ba 27) = z := ⟨_, rfl⟩
  have hr4 := RowAt.new W3 27 ba
  have hb4 := (Below.refl W3.heap.size W3).alloc (Nat.le_refl _) (.cells ba 27)
  rw [hW4] at hr4 hb4
  rw [hN11] at hr4
  have hw3 : Below w.heap.size w W3 := H2.out.2.trans (hb3.mono H2.out.2.size)
  have H4 : Hid (RowAt W4 N11 27 ba ∧ BaseR W4 ba (refL L) ∧ Below w.heap.size w W4 ∧ FactsAt W4 (.slice A8 m8 c8) L ∧ w.heap.size ≤ N11) := Lib.hid ⟨hr4, hr3.more hb4, hw3.trans (hb4.mono hw3.size), (H2.out.1.more hb3).more hb4, by rw [← hN11]; exact hw3.size⟩
  have H24 : Hid (Below W2.heap.size W2 W4 ∧ W2.heap.size ≤ N11) := Lib.hid ⟨hb3.trans (hb4.mono hb3.size), by rw [← hN11]; exact hb3.size⟩
  have HW4 := Lib.hid (And.intro hW4 hN11)
  clear hr3 hb3 hr4 hb4 hw3 hW4 hN11
  go_upto_if 40 with (first | ((with_reducible refine store_nbase (o := ⟨none, _, _, _, _, _⟩) (.tmp 11) (.tmp 39) W3.heap.size rfl _ ba HIA.out.1 HIA.out.2.2 HIA.out.2.1 ?_ ?_ ?_ ?_ ?_); rfl; rfl; rfl; rfl))
  rw [HW4.out.1, HW4.out.2]
  try simp only [Act.put, sa, s0, s1]
  go_cut [] from 41 to 48 (fun wx => ∃ (bs : Array Value) (LA : Nat → List FactV), Hid (RowAt wx N11 27 bs ∧ BaseR wx bs LA ∧ (∀ q, (LA q).length ≤ 100) ∧ Below w.heap.size w wx))
  case first =>
    cases mixed
    · go_wp2_with fail
      go_meet
      case rel => exact ⟨ba, refL L, Lib.hid ⟨H4.out.1, H4.out.2.1, fun q => Nat.le_trans (refL_len L q) HLL.out, H4.out.2.2.1⟩⟩
    · have HM2 : Hid (BaseR W4 #[.slice A8 m8 c8, .slice A8 m8 c8, .slice A8 m8 c8, .slice A8 m8 c8, .slice none 0 0, .slice none 0 0, .slice A8 m8 c8, .slice none 0 0, .slice A8 m8 c8, .slice A8 m8 c8] (mixL L)) := Lib.hid (mix_base H4.out.2.2.2.1)
      have HM3 : Hid ((Tryz.prog.info? 27).map (·.size) = some (#[.slice A8 m8 c8, .slice A8 m8 c8, .slice A8 m8 c8, .slice A8 m8 c8, .slice none 0 0, .slice none 0 0, .slice A8 m8 c8, .slice none 0 0, .slice A8 m8 c8, .slice A8 m8 c8] : Array Value).size ∧ ba.size = (#[.slice A8 m8 c8, .slice A8 m8 c8, .slice A8 m8 c8, .slice A8 m8 c8, .slice none 0 0, .slice none 0 0, .slice A8 m8 c8, .slice none 0 0, .slice A8 m8 c8, .slice A8 m8 c8] : Array Value).size ∧ (#[.slice A8 m8 c8, .slice A8 m8 c8, .slice A8 m8 c8, .slice A8 m8 c8, .slice none 0 0, .slice none 0 0, .slice A8 m8 c8, .slice none 0 0, .slice A8 m8 c8, .slice A8 m8 c8] : Array Value).all (·.oneCell') = true) := Lib.hid ⟨base_size, by rw [← HIA.out.2.1]; rfl, HM2.out.one⟩
      go_wp2_with (first | ((with_reducible refine store_base (o := ⟨none, _, _, _, _, _⟩) (.tmp 11) (.tmp 48) N11 #[.slice A8 m8 c8, .slice A8 m8 c8, .slice A8 m8 c8, .slice A8 m8 c8, .slice none 0 0, .slice none 0 0, .slice A8 m8 c8, .slice none 0 0, .slice A8 m8 c8, .slice A8 m8 c8] ba H4.out.1 HM3.out.1 HM3.out.2.1 HM3.out.2.2 ?_ ?_ ?_ ?_ ?_); rfl; rfl; rfl; rfl))
      go_meet
      case rel => exact ⟨_, mixL L, Lib.hid ⟨setRow_at H4.out.1, mix_base (H2.out.1.more (below_setR H24.out.1 H24.out.2)), fun q => by unfold mixL; split; simp; exact HLL.out, below_setR H4.out.2.2.1 H4.out.2.2.2.2⟩⟩
  case rest =>
    obtain ⟨bs, LA, HX0⟩ := hcut
    have HBI : Hid ((Tryz.prog.info? 27).map (·.size) = some bs.size) := Lib.hid (by rw [HX0.out.2.1.size]; exact base_size)
    clear HFX HLG H2 HIA H4 HW4 HLL H24
    obtain ⟨r, hr⟩ : ∃ z, pickN p 6 = z := ⟨_, rfl⟩
    have hrb : 0 ≤ r ∧ r < 6 := by rw [← hr]; exact pickN_bd p 6 (by decide)
    have HPK := Lib.hid (fun W => pick_any p 6 W HNP.out.2.1 HNP.out.2.2 (by decide) (by decide))
    rw [hr] at HPK
    obtain ⟨s, hs⟩ : ∃ z, pickN n 6 = z := ⟨_, rfl⟩
    have HPN := Lib.hid (fun W => pick_any n 6 W HNP.out.1.1 HNP.out.1.2 (by decide) (by decide))
    rw [hs] at HPN
    obtain ⟨NB, hNB⟩ : ∃ z, wc.heap.size = z := ⟨_, rfl⟩
    obtain ⟨X0, hX0⟩ : ∃ z, wc.alloc (.cells #[.int .i64 p, .int .i64 (r - 1)] 3) = z := ⟨_, rfl⟩
    have HRQ : Hid (RowAt X0 NB 3 #[.int .i64 p, .int .i64 (r - 1)]) := Lib.hid (by rw [← hX0, ← hNB]; exact RowAt.new _ _ _)
    have HB0 : Hid (Below wc.heap.size wc X0) := Lib.hid (by rw [← hX0]; exact (Below.refl _ _).alloc (Nat.le_refl _) _)
    have HX : Hid (RowAt X0 N11 27 bs ∧ BaseR X0 bs LA ∧ (∀ q, (LA q).length ≤ 100) ∧ Below w.heap.size w X0) := Lib.hid ⟨HX0.out.1.below HB0.out HX0.out.1.lt, HX0.out.2.1.more HB0.out, HX0.out.2.2.1, HX0.out.2.2.2.trans (HB0.out.mono HX0.out.2.2.2.size)⟩
    have HN0 := Lib.hid (And.intro hX0 hNB)
    have hrb0 := hrb.1
    have hrb1 := hrb.2
    clear hr hs hX0 hNB hrb
    go_wp2_with fail
    refine (HPK.out _).mono ?_
    rintro e w5 ⟨rfl, rfl⟩
    go_wp2_with fail
    rw [HN0.out.1, HN0.out.2]
    go_loopw [55] (fun iv wr => ∃ i : Nat, iv = .int .i64 i ∧ i ≤ 2 ∧ Hid (Below X0.heap.size X0 wr)) (fun iv _ => 2 - (RowKit.intOf iv).toNat)
    case atStart => exact ⟨0, rfl, by omega, Lib.hid (Below.refl _ _)⟩
    case round =>
      obtain ⟨i, rfl, hi, HBi⟩ := hrel
      by_cases hi2 : i < 2
      · have hid : decide ((i : Int) < 2) = true := by simp; omega
        obtain ⟨q, hq1, hq2, hcq⟩ : ∃ q : Int, -9223372036854775808 ≤ q ∧ q ≤ 9223372036854775807 ∧ X0.cell? ⟨NB, i, none⟩ = some (.int .i64 q) := by
          rcases (by omega : i = 0 ∨ i = 1) with rfl | rfl
          · exact ⟨p, HNP.out.2.1, HNP.out.2.2, HRQ.out.cell 0⟩
          · exact ⟨r - 1, by omega, by omega, HRQ.out.cell 1⟩
        have hcq2 : wr.cell? ⟨NB, i, none⟩ = some (.int .i64 q) := (HBi.out.cell (p := ⟨NB, i, none⟩) HRQ.out.lt).trans hcq
        have HPQ := Lib.hid (fun W => pick_any q 4 W hq1 hq2 (by decide) (by decide))
        obtain ⟨t4, ht4⟩ : ∃ z, pickN q 4 = z := ⟨_, rfl⟩
        rw [ht4] at HPQ
        obtain ⟨ND, hND⟩ : ∃ z, wr.heap.size = z := ⟨_, rfl⟩
        obtain ⟨X2, hX2⟩ : ∃ z, wr.alloc (.cells #[.int .i64 n, .int .i64 s] 3) = z := ⟨_, rfl⟩
        have HRK : Hid (RowAt X2 ND 3 #[.int .i64 n, .int .i64 s]) := Lib.hid (by rw [← hX2, ← hND]; exact RowAt.new _ _ _)
        have HB2 : Hid (Below wr.heap.size wr X2) := Lib.hid (by rw [← hX2]; exact (Below.refl _ _).alloc (Nat.le_refl _) _)
        have HX02 : Hid (Below X0.heap.size X0 X2) := Lib.hid (HBi.out.trans (HB2.out.mono HBi.out.size))
        have HXX : Hid (RowAt X2 N11 27 bs ∧ BaseR X2 bs LA) := Lib.hid ⟨HX.out.1.below HX02.out HX.out.1.lt, HX.out.2.1.more HX02.out⟩
        have HN2 := Lib.hid (And.intro hX2 hND)
        have HBC : Hid (∀ W, Below X2.heap.size X2 W → ∀ j v, bs[j]? = some v → W.cell? ⟨N11, 0 + j, none⟩ = some v) := Lib.hid (fun W hW j v hv => by rw [Nat.zero_add, (HXX.out.1.below hW HXX.out.1.lt).cell]; exact hv)
        clear hcq hq1 hq2 ht4 hX2 hND
        go_wp2_with fail
        refine (HPN.out _).mono ?_
        rintro e w6 ⟨rfl, rfl⟩
        go_wp2_with fail
        rw [HN2.out.1, HN2.out.2]
        clear hcq2
        go_loopw [64] (fun jv wr => ∃ j : Nat, jv = .int .i64 j ∧ j ≤ 2 ∧ Hid (Below X2.heap.size X2 wr)) (fun jv _ => 2 - (RowKit.intOf jv).toNat)
        case atStart => exact ⟨0, rfl, by omega, Lib.hid (Below.refl _ _)⟩
        case round =>
          obtain ⟨j, rfl, hj, HBj⟩ := hrel
          by_cases hj2 : j < 2
          · have hjd : decide ((j : Int) < 2) = true := by simp; omega
            obtain ⟨k, hck⟩ : ∃ k : Int, X2.cell? ⟨ND, j, none⟩ = some (.int .i64 k) := by
              rcases (by omega : j = 0 ∨ j = 1) with rfl | rfl
              · exact ⟨n, HRK.out.cell 0⟩
              · exact ⟨s, HRK.out.cell 1⟩
            have hck2 : wr.cell? ⟨ND, j, none⟩ = some (.int .i64 k) := (HBj.out.cell (p := ⟨ND, j, none⟩) HRK.out.lt).trans hck
            clear hck
            have hbig : ∀ q, (LA q).length ≤ 1000000 := fun q => Nat.le_trans (HX.out.2.2.1 q) (by decide)
            have HC1 := Lib.hid (fun W (hW : Below X2.heap.size X2 W) => contract_any bs LA k q W (HXX.out.2.more hW) hbig)
            have HC2 := Lib.hid (fun W (hW : Below X2.heap.size X2 W) => rcontract_any bs LA k q W (HXX.out.2.more hW) hbig)
            have HC3 := Lib.hid (fun W (hW : Below X2.heap.size X2 W) => rules_any bs LA q W (HXX.out.2.more hW) hbig)
            have HC4 := Lib.hid (fun W (hW : Below X2.heap.size X2 W) => rrules_any bs LA q W (HXX.out.2.more hW) hbig)
            have HC5 := Lib.hid (fun W (hW : Below X2.heap.size X2 W) => method_any bs LA k q W (HXX.out.2.more hW) hbig)
            have HC6 := Lib.hid (fun W (hW : Below X2.heap.size X2 W) => rmethod_any bs LA k q W (HXX.out.2.more hW) hbig)
            have HC7 := Lib.hid (fun W (hW : Below X2.heap.size X2 W) => rate_any bs LA k q W (HXX.out.2.more hW) hbig)
            have HC8 := Lib.hid (fun W (hW : Below X2.heap.size X2 W) => rrate_any bs LA k q W (HXX.out.2.more hW) hbig)
            have HC9 := Lib.hid (fun W (hW : Below X2.heap.size X2 W) => play_any bs LA k t4 W (HXX.out.2.more hW) hbig)
            have HC10 := Lib.hid (fun W (hW : Below X2.heap.size X2 W) => rplay_any bs LA k t4 W (HXX.out.2.more hW) hbig)
            have HC11 := Lib.hid (fun W (hW : Below X2.heap.size X2 W) => mark_any bs LA k t4 W (HXX.out.2.more hW) hbig)
            have HC12 := Lib.hid (fun W (hW : Below X2.heap.size X2 W) => rmark_any bs LA k t4 W (HXX.out.2.more hW) hbig)
            obtain ⟨o1, ho1⟩ : ∃ z, contractF LA k q = z := ⟨_, rfl⟩
            obtain ⟨o2, ho2⟩ : ∃ z, rulesF LA q = z := ⟨_, rfl⟩
            obtain ⟨o3, ho3⟩ : ∃ z, methV (methodF LA k q) = z := ⟨_, rfl⟩
            obtain ⟨⟨y1, b5⟩, ho4⟩ : ∃ z, rateSpec (LA 6) k q = z := ⟨_, rfl⟩
            obtain ⟨⟨f3, b7⟩, ho5⟩ : ∃ z, firstSpec (devTest k t4) (LA 0) = z := ⟨_, rfl⟩
            obtain ⟨y2, ho6⟩ : ∃ z, (firstSpec (devTest k t4) (LA 1)).1.n 16 = z := ⟨_, rfl⟩
            obtain ⟨f1, hf1⟩ : ∃ z, o1.getD zf = z := ⟨_, rfl⟩
            obtain ⟨b1, hb1⟩ : ∃ z, o1.isSome = z := ⟨_, rfl⟩
            obtain ⟨f2, hf2⟩ : ∃ z, o2.getD zf = z := ⟨_, rfl⟩
            obtain ⟨b3, hb3⟩ : ∃ z, o2.isSome = z := ⟨_, rfl⟩
            simp only [ho1, hf1, hb1] at HC1 HC2
            simp only [ho2, hf2, hb3] at HC3 HC4
            simp only [ho3] at HC5 HC6
            simp only [ho4] at HC7 HC8
            simp only [ho5] at HC9 HC10
            simp only [ho6] at HC11 HC12
            have HS1 := Lib.hid (fun W => rsame_any f1 f1 W)
            simp only [sameF_refl] at HS1
            have HI_c1 : Hid ((Tryz.prog.info? 34).map (·.size) = some f1.cells.size ∧ f1.cells.all (·.oneCell') = true ∧ zf18.size = f1.cells.size) := Lib.hid ⟨fact_size, f1.cells_one, rfl⟩
            obtain ⟨c1, hc1⟩ : ∃ z, f1.cells = z := ⟨_, rfl⟩
            have HS2 := Lib.hid (fun W => rsame_any f2 f2 W)
            simp only [sameF_refl] at HS2
            have HI_c2 : Hid ((Tryz.prog.info? 34).map (·.size) = some f2.cells.size ∧ f2.cells.all (·.oneCell') = true ∧ zf18.size = f2.cells.size) := Lib.hid ⟨fact_size, f2.cells_one, rfl⟩
            obtain ⟨c2, hc2⟩ : ∃ z, f2.cells = z := ⟨_, rfl⟩
            have HS3 := Lib.hid (fun W => rsame_any f3 f3 W)
            simp only [sameF_refl] at HS3
            have HI_c3 : Hid ((Tryz.prog.info? 34).map (·.size) = some f3.cells.size ∧ f3.cells.all (·.oneCell') = true ∧ zf18.size = f3.cells.size) := Lib.hid ⟨fact_size, f3.cells_one, rfl⟩
            obtain ⟨c3, hc3⟩ : ∃ z, f3.cells = z := ⟨_, rfl⟩
            simp only [hc1] at HC1 HC2 HS1 HI_c1
            simp only [hc2] at HC3 HC4 HS2 HI_c2
            simp only [hc3] at HC9 HC10 HS3 HI_c3
            clear hbig ho1 ho2 ho3 ho4 ho5 ho6 hf1 hf2 hb1 hb3 hc1 hc2 hc3
            have q1 : (b1 != b1) = false := by simp
            have q3 : (b3 != b3) = false := by simp
            have q5 : (b5 != b5) = false := by simp
            have q7 : (b7 != b7) = false := by simp
            have qy1 : (y1 != y1) = false := by simp
            have qy2 : (y2 != y2) = false := by simp
            have qo3 : (o3 != o3) = false := by simp
            go_wp2_with (first | ((with_reducible refine load_base (o := ⟨some 69, _, _, _, _, _⟩) (.tmp 11) N11 bs (HBC.out wr HBj.out) HBI.out ?_ ?_ ?_ ?_); rfl; rfl; rfl))
            refine (HC1.out wr HBj.out).mono ?_
            rintro e V1 ⟨rfl, hv1⟩
            have HV1 : Hid (Below X2.heap.size X2 V1) := Lib.hid (HBj.out.trans (hv1.mono HBj.out.size))
            obtain ⟨P1, hP1⟩ : ∃ z, V1.heap.size = z := ⟨_, rfl⟩
            obtain ⟨W1, hW1⟩ : ∃ z, V1.alloc (.cells c1 34) = z := ⟨_, rfl⟩
            have HR1 : Hid (RowAt W1 P1 34 c1 ∧ P1 < W1.heap.size) := Lib.hid (by rw [← hW1, ← hP1]; exact ⟨RowAt.new _ _ _, (RowAt.new V1 34 c1).lt⟩)
            have HB1 : Hid (Below X2.heap.size X2 W1) := Lib.hid (by rw [← hW1]; exact HV1.out.alloc HV1.out.size _)
            have HN1 := Lib.hid (And.intro hW1 hP1)
            have hlt1 : V1.heap.size ≤ W1.heap.size := by rw [← hW1]; simp
            have HK1 : Hid (Below wr.heap.size wr W1) := Lib.hid (hv1.trans (by rw [← hW1]; exact (Below.refl _ _).alloc hv1.size _))
            clear hv1 hP1 hW1 hlt1
            go_upto_region 13 with (first | ((with_reducible refine store_cs (o := ⟨none, _, _, _, _, _⟩) (.tmp 16) (.tmp 73) V1.heap.size rfl _ c1 HI_c1.out.1 HI_c1.out.2.1 HI_c1.out.2.2 ?_ ?_ ?_ ?_ ?_); rfl; rfl; rfl; rfl))
            rw [HN1.out.1, HN1.out.2]
            go_wp2_with (first | ((with_reducible refine load_base (o := ⟨some 76, _, _, _, _, _⟩) (.tmp 11) N11 bs (HBC.out W1 HB1.out) HBI.out ?_ ?_ ?_ ?_); rfl; rfl; rfl))
            refine (HC2.out W1 HB1.out).mono ?_
            rintro e V2 ⟨rfl, hv2⟩
            have HV2 : Hid (Below X2.heap.size X2 V2) := Lib.hid (HB1.out.trans (hv2.mono HB1.out.size))
            obtain ⟨P2, hP2⟩ : ∃ z, V2.heap.size = z := ⟨_, rfl⟩
            obtain ⟨W2, hW2⟩ : ∃ z, V2.alloc (.cells c1 34) = z := ⟨_, rfl⟩
            have HR2 : Hid (RowAt W2 P2 34 c1 ∧ P2 < W2.heap.size) := Lib.hid (by rw [← hW2, ← hP2]; exact ⟨RowAt.new _ _ _, (RowAt.new V2 34 c1).lt⟩)
            have HB2 : Hid (Below X2.heap.size X2 W2) := Lib.hid (by rw [← hW2]; exact HV2.out.alloc HV2.out.size _)
            have HN2 := Lib.hid (And.intro hW2 hP2)
            have hlt2 : V2.heap.size ≤ W2.heap.size := by rw [← hW2]; simp
            have HK2 : Hid (Below W1.heap.size W1 W2) := Lib.hid (hv2.trans (by rw [← hW2]; exact (Below.refl _ _).alloc hv2.size _))
            clear hv2 hP2 hW2 hlt2
            go_upto_region 14 with (first | ((with_reducible refine store_cs (o := ⟨none, _, _, _, _, _⟩) (.tmp 18) (.tmp 80) V2.heap.size rfl _ c1 HI_c1.out.1 HI_c1.out.2.1 HI_c1.out.2.2 ?_ ?_ ?_ ?_ ?_); rfl; rfl; rfl; rfl))
            rw [HN2.out.1, HN2.out.2]
            have HRX3 : Hid (RowAt W2 P1 34 c1 ∧ P1 < W2.heap.size) := Lib.hid ⟨HR1.out.1.below HK2.out HR1.out.2, Nat.lt_of_lt_of_le HR1.out.2 HK2.out.size⟩
            go_wp2_with (first | ((with_reducible refine load_base (o := ⟨some 83, _, _, _, _, _⟩) (.tmp 11) N11 bs (HBC.out W2 HB2.out) HBI.out ?_ ?_ ?_ ?_); rfl; rfl; rfl))
            refine (HC3.out W2 HB2.out).mono ?_
            rintro e V4 ⟨rfl, hv4⟩
            have HV4 : Hid (Below X2.heap.size X2 V4) := Lib.hid (HB2.out.trans (hv4.mono HB2.out.size))
            obtain ⟨P4, hP4⟩ : ∃ z, V4.heap.size = z := ⟨_, rfl⟩
            obtain ⟨W4, hW4⟩ : ∃ z, V4.alloc (.cells c2 34) = z := ⟨_, rfl⟩
            have HR4 : Hid (RowAt W4 P4 34 c2 ∧ P4 < W4.heap.size) := Lib.hid (by rw [← hW4, ← hP4]; exact ⟨RowAt.new _ _ _, (RowAt.new V4 34 c2).lt⟩)
            have HB4 : Hid (Below X2.heap.size X2 W4) := Lib.hid (by rw [← hW4]; exact HV4.out.alloc HV4.out.size _)
            have HN4 := Lib.hid (And.intro hW4 hP4)
            have hlt4 : V4.heap.size ≤ W4.heap.size := by rw [← hW4]; simp
            have HK4 : Hid (Below W2.heap.size W2 W4) := Lib.hid (hv4.trans (by rw [← hW4]; exact (Below.refl _ _).alloc hv4.size _))
            clear hv4 hP4 hW4 hlt4
            go_upto_region 15 with (first | ((with_reducible refine store_cs (o := ⟨none, _, _, _, _, _⟩) (.tmp 20) (.tmp 86) V4.heap.size rfl _ c2 HI_c2.out.1 HI_c2.out.2.1 HI_c2.out.2.2 ?_ ?_ ?_ ?_ ?_); rfl; rfl; rfl; rfl))
            rw [HN4.out.1, HN4.out.2]
            have HRX5 : Hid (RowAt W4 P1 34 c1 ∧ P1 < W4.heap.size) := Lib.hid ⟨HRX3.out.1.below HK4.out HRX3.out.2, Nat.lt_of_lt_of_le HRX3.out.2 HK4.out.size⟩
            have HRX6 : Hid (RowAt W4 P2 34 c1 ∧ P2 < W4.heap.size) := Lib.hid ⟨HR2.out.1.below HK4.out HR2.out.2, Nat.lt_of_lt_of_le HR2.out.2 HK4.out.size⟩
            go_wp2_with (first | ((with_reducible refine load_base (o := ⟨some 89, _, _, _, _, _⟩) (.tmp 11) N11 bs (HBC.out W4 HB4.out) HBI.out ?_ ?_ ?_ ?_); rfl; rfl; rfl))
            refine (HC4.out W4 HB4.out).mono ?_
            rintro e V7 ⟨rfl, hv7⟩
            have HV7 : Hid (Below X2.heap.size X2 V7) := Lib.hid (HB4.out.trans (hv7.mono HB4.out.size))
            obtain ⟨P7, hP7⟩ : ∃ z, V7.heap.size = z := ⟨_, rfl⟩
            obtain ⟨W7, hW7⟩ : ∃ z, V7.alloc (.cells c2 34) = z := ⟨_, rfl⟩
            have HR7 : Hid (RowAt W7 P7 34 c2 ∧ P7 < W7.heap.size) := Lib.hid (by rw [← hW7, ← hP7]; exact ⟨RowAt.new _ _ _, (RowAt.new V7 34 c2).lt⟩)
            have HB7 : Hid (Below X2.heap.size X2 W7) := Lib.hid (by rw [← hW7]; exact HV7.out.alloc HV7.out.size _)
            have HN7 := Lib.hid (And.intro hW7 hP7)
            have hlt7 : V7.heap.size ≤ W7.heap.size := by rw [← hW7]; simp
            have HK7 : Hid (Below W4.heap.size W4 W7) := Lib.hid (hv7.trans (by rw [← hW7]; exact (Below.refl _ _).alloc hv7.size _))
            clear hv7 hP7 hW7 hlt7
            go_upto_region 16 with (first | ((with_reducible refine store_cs (o := ⟨none, _, _, _, _, _⟩) (.tmp 22) (.tmp 92) V7.heap.size rfl _ c2 HI_c2.out.1 HI_c2.out.2.1 HI_c2.out.2.2 ?_ ?_ ?_ ?_ ?_); rfl; rfl; rfl; rfl))
            rw [HN7.out.1, HN7.out.2]
            have HRX8 : Hid (RowAt W7 P1 34 c1 ∧ P1 < W7.heap.size) := Lib.hid ⟨HRX5.out.1.below HK7.out HRX5.out.2, Nat.lt_of_lt_of_le HRX5.out.2 HK7.out.size⟩
            have HRX9 : Hid (RowAt W7 P2 34 c1 ∧ P2 < W7.heap.size) := Lib.hid ⟨HRX6.out.1.below HK7.out HRX6.out.2, Nat.lt_of_lt_of_le HRX6.out.2 HK7.out.size⟩
            have HRX10 : Hid (RowAt W7 P4 34 c2 ∧ P4 < W7.heap.size) := Lib.hid ⟨HR4.out.1.below HK7.out HR4.out.2, Nat.lt_of_lt_of_le HR4.out.2 HK7.out.size⟩
            have HS_11 : Hid (∀ V, Below W7.heap.size W7 V → Below X2.heap.size X2 V) := Lib.hid (fun V hV => HB7.out.trans (hV.mono HB7.out.size))
            refine wp_region_held_drew (S := fun V => Below W7.heap.size W7 V) (by kernel_rfl) (Below.refl _ _).drew (fun hHeld => ?_)
            have HD11 : Hid (Below W7.heap.size W7 W7.drew) := Lib.hid (Below.refl _ _).drew
            try simp only [Act.put, sa, s0, s1]
            refine tk_ 0 (v := ?_) rfl ?_ ?_
            rotate_left
            · intro wS hSw; go_simp; all_goals with_reducible rfl
            try simp only [Act.put, sa, s0, s1]
            refine tk_ 1 (v := ?_) rfl ?_ ?_
            rotate_left
            · intro wS hSw; go_simp; all_goals with_reducible rfl
            try simp only [Act.put, sa, s0, s1]
            refine tk_ 2 (v := ?_) rfl ?_ ?_
            rotate_left
            · intro wS hSw; go_simp; all_goals with_reducible rfl
            try simp only [Act.put, sa, s0, s1]
            refine tk_ 3 (v := ?_) rfl ?_ ?_
            rotate_left
            · intro wS hSw; go_simp; all_goals with_reducible rfl
            try simp only [Act.put, sa, s0, s1]
            refine tk_ 4 (v := ?_) rfl ?_ ?_
            rotate_left
            · intro wS hSw; go_simp; all_goals with_reducible rfl
            try simp only [Act.put, sa, s0, s1]
            refine tk_ 5 (v := ?_) rfl ?_ ?_
            rotate_left
            · intro wS hSw; go_simp; all_goals with_reducible rfl
            try simp only [Act.put, sa, s0, s1]
            refine tk_ 6 (v := ?_) rfl ?_ ?_
            rotate_left
            · intro wS hSw; go_simp; all_goals with_reducible rfl
            try simp only [Act.put, sa, s0, s1]
            refine tk_ 7 (v := ?_) rfl ?_ ?_
            rotate_left
            · intro wS hSw; go_simp; all_goals with_reducible rfl
            try simp only [Act.put, sa, s0, s1]
            refine tk_ 8 (v := ?_) rfl ?_ ?_
            rotate_left
            · intro wS hSw; go_simp; all_goals with_reducible rfl
            try simp only [Act.put, sa, s0, s1]
            refine wpAnyH_take (i := 9) (oi := ⟨_, _, _, _, _, _⟩) rfl (by kernel_rfl) (by kernel_rfl) (by kernel_rfl) (fun _ _ _ h => h) (yields_row 34 (.tmp 16) (P1) c1 _ (fun w h => HRX8.out.1.below h HRX8.out.1.lt) Tryz.underlying34 (by rfl) rfl rfl rfl HI_c1.out.1) (by assumption) ?_
            try simp only [Act.put, sa, s0, s1]
            refine wpAnyH_take (i := 10) (oi := ⟨_, _, _, _, _, _⟩) rfl (by kernel_rfl) (by kernel_rfl) (by kernel_rfl) (fun _ _ _ h => h) (yields_row 34 (.tmp 18) (P2) c1 _ (fun w h => HRX9.out.1.below h HRX9.out.1.lt) Tryz.underlying34 (by rfl) rfl rfl rfl HI_c1.out.1) (by assumption) ?_
            try simp only [Act.put, sa, s0, s1]
            refine rd 11 (by kernel_rfl) rfl fun K hK => ?_
            go_simp
            go_at_call 16
            refine (HS1.out _).mono ?_
            rintro e V12 ⟨rfl, hv12⟩
            have HD12 : Hid (Below W7.heap.size W7 V12) := Lib.hid (HD11.out.trans (hv12.mono HD11.out.size))
            clear hv12
            go_wp2_with fail
            refine hK.out _ _ (HD12.out) (fun hHeld => ?_)
            clear hK K
            try simp only [Act.put, sa, s0, s1]
            refine tk_ 12 (v := ?_) rfl ?_ ?_
            rotate_left
            · intro wS hSw; go_simp; all_goals with_reducible rfl
            try simp only [Act.put, sa, s0, s1]
            refine tk_ 13 (v := ?_) rfl ?_ ?_
            rotate_left
            · intro wS hSw; go_simp; all_goals with_reducible rfl
            try simp only [Act.put, sa, s0, s1]
            refine tk_ 14 (v := ?_) rfl ?_ ?_
            rotate_left
            · intro wS hSw; go_simp; all_goals with_reducible rfl
            try simp only [Act.put, sa, s0, s1]
            refine wpAnyH_take (i := 15) (oi := ⟨_, _, _, _, _, _⟩) rfl (by kernel_rfl) (by kernel_rfl) (by kernel_rfl) (fun _ _ _ h => h) (yields_row 34 (.tmp 20) (P4) c2 _ (fun w h => HRX10.out.1.below h HRX10.out.1.lt) Tryz.underlying34 (by rfl) rfl rfl rfl HI_c2.out.1) (by assumption) ?_
            try simp only [Act.put, sa, s0, s1]
            refine wpAnyH_take (i := 16) (oi := ⟨_, _, _, _, _, _⟩) rfl (by kernel_rfl) (by kernel_rfl) (by kernel_rfl) (fun _ _ _ h => h) (yields_row 34 (.tmp 22) (P7) c2 _ (fun w h => HR7.out.1.below h HR7.out.1.lt) Tryz.underlying34 (by rfl) rfl rfl rfl HI_c2.out.1) (by assumption) ?_
            try simp only [Act.put, sa, s0, s1]
            refine rd 17 (by kernel_rfl) rfl fun K hK => ?_
            go_simp
            go_at_call 16
            refine (HS2.out _).mono ?_
            rintro e V13 ⟨rfl, hv13⟩
            have HD13 : Hid (Below W7.heap.size W7 V13) := Lib.hid (HD12.out.trans (hv13.mono HD12.out.size))
            clear hv13
            go_wp2_with fail
            refine hK.out _ _ (HD13.out) (fun hHeld => ?_)
            clear hK K
            try simp only [Act.put, sa, s0, s1]
            refine tk_ 18 (v := ?_) rfl ?_ ?_
            rotate_left
            · intro wS hSw; go_simp; all_goals with_reducible rfl
            try simp only [Act.put, sa, s0, s1]
            refine tk_ 19 (v := ?_) rfl ?_ ?_
            rotate_left
            · intro wS hSw; go_simp; all_goals with_reducible rfl
            try simp only [Act.put, sa, s0, s1]
            refine tk_ 20 (v := ?_) rfl ?_ ?_
            rotate_left
            · intro wS hSw; go_simp; all_goals with_reducible rfl
            try simp only [Act.put, sa, s0, s1]
            refine wpAnyH_take (i := 21) (oi := ⟨_, _, _, _, _, _⟩) rfl (by kernel_rfl) (by kernel_rfl) (by kernel_rfl) (fun _ _ _ h => h) (yields_row 27 (.tmp 11) (N11) bs _ (fun w h => HXX.out.1.below (HS_11.out w h) HXX.out.1.lt) Tryz.underlying27 (by rfl) rfl rfl rfl HBI.out) (by assumption) ?_
            try simp only [Act.put, sa, s0, s1]
            refine tk_ 22 (v := ?_) rfl ?_ ?_
            rotate_left
            · intro wS hSw; go_simp; all_goals with_reducible rfl
            try simp only [Act.put, sa, s0, s1]
            refine tk_ 23 (v := ?_) rfl ?_ ?_
            rotate_left
            · intro wS hSw; go_simp; all_goals with_reducible rfl
            try simp only [Act.put, sa, s0, s1]
            refine wpAnyH_take (i := 25) (oi := ⟨_, _, _, _, _, _⟩) rfl (by kernel_rfl) (by kernel_rfl) (by kernel_rfl) (fun _ _ _ h => h) (yields_row 27 (.tmp 11) (N11) bs _ (fun w h => HXX.out.1.below (HS_11.out w h) HXX.out.1.lt) Tryz.underlying27 (by rfl) rfl rfl rfl HBI.out) (by assumption) ?_
            try simp only [Act.put, sa, s0, s1]
            refine tk_ 26 (v := ?_) rfl ?_ ?_
            rotate_left
            · intro wS hSw; go_simp; all_goals with_reducible rfl
            try simp only [Act.put, sa, s0, s1]
            refine tk_ 27 (v := ?_) rfl ?_ ?_
            rotate_left
            · intro wS hSw; go_simp; all_goals with_reducible rfl
            try simp only [Act.put, sa, s0, s1]
            refine rd 24 (by kernel_rfl) rfl fun K hK => ?_
            go_simp
            go_at_call 17
            refine (HC5.out _ (HS_11.out _ HD13.out)).mono ?_
            rintro e V14 ⟨rfl, hv14⟩
            have HD14 : Hid (Below W7.heap.size W7 V14) := Lib.hid (HD13.out.trans (hv14.mono HD13.out.size))
            clear hv14
            go_wp2_with fail
            refine hK.out _ _ (HD14.out) (fun hHeld => ?_)
            clear hK K
            try simp only [Act.put, sa, s0, s1]
            refine rd 28 (by kernel_rfl) rfl fun K hK => ?_
            go_simp
            go_at_call 18
            refine (HC6.out _ (HS_11.out _ HD14.out)).mono ?_
            rintro e V15 ⟨rfl, hv15⟩
            have HD15 : Hid (Below W7.heap.size W7 V15) := Lib.hid (HD14.out.trans (hv15.mono HD14.out.size))
            clear hv15
            go_wp2_with fail
            refine hK.out _ _ (HD15.out) (fun hHeld => ?_)
            clear hK K
            try simp only [Act.put, sa, s0, s1]
            refine tk_ 29 (v := ?_) rfl ?_ ?_
            rotate_left
            · intro wS hSw; go_simp; all_goals with_reducible rfl
            try simp only [Act.put, sa, s0, s1]
            refine tk_ 30 (v := ?_) rfl ?_ ?_
            rotate_left
            · intro wS hSw; go_simp; all_goals with_reducible rfl
            try simp only [Act.put, sa, s0, s1]
            refine wpAnyH_done (by kernel_rfl) ?_ _
            have HB11 : Hid (Below X2.heap.size X2 V15) := Lib.hid (HS_11.out _ HD15.out)
            go_wp2_with (first | ((with_reducible refine load_base (o := ⟨some 126, _, _, _, _, _⟩) (.tmp 11) N11 bs (HBC.out V15 HB11.out) HBI.out ?_ ?_ ?_ ?_); rfl; rfl; rfl))
            refine (HC7.out V15 HB11.out).mono ?_
            rintro e W16 ⟨rfl, hv16⟩
            have HB16 : Hid (Below X2.heap.size X2 W16) := Lib.hid (HB11.out.trans (hv16.mono HB11.out.size))
            clear hv16
            go_wp2_with (first | ((with_reducible refine load_base (o := ⟨some 133, _, _, _, _, _⟩) (.tmp 11) N11 bs (HBC.out W16 HB16.out) HBI.out ?_ ?_ ?_ ?_); rfl; rfl; rfl))
            refine (HC8.out W16 HB16.out).mono ?_
            rintro e W17 ⟨rfl, hv17⟩
            have HB17 : Hid (Below X2.heap.size X2 W17) := Lib.hid (HB16.out.trans (hv17.mono HB16.out.size))
            clear hv17
            go_upto_region 20 with fail
            have HS_18 : Hid (∀ V, Below W17.heap.size W17 V → Below X2.heap.size X2 V) := Lib.hid (fun V hV => HB17.out.trans (hV.mono HB17.out.size))
            go_cut [28, 29] from 139 to 146 (fun v28 v29 wx => ∃ g : Nat, v28 = .pointer (some ⟨g, 0, none⟩) ∧ v29 = .bool b7 ∧ Hid (RowAt wx g 34 c3 ∧ Below W17.heap.size W17 wx))
            case first =>
              refine wp_region_held_drew (S := fun V => Below W17.heap.size W17 V) (by kernel_rfl) (Below.refl _ _).drew (fun hHeld => ?_)
              have HD18 : Hid (Below W17.heap.size W17 W17.drew) := Lib.hid (Below.refl _ _).drew
              try simp only [Act.put, sa, s0, s1]
              refine wpAnyH_take (i := 0) (oi := ⟨_, _, _, _, _, _⟩) rfl (by kernel_rfl) (by kernel_rfl) (by kernel_rfl) (fun _ _ _ h => h) (yields_row 27 (.tmp 11) (N11) bs _ (fun w h => HXX.out.1.below (HS_18.out w h) HXX.out.1.lt) Tryz.underlying27 (by rfl) rfl rfl rfl HBI.out) (by assumption) ?_
              try simp only [Act.put, sa, s0, s1]
              refine tk_ 1 (v := ?_) rfl ?_ ?_
              rotate_left
              · intro wS hSw; go_simp; all_goals with_reducible rfl
              try simp only [Act.put, sa, s0, s1]
              refine tk_ 2 (v := ?_) rfl ?_ ?_
              rotate_left
              · intro wS hSw; go_simp; all_goals with_reducible rfl
              try simp only [Act.put, sa, s0, s1]
              refine wpAnyH_ready (rs := [3, 8]) (by kernel_rfl) (by simp) ?_
              refine AllReadyH.cons (o := ⟨_, _, _, _, _, _⟩) rfl (fun K hK => ?_) (AllReadyH.cons (o := ⟨_, _, _, _, _, _⟩) rfl (fun K hK => ?_) AllReadyH.nil)
              · go_simp
                go_at_call 11
                refine (HPQ.out _).mono ?_
                rintro e V19 ⟨rfl, rfl⟩
                go_wp2_with fail
                refine hK.out _ _ (HD18.out) (fun hHeld => ?_)
                clear hK K
                try simp only [Act.put, sa, s0, s1]
                refine wpAnyH_ready (rs := [4, 8]) (by kernel_rfl) (by simp) ?_
                refine AllReadyH.cons (o := ⟨_, _, _, _, _, _⟩) rfl (fun K hK => ?_) (AllReadyH.cons (o := ⟨_, _, _, _, _, _⟩) rfl (fun K hK => ?_) AllReadyH.nil)
                · go_simp
                  go_at_call 21
                  refine (HC9.out _ (HS_18.out _ HD18.out)).mono ?_
                  rintro e V20 ⟨rfl, hv20⟩
                  have HD20 : Hid (Below W17.heap.size W17 V20) := Lib.hid (HD18.out.trans (hv20.mono HD18.out.size))
                  clear hv20
                  go_wp2_with fail
                  refine hK.out _ _ (HD20.out) (fun hHeld => ?_)
                  clear hK K
                  try simp only [Act.put, sa, s0, s1]
                  refine tk_ 5 (v := ?_) rfl ?_ ?_
                  rotate_left
                  · intro wS hSw; go_simp; all_goals with_reducible rfl
                  try simp only [Act.put, sa, s0, s1]
                  refine tk_ 6 (v := ?_) rfl ?_ ?_
                  rotate_left
                  · intro wS hSw; go_simp; all_goals with_reducible rfl
                  try simp only [Act.put, sa, s0, s1]
                  refine tk_ 7 (v := ?_) rfl ?_ ?_
                  rotate_left
                  · intro wS hSw; go_simp; all_goals with_reducible rfl
                  try simp only [Act.put, sa, s0, s1]
                  refine wpAnyH_ready (rs := [8]) (by kernel_rfl) (by simp) ?_
                  refine AllReadyH.cons (o := ⟨_, _, _, _, _, _⟩) rfl (fun K hK => ?_) AllReadyH.nil
                  obtain ⟨g21, hg21⟩ : ∃ z, V20.heap.size = z := ⟨_, rfl⟩
                  have HG21 := Lib.hid hg21
                  refine wp_alloc_fact g21 hg21 rfl ?_
                  clear hg21
                  have HD21 : Hid (Below W17.heap.size W17 (V20.alloc (.cells ZC 34))) := Lib.hid (HD20.out.alloc HD20.out.size _)
                  have HRW21 : Hid (RowAt (V20.alloc (.cells ZC 34)) g21 34 ZC) := Lib.hid (by rw [← HG21.out]; exact RowAt.new _ _ _)
                  have HGG21 : Hid (W17.heap.size ≤ g21) := Lib.hid (by rw [← HG21.out]; exact HD20.out.size)
                  obtain ⟨Z21, hZ21⟩ : ∃ z, V20.alloc (.cells ZC 34) = z := ⟨_, rfl⟩
                  rw [hZ21] at HD21 HRW21 ⊢
                  clear hZ21
                  refine hK.out _ _ (HD21.out) (fun hHeld => ?_)
                  clear hK K
                  try simp only [Act.put, sa, s0, s1]
                  refine rd 9 (by kernel_rfl) rfl fun K hK => ?_
                  rw [if_pos (by rfl)]
                  refine wp_store_row 34 (.tmp 28) (.tmp 145) rfl g21 c3 rfl rfl _ ZC HRW21.out HI_c3.out.1 HI_c3.out.2.2 HI_c3.out.2.1 ?_
                  have HRW22 : Hid (RowAt (Z21.setRow g21 c3) g21 34 c3) := Lib.hid (setRow_at HRW21.out)
                  have HD22 : Hid (Below W17.heap.size W17 (Z21.setRow g21 c3)) := Lib.hid (below_setR HD21.out HGG21.out)
                  refine hK.out _ _ (HD22.out) (fun hHeld => ?_)
                  clear hK K
                  try simp only [Act.put, sa, s0, s1]
                  refine tk_ 10 (v := ?_) rfl ?_ ?_
                  rotate_left
                  · intro wS hSw; go_simp; all_goals with_reducible rfl
                  try simp only [Act.put, sa, s0, s1]
                  refine wpAnyH_done (by kernel_rfl) ?_ _
                  go_wp2_with fail
                  go_meet
                  case rel => exact ⟨g21, rfl, rfl, Lib.hid ⟨HRW22.out, HD22.out⟩⟩
                · obtain ⟨g23, hg23⟩ : ∃ z, W17.drew.heap.size = z := ⟨_, rfl⟩
                  have HG23 := Lib.hid hg23
                  refine wp_alloc_fact g23 hg23 rfl ?_
                  clear hg23
                  have HD23 : Hid (Below W17.heap.size W17 (W17.drew.alloc (.cells ZC 34))) := Lib.hid (HD18.out.alloc HD18.out.size _)
                  have HRW23 : Hid (RowAt (W17.drew.alloc (.cells ZC 34)) g23 34 ZC) := Lib.hid (by rw [← HG23.out]; exact RowAt.new _ _ _)
                  have HGG23 : Hid (W17.heap.size ≤ g23) := Lib.hid (by rw [← HG23.out]; exact HD18.out.size)
                  obtain ⟨Z23, hZ23⟩ : ∃ z, W17.drew.alloc (.cells ZC 34) = z := ⟨_, rfl⟩
                  rw [hZ23] at HD23 HRW23 ⊢
                  clear hZ23
                  refine hK.out _ _ (HD23.out) (fun hHeld => ?_)
                  clear hK K
                  try simp only [Act.put, sa, s0, s1]
                  refine wpAnyH_ready (rs := [4]) (by kernel_rfl) (by simp) ?_
                  refine AllReadyH.cons (o := ⟨_, _, _, _, _, _⟩) rfl (fun K hK => ?_) AllReadyH.nil
                  go_simp
                  go_at_call 21
                  refine (HC9.out _ (HS_18.out _ HD23.out)).mono ?_
                  rintro e V24 ⟨rfl, hv24⟩
                  have HD24 : Hid (Below W17.heap.size W17 V24) := Lib.hid (HD23.out.trans (hv24.mono HD23.out.size))
                  have HRW24 := Lib.hid (HRW23.out.below hv24 HRW23.out.lt)
                  clear hv24
                  go_wp2_with fail
                  refine hK.out _ _ (HD24.out) (fun hHeld => ?_)
                  clear hK K
                  try simp only [Act.put, sa, s0, s1]
                  refine tk_ 5 (v := ?_) rfl ?_ ?_
                  rotate_left
                  · intro wS hSw; go_simp; all_goals with_reducible rfl
                  try simp only [Act.put, sa, s0, s1]
                  refine tk_ 6 (v := ?_) rfl ?_ ?_
                  rotate_left
                  · intro wS hSw; go_simp; all_goals with_reducible rfl
                  try simp only [Act.put, sa, s0, s1]
                  refine tk_ 7 (v := ?_) rfl ?_ ?_
                  rotate_left
                  · intro wS hSw; go_simp; all_goals with_reducible rfl
                  try simp only [Act.put, sa, s0, s1]
                  refine rd 9 (by kernel_rfl) rfl fun K hK => ?_
                  rw [if_pos (by rfl)]
                  refine wp_store_row 34 (.tmp 28) (.tmp 145) rfl g23 c3 rfl rfl _ ZC HRW24.out HI_c3.out.1 HI_c3.out.2.2 HI_c3.out.2.1 ?_
                  have HRW25 : Hid (RowAt (V24.setRow g23 c3) g23 34 c3) := Lib.hid (setRow_at HRW24.out)
                  have HD25 : Hid (Below W17.heap.size W17 (V24.setRow g23 c3)) := Lib.hid (below_setR HD24.out HGG23.out)
                  refine hK.out _ _ (HD25.out) (fun hHeld => ?_)
                  clear hK K
                  try simp only [Act.put, sa, s0, s1]
                  refine tk_ 10 (v := ?_) rfl ?_ ?_
                  rotate_left
                  · intro wS hSw; go_simp; all_goals with_reducible rfl
                  try simp only [Act.put, sa, s0, s1]
                  refine wpAnyH_done (by kernel_rfl) ?_ _
                  go_wp2_with fail
                  go_meet
                  case rel => exact ⟨g23, rfl, rfl, Lib.hid ⟨HRW25.out, HD25.out⟩⟩
              · obtain ⟨g26, hg26⟩ : ∃ z, W17.drew.heap.size = z := ⟨_, rfl⟩
                have HG26 := Lib.hid hg26
                refine wp_alloc_fact g26 hg26 rfl ?_
                clear hg26
                have HD26 : Hid (Below W17.heap.size W17 (W17.drew.alloc (.cells ZC 34))) := Lib.hid (HD18.out.alloc HD18.out.size _)
                have HRW26 : Hid (RowAt (W17.drew.alloc (.cells ZC 34)) g26 34 ZC) := Lib.hid (by rw [← HG26.out]; exact RowAt.new _ _ _)
                have HGG26 : Hid (W17.heap.size ≤ g26) := Lib.hid (by rw [← HG26.out]; exact HD18.out.size)
                obtain ⟨Z26, hZ26⟩ : ∃ z, W17.drew.alloc (.cells ZC 34) = z := ⟨_, rfl⟩
                rw [hZ26] at HD26 HRW26 ⊢
                clear hZ26
                refine hK.out _ _ (HD26.out) (fun hHeld => ?_)
                clear hK K
                try simp only [Act.put, sa, s0, s1]
                refine wpAnyH_ready (rs := [3]) (by kernel_rfl) (by simp) ?_
                refine AllReadyH.cons (o := ⟨_, _, _, _, _, _⟩) rfl (fun K hK => ?_) AllReadyH.nil
                go_simp
                go_at_call 11
                refine (HPQ.out _).mono ?_
                rintro e V27 ⟨rfl, rfl⟩
                go_wp2_with fail
                refine hK.out _ _ (HD26.out) (fun hHeld => ?_)
                clear hK K
                try simp only [Act.put, sa, s0, s1]
                refine wpAnyH_ready (rs := [4]) (by kernel_rfl) (by simp) ?_
                refine AllReadyH.cons (o := ⟨_, _, _, _, _, _⟩) rfl (fun K hK => ?_) AllReadyH.nil
                go_simp
                go_at_call 21
                refine (HC9.out _ (HS_18.out _ HD26.out)).mono ?_
                rintro e V28 ⟨rfl, hv28⟩
                have HD28 : Hid (Below W17.heap.size W17 V28) := Lib.hid (HD26.out.trans (hv28.mono HD26.out.size))
                have HRW28 := Lib.hid (HRW26.out.below hv28 HRW26.out.lt)
                clear hv28
                go_wp2_with fail
                refine hK.out _ _ (HD28.out) (fun hHeld => ?_)
                clear hK K
                try simp only [Act.put, sa, s0, s1]
                refine tk_ 5 (v := ?_) rfl ?_ ?_
                rotate_left
                · intro wS hSw; go_simp; all_goals with_reducible rfl
                try simp only [Act.put, sa, s0, s1]
                refine tk_ 6 (v := ?_) rfl ?_ ?_
                rotate_left
                · intro wS hSw; go_simp; all_goals with_reducible rfl
                try simp only [Act.put, sa, s0, s1]
                refine tk_ 7 (v := ?_) rfl ?_ ?_
                rotate_left
                · intro wS hSw; go_simp; all_goals with_reducible rfl
                try simp only [Act.put, sa, s0, s1]
                refine rd 9 (by kernel_rfl) rfl fun K hK => ?_
                rw [if_pos (by rfl)]
                refine wp_store_row 34 (.tmp 28) (.tmp 145) rfl g26 c3 rfl rfl _ ZC HRW28.out HI_c3.out.1 HI_c3.out.2.2 HI_c3.out.2.1 ?_
                have HRW29 : Hid (RowAt (V28.setRow g26 c3) g26 34 c3) := Lib.hid (setRow_at HRW28.out)
                have HD29 : Hid (Below W17.heap.size W17 (V28.setRow g26 c3)) := Lib.hid (below_setR HD28.out HGG26.out)
                refine hK.out _ _ (HD29.out) (fun hHeld => ?_)
                clear hK K
                try simp only [Act.put, sa, s0, s1]
                refine tk_ 10 (v := ?_) rfl ?_ ?_
                rotate_left
                · intro wS hSw; go_simp; all_goals with_reducible rfl
                try simp only [Act.put, sa, s0, s1]
                refine wpAnyH_done (by kernel_rfl) ?_ _
                go_wp2_with fail
                go_meet
                case rel => exact ⟨g26, rfl, rfl, Lib.hid ⟨HRW29.out, HD29.out⟩⟩
            case rest =>
              obtain ⟨g18, rfl, rfl, HQ18⟩ := hcut
              obtain ⟨W18, hWW18⟩ : ∃ z, wc = z := ⟨_, rfl⟩
              rw [hWW18] at HQ18 ⊢
              clear hWW18
              have HB18 : Hid (Below X2.heap.size X2 W18) := Lib.hid (HS_18.out _ HQ18.out.2)
              go_upto_region 21 with fail
              have HS_30 : Hid (∀ V, Below W18.heap.size W18 V → Below X2.heap.size X2 V) := Lib.hid (fun V hV => HB18.out.trans (hV.mono HB18.out.size))
              go_cut [30, 31] from 147 to 154 (fun v30 v31 wx => ∃ g : Nat, v30 = .pointer (some ⟨g, 0, none⟩) ∧ v31 = .bool b7 ∧ Hid (RowAt wx g 34 c3 ∧ Below W18.heap.size W18 wx))
              case first =>
                refine wp_region_held_drew (S := fun V => Below W18.heap.size W18 V) (by kernel_rfl) (Below.refl _ _).drew (fun hHeld => ?_)
                have HD30 : Hid (Below W18.heap.size W18 W18.drew) := Lib.hid (Below.refl _ _).drew
                try simp only [Act.put, sa, s0, s1]
                refine wpAnyH_take (i := 0) (oi := ⟨_, _, _, _, _, _⟩) rfl (by kernel_rfl) (by kernel_rfl) (by kernel_rfl) (fun _ _ _ h => h) (yields_row 27 (.tmp 11) (N11) bs _ (fun w h => HXX.out.1.below (HS_30.out w h) HXX.out.1.lt) Tryz.underlying27 (by rfl) rfl rfl rfl HBI.out) (by assumption) ?_
                try simp only [Act.put, sa, s0, s1]
                refine tk_ 1 (v := ?_) rfl ?_ ?_
                rotate_left
                · intro wS hSw; go_simp; all_goals with_reducible rfl
                try simp only [Act.put, sa, s0, s1]
                refine tk_ 2 (v := ?_) rfl ?_ ?_
                rotate_left
                · intro wS hSw; go_simp; all_goals with_reducible rfl
                try simp only [Act.put, sa, s0, s1]
                refine wpAnyH_ready (rs := [3, 8]) (by kernel_rfl) (by simp) ?_
                refine AllReadyH.cons (o := ⟨_, _, _, _, _, _⟩) rfl (fun K hK => ?_) (AllReadyH.cons (o := ⟨_, _, _, _, _, _⟩) rfl (fun K hK => ?_) AllReadyH.nil)
                · go_simp
                  go_at_call 11
                  refine (HPQ.out _).mono ?_
                  rintro e V31 ⟨rfl, rfl⟩
                  go_wp2_with fail
                  refine hK.out _ _ (HD30.out) (fun hHeld => ?_)
                  clear hK K
                  try simp only [Act.put, sa, s0, s1]
                  refine wpAnyH_ready (rs := [4, 8]) (by kernel_rfl) (by simp) ?_
                  refine AllReadyH.cons (o := ⟨_, _, _, _, _, _⟩) rfl (fun K hK => ?_) (AllReadyH.cons (o := ⟨_, _, _, _, _, _⟩) rfl (fun K hK => ?_) AllReadyH.nil)
                  · go_simp
                    go_at_call 22
                    refine (HC10.out _ (HS_30.out _ HD30.out)).mono ?_
                    rintro e V32 ⟨rfl, hv32⟩
                    have HD32 : Hid (Below W18.heap.size W18 V32) := Lib.hid (HD30.out.trans (hv32.mono HD30.out.size))
                    clear hv32
                    go_wp2_with fail
                    refine hK.out _ _ (HD32.out) (fun hHeld => ?_)
                    clear hK K
                    try simp only [Act.put, sa, s0, s1]
                    refine tk_ 5 (v := ?_) rfl ?_ ?_
                    rotate_left
                    · intro wS hSw; go_simp; all_goals with_reducible rfl
                    try simp only [Act.put, sa, s0, s1]
                    refine tk_ 6 (v := ?_) rfl ?_ ?_
                    rotate_left
                    · intro wS hSw; go_simp; all_goals with_reducible rfl
                    try simp only [Act.put, sa, s0, s1]
                    refine tk_ 7 (v := ?_) rfl ?_ ?_
                    rotate_left
                    · intro wS hSw; go_simp; all_goals with_reducible rfl
                    try simp only [Act.put, sa, s0, s1]
                    refine wpAnyH_ready (rs := [8]) (by kernel_rfl) (by simp) ?_
                    refine AllReadyH.cons (o := ⟨_, _, _, _, _, _⟩) rfl (fun K hK => ?_) AllReadyH.nil
                    obtain ⟨g33, hg33⟩ : ∃ z, V32.heap.size = z := ⟨_, rfl⟩
                    have HG33 := Lib.hid hg33
                    refine wp_alloc_fact g33 hg33 rfl ?_
                    clear hg33
                    have HD33 : Hid (Below W18.heap.size W18 (V32.alloc (.cells ZC 34))) := Lib.hid (HD32.out.alloc HD32.out.size _)
                    have HRW33 : Hid (RowAt (V32.alloc (.cells ZC 34)) g33 34 ZC) := Lib.hid (by rw [← HG33.out]; exact RowAt.new _ _ _)
                    have HGG33 : Hid (W18.heap.size ≤ g33) := Lib.hid (by rw [← HG33.out]; exact HD32.out.size)
                    obtain ⟨Z33, hZ33⟩ : ∃ z, V32.alloc (.cells ZC 34) = z := ⟨_, rfl⟩
                    rw [hZ33] at HD33 HRW33 ⊢
                    clear hZ33
                    refine hK.out _ _ (HD33.out) (fun hHeld => ?_)
                    clear hK K
                    try simp only [Act.put, sa, s0, s1]
                    refine rd 9 (by kernel_rfl) rfl fun K hK => ?_
                    rw [if_pos (by rfl)]
                    refine wp_store_row 34 (.tmp 30) (.tmp 153) rfl g33 c3 rfl rfl _ ZC HRW33.out HI_c3.out.1 HI_c3.out.2.2 HI_c3.out.2.1 ?_
                    have HRW34 : Hid (RowAt (Z33.setRow g33 c3) g33 34 c3) := Lib.hid (setRow_at HRW33.out)
                    have HD34 : Hid (Below W18.heap.size W18 (Z33.setRow g33 c3)) := Lib.hid (below_setR HD33.out HGG33.out)
                    refine hK.out _ _ (HD34.out) (fun hHeld => ?_)
                    clear hK K
                    try simp only [Act.put, sa, s0, s1]
                    refine tk_ 10 (v := ?_) rfl ?_ ?_
                    rotate_left
                    · intro wS hSw; go_simp; all_goals with_reducible rfl
                    try simp only [Act.put, sa, s0, s1]
                    refine wpAnyH_done (by kernel_rfl) ?_ _
                    go_wp2_with fail
                    go_meet
                    case rel => exact ⟨g33, rfl, rfl, Lib.hid ⟨HRW34.out, HD34.out⟩⟩
                  · obtain ⟨g35, hg35⟩ : ∃ z, W18.drew.heap.size = z := ⟨_, rfl⟩
                    have HG35 := Lib.hid hg35
                    refine wp_alloc_fact g35 hg35 rfl ?_
                    clear hg35
                    have HD35 : Hid (Below W18.heap.size W18 (W18.drew.alloc (.cells ZC 34))) := Lib.hid (HD30.out.alloc HD30.out.size _)
                    have HRW35 : Hid (RowAt (W18.drew.alloc (.cells ZC 34)) g35 34 ZC) := Lib.hid (by rw [← HG35.out]; exact RowAt.new _ _ _)
                    have HGG35 : Hid (W18.heap.size ≤ g35) := Lib.hid (by rw [← HG35.out]; exact HD30.out.size)
                    obtain ⟨Z35, hZ35⟩ : ∃ z, W18.drew.alloc (.cells ZC 34) = z := ⟨_, rfl⟩
                    rw [hZ35] at HD35 HRW35 ⊢
                    clear hZ35
                    refine hK.out _ _ (HD35.out) (fun hHeld => ?_)
                    clear hK K
                    try simp only [Act.put, sa, s0, s1]
                    refine wpAnyH_ready (rs := [4]) (by kernel_rfl) (by simp) ?_
                    refine AllReadyH.cons (o := ⟨_, _, _, _, _, _⟩) rfl (fun K hK => ?_) AllReadyH.nil
                    go_simp
                    go_at_call 22
                    refine (HC10.out _ (HS_30.out _ HD35.out)).mono ?_
                    rintro e V36 ⟨rfl, hv36⟩
                    have HD36 : Hid (Below W18.heap.size W18 V36) := Lib.hid (HD35.out.trans (hv36.mono HD35.out.size))
                    have HRW36 := Lib.hid (HRW35.out.below hv36 HRW35.out.lt)
                    clear hv36
                    go_wp2_with fail
                    refine hK.out _ _ (HD36.out) (fun hHeld => ?_)
                    clear hK K
                    try simp only [Act.put, sa, s0, s1]
                    refine tk_ 5 (v := ?_) rfl ?_ ?_
                    rotate_left
                    · intro wS hSw; go_simp; all_goals with_reducible rfl
                    try simp only [Act.put, sa, s0, s1]
                    refine tk_ 6 (v := ?_) rfl ?_ ?_
                    rotate_left
                    · intro wS hSw; go_simp; all_goals with_reducible rfl
                    try simp only [Act.put, sa, s0, s1]
                    refine tk_ 7 (v := ?_) rfl ?_ ?_
                    rotate_left
                    · intro wS hSw; go_simp; all_goals with_reducible rfl
                    try simp only [Act.put, sa, s0, s1]
                    refine rd 9 (by kernel_rfl) rfl fun K hK => ?_
                    rw [if_pos (by rfl)]
                    refine wp_store_row 34 (.tmp 30) (.tmp 153) rfl g35 c3 rfl rfl _ ZC HRW36.out HI_c3.out.1 HI_c3.out.2.2 HI_c3.out.2.1 ?_
                    have HRW37 : Hid (RowAt (V36.setRow g35 c3) g35 34 c3) := Lib.hid (setRow_at HRW36.out)
                    have HD37 : Hid (Below W18.heap.size W18 (V36.setRow g35 c3)) := Lib.hid (below_setR HD36.out HGG35.out)
                    refine hK.out _ _ (HD37.out) (fun hHeld => ?_)
                    clear hK K
                    try simp only [Act.put, sa, s0, s1]
                    refine tk_ 10 (v := ?_) rfl ?_ ?_
                    rotate_left
                    · intro wS hSw; go_simp; all_goals with_reducible rfl
                    try simp only [Act.put, sa, s0, s1]
                    refine wpAnyH_done (by kernel_rfl) ?_ _
                    go_wp2_with fail
                    go_meet
                    case rel => exact ⟨g35, rfl, rfl, Lib.hid ⟨HRW37.out, HD37.out⟩⟩
                · obtain ⟨g38, hg38⟩ : ∃ z, W18.drew.heap.size = z := ⟨_, rfl⟩
                  have HG38 := Lib.hid hg38
                  refine wp_alloc_fact g38 hg38 rfl ?_
                  clear hg38
                  have HD38 : Hid (Below W18.heap.size W18 (W18.drew.alloc (.cells ZC 34))) := Lib.hid (HD30.out.alloc HD30.out.size _)
                  have HRW38 : Hid (RowAt (W18.drew.alloc (.cells ZC 34)) g38 34 ZC) := Lib.hid (by rw [← HG38.out]; exact RowAt.new _ _ _)
                  have HGG38 : Hid (W18.heap.size ≤ g38) := Lib.hid (by rw [← HG38.out]; exact HD30.out.size)
                  obtain ⟨Z38, hZ38⟩ : ∃ z, W18.drew.alloc (.cells ZC 34) = z := ⟨_, rfl⟩
                  rw [hZ38] at HD38 HRW38 ⊢
                  clear hZ38
                  refine hK.out _ _ (HD38.out) (fun hHeld => ?_)
                  clear hK K
                  try simp only [Act.put, sa, s0, s1]
                  refine wpAnyH_ready (rs := [3]) (by kernel_rfl) (by simp) ?_
                  refine AllReadyH.cons (o := ⟨_, _, _, _, _, _⟩) rfl (fun K hK => ?_) AllReadyH.nil
                  go_simp
                  go_at_call 11
                  refine (HPQ.out _).mono ?_
                  rintro e V39 ⟨rfl, rfl⟩
                  go_wp2_with fail
                  refine hK.out _ _ (HD38.out) (fun hHeld => ?_)
                  clear hK K
                  try simp only [Act.put, sa, s0, s1]
                  refine wpAnyH_ready (rs := [4]) (by kernel_rfl) (by simp) ?_
                  refine AllReadyH.cons (o := ⟨_, _, _, _, _, _⟩) rfl (fun K hK => ?_) AllReadyH.nil
                  go_simp
                  go_at_call 22
                  refine (HC10.out _ (HS_30.out _ HD38.out)).mono ?_
                  rintro e V40 ⟨rfl, hv40⟩
                  have HD40 : Hid (Below W18.heap.size W18 V40) := Lib.hid (HD38.out.trans (hv40.mono HD38.out.size))
                  have HRW40 := Lib.hid (HRW38.out.below hv40 HRW38.out.lt)
                  clear hv40
                  go_wp2_with fail
                  refine hK.out _ _ (HD40.out) (fun hHeld => ?_)
                  clear hK K
                  try simp only [Act.put, sa, s0, s1]
                  refine tk_ 5 (v := ?_) rfl ?_ ?_
                  rotate_left
                  · intro wS hSw; go_simp; all_goals with_reducible rfl
                  try simp only [Act.put, sa, s0, s1]
                  refine tk_ 6 (v := ?_) rfl ?_ ?_
                  rotate_left
                  · intro wS hSw; go_simp; all_goals with_reducible rfl
                  try simp only [Act.put, sa, s0, s1]
                  refine tk_ 7 (v := ?_) rfl ?_ ?_
                  rotate_left
                  · intro wS hSw; go_simp; all_goals with_reducible rfl
                  try simp only [Act.put, sa, s0, s1]
                  refine rd 9 (by kernel_rfl) rfl fun K hK => ?_
                  rw [if_pos (by rfl)]
                  refine wp_store_row 34 (.tmp 30) (.tmp 153) rfl g38 c3 rfl rfl _ ZC HRW40.out HI_c3.out.1 HI_c3.out.2.2 HI_c3.out.2.1 ?_
                  have HRW41 : Hid (RowAt (V40.setRow g38 c3) g38 34 c3) := Lib.hid (setRow_at HRW40.out)
                  have HD41 : Hid (Below W18.heap.size W18 (V40.setRow g38 c3)) := Lib.hid (below_setR HD40.out HGG38.out)
                  refine hK.out _ _ (HD41.out) (fun hHeld => ?_)
                  clear hK K
                  try simp only [Act.put, sa, s0, s1]
                  refine tk_ 10 (v := ?_) rfl ?_ ?_
                  rotate_left
                  · intro wS hSw; go_simp; all_goals with_reducible rfl
                  try simp only [Act.put, sa, s0, s1]
                  refine wpAnyH_done (by kernel_rfl) ?_ _
                  go_wp2_with fail
                  go_meet
                  case rel => exact ⟨g38, rfl, rfl, Lib.hid ⟨HRW41.out, HD41.out⟩⟩
              case rest =>
                obtain ⟨g30, rfl, rfl, HQ30⟩ := hcut
                obtain ⟨W30, hWW30⟩ : ∃ z, wc = z := ⟨_, rfl⟩
                rw [hWW30] at HQ30 ⊢
                clear hWW30
                have HB30 : Hid (Below X2.heap.size X2 W30) := Lib.hid (HS_30.out _ HQ30.out.2)
                have HR28 : Hid (RowAt W30 g18 34 c3) := Lib.hid (HQ18.out.1.below HQ30.out.2 HQ18.out.1.lt)
                have HR30 : Hid (RowAt W30 g30 34 c3) := Lib.hid HQ30.out.1
                go_upto_region 22 with fail
                have HS_42 : Hid (∀ V, Below W30.heap.size W30 V → Below X2.heap.size X2 V) := Lib.hid (fun V hV => HB30.out.trans (hV.mono HB30.out.size))
                refine wp_region_held_drew (S := fun V => Below W30.heap.size W30 V) (by kernel_rfl) (Below.refl _ _).drew (fun hHeld => ?_)
                have HD42 : Hid (Below W30.heap.size W30 W30.drew) := Lib.hid (Below.refl _ _).drew
                try simp only [Act.put, sa, s0, s1]
                refine tk_ 0 (v := ?_) rfl ?_ ?_
                rotate_left
                · intro wS hSw; go_simp; all_goals with_reducible rfl
                try simp only [Act.put, sa, s0, s1]
                refine tk_ 1 (v := ?_) rfl ?_ ?_
                rotate_left
                · intro wS hSw; go_simp; all_goals with_reducible rfl
                try simp only [Act.put, sa, s0, s1]
                refine tk_ 2 (v := ?_) rfl ?_ ?_
                rotate_left
                · intro wS hSw; go_simp; all_goals with_reducible rfl
                try simp only [Act.put, sa, s0, s1]
                refine tk_ 3 (v := ?_) rfl ?_ ?_
                rotate_left
                · intro wS hSw; go_simp; all_goals with_reducible rfl
                try simp only [Act.put, sa, s0, s1]
                refine tk_ 4 (v := ?_) rfl ?_ ?_
                rotate_left
                · intro wS hSw; go_simp; all_goals with_reducible rfl
                try simp only [Act.put, sa, s0, s1]
                refine tk_ 5 (v := ?_) rfl ?_ ?_
                rotate_left
                · intro wS hSw; go_simp; all_goals with_reducible rfl
                try simp only [Act.put, sa, s0, s1]
                refine tk_ 6 (v := ?_) rfl ?_ ?_
                rotate_left
                · intro wS hSw; go_simp; all_goals with_reducible rfl
                try simp only [Act.put, sa, s0, s1]
                refine tk_ 7 (v := ?_) rfl ?_ ?_
                rotate_left
                · intro wS hSw; go_simp; all_goals with_reducible rfl
                try simp only [Act.put, sa, s0, s1]
                refine tk_ 8 (v := ?_) rfl ?_ ?_
                rotate_left
                · intro wS hSw; go_simp; all_goals with_reducible rfl
                try simp only [Act.put, sa, s0, s1]
                refine tk_ 9 (v := ?_) rfl ?_ ?_
                rotate_left
                · intro wS hSw; go_simp; all_goals with_reducible rfl
                try simp only [Act.put, sa, s0, s1]
                refine tk_ 10 (v := ?_) rfl ?_ ?_
                rotate_left
                · intro wS hSw; go_simp; all_goals with_reducible rfl
                try simp only [Act.put, sa, s0, s1]
                refine tk_ 11 (v := ?_) rfl ?_ ?_
                rotate_left
                · intro wS hSw; go_simp; all_goals with_reducible rfl
                try simp only [Act.put, sa, s0, s1]
                refine tk_ 12 (v := ?_) rfl ?_ ?_
                rotate_left
                · intro wS hSw; go_simp; all_goals with_reducible rfl
                try simp only [Act.put, sa, s0, s1]
                refine tk_ 13 (v := ?_) rfl ?_ ?_
                rotate_left
                · intro wS hSw; go_simp; all_goals with_reducible rfl
                try simp only [Act.put, sa, s0, s1]
                refine wpAnyH_take (i := 14) (oi := ⟨_, _, _, _, _, _⟩) rfl (by kernel_rfl) (by kernel_rfl) (by kernel_rfl) (fun _ _ _ h => h) (yields_row 34 (.tmp 28) (g18) c3 _ (fun w hh => HR28.out.below hh HR28.out.lt) Tryz.underlying34 (by rfl) rfl rfl rfl HI_c3.out.1) (by assumption) ?_
                try simp only [Act.put, sa, s0, s1]
                refine wpAnyH_take (i := 15) (oi := ⟨_, _, _, _, _, _⟩) rfl (by kernel_rfl) (by kernel_rfl) (by kernel_rfl) (fun _ _ _ h => h) (yields_row 34 (.tmp 30) (g30) c3 _ (fun w hh => HR30.out.below hh HR30.out.lt) Tryz.underlying34 (by rfl) rfl rfl rfl HI_c3.out.1) (by assumption) ?_
                try simp only [Act.put, sa, s0, s1]
                refine rd 16 (by kernel_rfl) rfl fun K hK => ?_
                go_simp
                go_at_call 16
                refine (HS3.out _).mono ?_
                rintro e V43 ⟨rfl, hv43⟩
                have HD43 : Hid (Below W30.heap.size W30 V43) := Lib.hid (HD42.out.trans (hv43.mono HD42.out.size))
                clear hv43
                go_wp2_with fail
                refine hK.out _ _ (HD43.out) (fun hHeld => ?_)
                clear hK K
                try simp only [Act.put, sa, s0, s1]
                refine tk_ 17 (v := ?_) rfl ?_ ?_
                rotate_left
                · intro wS hSw; go_simp; all_goals with_reducible rfl
                try simp only [Act.put, sa, s0, s1]
                refine tk_ 18 (v := ?_) rfl ?_ ?_
                rotate_left
                · intro wS hSw; go_simp; all_goals with_reducible rfl
                try simp only [Act.put, sa, s0, s1]
                refine tk_ 19 (v := ?_) rfl ?_ ?_
                rotate_left
                · intro wS hSw; go_simp; all_goals with_reducible rfl
                try simp only [Act.put, sa, s0, s1]
                refine wpAnyH_take (i := 20) (oi := ⟨_, _, _, _, _, _⟩) rfl (by kernel_rfl) (by kernel_rfl) (by kernel_rfl) (fun _ _ _ h => h) (yields_row 27 (.tmp 11) (N11) bs _ (fun w h => HXX.out.1.below (HS_42.out w h) HXX.out.1.lt) Tryz.underlying27 (by rfl) rfl rfl rfl HBI.out) (by assumption) ?_
                try simp only [Act.put, sa, s0, s1]
                refine tk_ 21 (v := ?_) rfl ?_ ?_
                rotate_left
                · intro wS hSw; go_simp; all_goals with_reducible rfl
                try simp only [Act.put, sa, s0, s1]
                refine tk_ 22 (v := ?_) rfl ?_ ?_
                rotate_left
                · intro wS hSw; go_simp; all_goals with_reducible rfl
                try simp only [Act.put, sa, s0, s1]
                refine wpAnyH_take (i := 25) (oi := ⟨_, _, _, _, _, _⟩) rfl (by kernel_rfl) (by kernel_rfl) (by kernel_rfl) (fun _ _ _ h => h) (yields_row 27 (.tmp 11) (N11) bs _ (fun w h => HXX.out.1.below (HS_42.out w h) HXX.out.1.lt) Tryz.underlying27 (by rfl) rfl rfl rfl HBI.out) (by assumption) ?_
                try simp only [Act.put, sa, s0, s1]
                refine tk_ 26 (v := ?_) rfl ?_ ?_
                rotate_left
                · intro wS hSw; go_simp; all_goals with_reducible rfl
                try simp only [Act.put, sa, s0, s1]
                refine tk_ 27 (v := ?_) rfl ?_ ?_
                rotate_left
                · intro wS hSw; go_simp; all_goals with_reducible rfl
                try simp only [Act.put, sa, s0, s1]
                refine rd 23 (by kernel_rfl) rfl fun K hK => ?_
                go_simp
                go_at_call 11
                refine (HPQ.out _).mono ?_
                rintro e V44 ⟨rfl, rfl⟩
                go_wp2_with fail
                refine hK.out _ _ (HD43.out) (fun hHeld => ?_)
                clear hK K
                try simp only [Act.put, sa, s0, s1]
                refine rd 24 (by kernel_rfl) rfl fun K hK => ?_
                go_simp
                go_at_call 23
                refine (HC11.out _ (HS_42.out _ HD43.out)).mono ?_
                rintro e V45 ⟨rfl, hv45⟩
                have HD45 : Hid (Below W30.heap.size W30 V45) := Lib.hid (HD43.out.trans (hv45.mono HD43.out.size))
                clear hv45
                go_wp2_with fail
                refine hK.out _ _ (HD45.out) (fun hHeld => ?_)
                clear hK K
                try simp only [Act.put, sa, s0, s1]
                refine rd 28 (by kernel_rfl) rfl fun K hK => ?_
                go_simp
                go_at_call 11
                refine (HPQ.out _).mono ?_
                rintro e V46 ⟨rfl, rfl⟩
                go_wp2_with fail
                refine hK.out _ _ (HD45.out) (fun hHeld => ?_)
                clear hK K
                try simp only [Act.put, sa, s0, s1]
                refine rd 29 (by kernel_rfl) rfl fun K hK => ?_
                go_simp
                go_at_call 24
                refine (HC12.out _ (HS_42.out _ HD45.out)).mono ?_
                rintro e V47 ⟨rfl, hv47⟩
                have HD47 : Hid (Below W30.heap.size W30 V47) := Lib.hid (HD45.out.trans (hv47.mono HD45.out.size))
                clear hv47
                go_wp2_with fail
                refine hK.out _ _ (HD47.out) (fun hHeld => ?_)
                clear hK K
                try simp only [Act.put, sa, s0, s1]
                refine tk_ 30 (v := ?_) rfl ?_ ?_
                rotate_left
                · intro wS hSw; go_simp; all_goals with_reducible rfl
                try simp only [Act.put, sa, s0, s1]
                refine tk_ 31 (v := ?_) rfl ?_ ?_
                rotate_left
                · intro wS hSw; go_simp; all_goals with_reducible rfl
                try simp only [Act.put, sa, s0, s1]
                refine wpAnyH_done (by kernel_rfl) ?_ _
                have HEND : Hid (Below X2.heap.size X2 V47) := Lib.hid (HS_42.out _ HD47.out)
                go_wp2_with fail
                go_roundw
                case rel => exact ⟨j + 1, by go_num, by omega, HEND⟩
                case measure => simp [RowKit.intOf]; omega
          · obtain rfl : j = 2 := by omega
            go_wp2_with fail
            go_roundw
            case rel => exact ⟨i + 1, by go_num, by omega, Lib.hid (HX02.out.trans (HBj.out.mono HX02.out.size))⟩
            case measure => simp [RowKit.intOf]; omega
      · obtain rfl : i = 2 := by omega
        have HBR : Hid (RowAt wr N11 27 bs ∧ BaseR wr bs LA ∧ Below w.heap.size w wr) := Lib.hid ⟨HX.out.1.below HBi.out HX.out.1.lt, HX.out.2.1.more HBi.out, HX.out.2.2.2.trans (HBi.out.mono HX.out.2.2.2.size)⟩
        have HL1 : Hid (∀ j v, bs[j]? = some v → wr.cell? ⟨N11, 0 + j, none⟩ = some v) := Lib.hid (fun j v hv => by rw [Nat.zero_add, HBR.out.1.cell]; exact hv)
        have HH1 := Lib.hid (holders_any bs LA wr HBR.out.2.1 (fun q => Nat.le_trans (HX.out.2.2.1 q) (by decide)))
        have HH2 := Lib.hid (fun W (hW : Below wr.heap.size wr W) => rholders_any bs LA W (HBR.out.2.1.more hW) (fun q => Nat.le_trans (HX.out.2.2.1 q) (by decide)))
        obtain ⟨R, hR⟩ : ∃ z, holdersF LA = z := ⟨_, rfl⟩
        have HRL : Hid (R.length ≤ 200) := Lib.hid (by
          rw [← hR, holders_fold]
          have h1 := foldH_len (hol (LA 2) ++ hol (LA 3))
          rw [List.length_append, hol_len, hol_len] at h1
          have h2 := HX.out.2.2.1 2
          have h3 := HX.out.2.2.1 3
          omega)
        rw [hR] at HH1 HH2
        clear hR
        go_wp2_with (first | ((with_reducible refine load_base (o := ⟨some 189, _, _, _, _, _⟩) (.tmp 11) N11 bs HL1.out HBI.out ?_ ?_ ?_ ?_); rfl; rfl; rfl))
        refine HH1.out.mono ?_
        rintro e Y1 ⟨v1, rfl, hi1, hy1⟩
        have HY1 := Lib.hid hy1
        have HL2 : Hid (∀ j v, bs[j]? = some v → Y1.cell? ⟨N11, 0 + j, none⟩ = some v) := Lib.hid (fun j v hv => by rw [Nat.zero_add, (HBR.out.1.below HY1.out HBR.out.1.lt).cell]; exact hv)
        obtain ⟨A1, c1, rfl, hr1⟩ := hi1
        have HR1 := Lib.hid hr1
        clear hy1 hr1
        go_wp2_with (first | ((with_reducible refine load_base (o := ⟨some 191, _, _, _, _, _⟩) (.tmp 11) N11 bs HL2.out HBI.out ?_ ?_ ?_ ?_); rfl; rfl; rfl))
        refine (HH2.out Y1 HY1.out).mono ?_
        rintro e Y2 ⟨v2, rfl, hi2, hy2⟩
        have HY2 := Lib.hid hy2
        obtain ⟨A2, c2, rfl, hr2⟩ := hi2
        have HR2 := Lib.hid hr2
        have HYB : Hid (Below w.heap.size w Y2) := Lib.hid ((HBR.out.2.2.trans (HY1.out.mono HBR.out.2.2.size)).trans (HY2.out.mono (Nat.le_trans HBR.out.2.2.size HY1.out.size)))
        have HE1 : Hid (∀ j x, R[j]? = some x → ∃ b, A1 = some ⟨b, 0, none⟩ ∧ Y2.cell? ⟨b, j, none⟩ = some (.int .i64 x)) := Lib.hid (fun j x hx => by
          rcases HR1.out with h0 | ⟨b, e, hlt, hc⟩
          · rw [h0] at hx; simp at hx
          · exact ⟨b, e, (HY2.out.cell (p := ⟨b, j, none⟩) hlt).trans (hc j x hx)⟩)
        have HE2 : Hid (∀ j x, R[j]? = some x → ∃ b, A2 = some ⟨b, 0, none⟩ ∧ Y2.cell? ⟨b, j, none⟩ = some (.int .i64 x)) := Lib.hid (fun j x hx => by
          rcases HR2.out with h0 | ⟨b, e, hlt, hc⟩
          · rw [h0] at hx; simp at hx
          · exact ⟨b, e, hc j x hx⟩)
        obtain ⟨rl, hrl⟩ : ∃ z, R.length = z := ⟨_, rfl⟩
        have HRR := Lib.hid hrl
        rw [hrl] at HRL ⊢
        have hrl2 : rl ≤ 200 := HRL.out
        have qrl : ((rl : Int) != (rl : Int)) = false := by simp
        have qrl2 : (rl != rl) = false := by simp
        clear hy2 hr2 hrl
        go_wp2_with fail
        go_loopw [34] (fun iv wr => ∃ i : Nat, iv = .int .i64 i ∧ i ≤ rl ∧ Hid (Below Y2.heap.size Y2 wr)) (fun iv _ => rl - (RowKit.intOf iv).toNat)
        case atStart => exact ⟨0, rfl, by omega, Lib.hid (Below.refl _ _)⟩
        case round =>
          obtain ⟨i, rfl, hi3, HW⟩ := hrel
          by_cases hi4 : i < rl
          · obtain ⟨x, hx⟩ : ∃ x, R[i]? = some x := ⟨_, List.getElem?_eq_getElem (by rw [HRR.out]; exact hi4)⟩
            obtain ⟨g1, rfl, hd1⟩ := HE1.out i x hx
            obtain ⟨g2, rfl, hd2⟩ := HE2.out i x hx
            have hc1 : wr.cell? ⟨g1, i, none⟩ = some (.int .i64 x) := (HW.out.cell (p := ⟨g1, i, none⟩) (World.block_lt_of_cell? _ _ hd1)).trans hd1
            have hc2 : wr.cell? ⟨g2, i, none⟩ = some (.int .i64 x) := (HW.out.cell (p := ⟨g2, i, none⟩) (World.block_lt_of_cell? _ _ hd2)).trans hd2
            have qx : (x != x) = false := by simp
            have hid : decide (i < rl) = true := by simpa using hi4
            clear hx hd1 hd2
            go_upto_region 33 with fail
            go_quiet (fail)
            go_wp2_with fail
            go_roundw
            case rel => exact ⟨i + 1, by go_num, by omega, by first | exact Lib.hid HW.out | exact Lib.hid HW.out.drew | exact Lib.hid (below_drewN HW.out _)⟩
            case measure => simp [RowKit.intOf]; omega
          · obtain rfl : i = rl := by omega
            have hid : decide (i < i) = false := by simp
            go_wp2_with fail
            go_ret
            exact ⟨rfl, HYB.out.trans (HW.out.mono HYB.out.size)⟩
end Go.Proofs.YtgjajhopjcdflaaGreat
