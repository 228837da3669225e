import Derived.Test.YtgjajhopjcdflaaGreatFlEa
import Derived.Test.YtgjajhopjcdflaaGreatFlEb
import Derived.Test.YtgjajhopjcdflaaGreatFlEc
import Derived.Test.YtgjajhopjcdflaaGreatFlEd
import Derived.Test.YtgjajhopjcdflaaGreatFlEe
import Derived.Test.YtgjajhopjcdflaaGreatFpB
namespace Go.Proofs.YtgjajhopjcdflaaGreat
open Go Go.RowKit Go.Lib Go.Shelf Go.Maps
theorem make_any (x : Nat → Int) (w : World) (hx : ∀ j, -9223372036854775808 ≤ x j ∧ x j ≤ 9223372036854775807) :
    Calls Tryz.prog 27 #[six x] w fun e w' => e = .returned (.agg (makeX x).cells) ∧ Below w.heap.size w w' := by
  have b0 := pickN_bd (x 0) 10 (by omega)
  rcases (by omega : pickN (x 0) 10 = 0 ∨ pickN (x 0) 10 = 1 ∨ pickN (x 0) 10 = 2 ∨ pickN (x 0) 10 = 3 ∨ pickN (x 0) 10 = 4 ∨ pickN (x 0) 10 = 5 ∨ pickN (x 0) 10 = 6 ∨ pickN (x 0) 10 = 7 ∨ pickN (x 0) 10 = 8 ∨ pickN (x 0) 10 = 9) with h | h | h | h | h | h | h | h | h | h
  · exact make_k0 x w hx h
  · exact make_k1 x w hx h
  · exact make_k2 x w hx h
  · rcases (by omega : pickN (x 4) 1000 % 4 = 0 ∨ pickN (x 4) 1000 % 4 = 1 ∨ pickN (x 4) 1000 % 4 = 2 ∨ pickN (x 4) 1000 % 4 = 3) with hr | hr | hr | hr
    · exact make_k3r0 x w hx h hr
    · exact make_k3r1 x w hx h hr
    · exact make_k3r2 x w hx h hr
    · exact make_k3r3 x w hx h hr
  · exact make_k4 x w hx h
  · exact make_k5 x w hx h
  · exact make_k6 x w hx h
  · exact make_k7 x w hx h
  · rcases (by omega : pickN (x 4) 1000 % 3 = 0 ∨ pickN (x 4) 1000 % 3 = 1 ∨ pickN (x 4) 1000 % 3 = 2) with hr | hr | hr
    · exact make_k8r0 x w hx h hr
    · exact make_k8r1 x w hx h hr
    · exact make_k8r2 x w hx h hr
  · exact make_k9 x w hx h
end Go.Proofs.YtgjajhopjcdflaaGreat
namespace Go.Proofs.YtgjajhopjcdflaaGreat
open Go Go.RowKit Go.Lib Go.Shelf Go.Maps

/-- a slice of arrays of six integers -/
def XsAt (w : World) (v : Value) (m : Nat) (X : Nat → Nat → Int) : Prop :=
  (∀ i j, -9223372036854775808 ≤ X i j ∧ X i j ≤ 9223372036854775807) ∧
  ((m = 0 ∧ ∃ A c, v = .slice A 0 c) ∨ ∃ b o c, v = .slice (some ⟨b, o, none⟩) m c ∧ b < w.heap.size ∧ ∀ i j, i < m → j < 6 → w.cell? ⟨b, o + i * 6 + j, none⟩ = some (.int .i64 (X i j)))
theorem XsAt.more {w w' : World} {v : Value} {m : Nat} {X : Nat → Nat → Int} (h : XsAt w v m X) (hb : Below w.heap.size w w') : XsAt w' v m X := by
  refine ⟨h.1, ?_⟩
  rcases h.2 with h | ⟨b, o, c, rfl, hlt, h⟩
  · exact .inl h
  · exact .inr ⟨b, o, c, rfl, Nat.lt_of_lt_of_le hlt hb.size, fun i j hi hj => (hb.cell (p := ⟨b, o + i * 6 + j, none⟩) hlt).trans (h i j hi hj)⟩
theorem XsAt.sl {w : World} {v : Value} {m : Nat} {X : Nat → Nat → Int} (h : XsAt w v m X) : ∃ A c, v = .slice A m c := by
  rcases h.2 with ⟨rfl, A, c, rfl⟩ | ⟨b, o, c, rfl, _⟩ <;> exact ⟨_, _, rfl⟩
theorem XsAt.get {w : World} {A : Option Addr} {n c m : Nat} {X : Nat → Nat → Int} (h : XsAt w (.slice A n c) m X) {i : Nat} (hi : i < m) :
    ∃ b o, A = some ⟨b, o, none⟩ ∧ ∀ j, j < 6 → w.cell? ⟨b, o + i * 6 + j, none⟩ = some (.int .i64 (X i j)) := by
  rcases h.2 with ⟨h0, _⟩ | ⟨b, o, c', he, _, hc⟩
  · omega
  · cases he
    exact ⟨b, o, rfl, fun j hj => hc i j hi hj⟩
/-- the facts that the integers determine, with arbitrary ones between them -/
def factsL (X : Nat → Nat → Int) (fs : List FactV) : Nat → List FactV
  | 0 => []
  | i + 1 => factsL X fs i ++ [makeX (X i)] ++ (if i < 10 then (fs[i]?).toList else [])
theorem factsL_len (X : Nat → Nat → Int) (fs : List FactV) : ∀ i, (factsL X fs i).length ≤ 2 * i
  | 0 => by simp [factsL]
  | i + 1 => by
    have := factsL_len X fs i
    simp only [factsL, List.length_append, List.length_cons, List.length_nil]
    split
    · cases fs[i]? <;> simp <;> omega
    · simp; omega
theorem build_fact {ops : Array Oper} {rest : List Oper} {o : Oper} {a : Act} {w : World} {Q : Exit → Act → World → Prop} (x : Operand) (cs : Array Value) (f : FactV) (hcs : f.cells = cs) (hgd : o.guard = none) (ho : o.op = .buildSlice 23 1 #[(0, x)]) (hx : a.eval x = .agg cs)
    (h : wpList Tryz.prog ops Q rest (a.put o.dst (.slice (some ⟨w.heap.size, 0, none⟩) 1 1)) (w.alloc (.cells cs 34))) : wpList Tryz.prog ops Q (o :: rest) a w :=
  wpList_plain hgd fun _ hK => wp_build_fact x cs f hcs ho hx (hK _ _ h)
theorem append_fact {ops : Array Oper} {rest : List Oper} {o : Oper} {a : Act} {w : World} {Q : Exit → Act → World → Prop} (s x : Operand) (base : Nat) (L : List FactV) (f : FactV) (b : Nat) (v : Value) (hown : OwnF w base v L) (hlen : L.length ≤ 1000000) (hbase : base ≤ w.heap.size)
    (hnews : ∀ (j : Nat) u, f.cells.toList[j]? = some u → w.cell? ((⟨b, 0, none⟩ : Addr).add j) = some u)
    (hgd : o.guard = none) (ho : o.op = .call { callee := .builtin .append, args := #[s, x], argTypes := #[23, 23] })
    (hs : a.eval s = v) (hx : a.eval x = .slice (some ⟨b, 0, none⟩) 1 1)
    (h : ∀ v' w', OwnF w' base v' (L ++ [f]) → Below base w w' → wpList Tryz.prog ops Q rest (a.put o.dst v') w') : wpList Tryz.prog ops Q (o :: rest) a w :=
  wpList_plain hgd fun _ hK => wp_append_fact s x base L f b v hown hlen hbase hnews ho hs hx (fun v' w' h1 h2 _ => hK _ _ (h v' w' h1 ((Below.refl _ _).grown h2 hbase (fun j e => (hown.lt j e).1))))
set_option maxRecDepth 100000 in
set_option maxHeartbeats 8000000 in
theorem facts_any (X : Nat → Nat → Int) (fs : List FactV) (m : Nat) (vx vf : Value) (w : World) (hm : m ≤ 140737488351232) (hx : XsAt w vx m X) (hf : FactsAt w vf fs) :
    Calls Tryz.prog 6 #[vx, vf] w fun e w' => ∃ v, e = .returned v ∧ OwnF w' w.heap.size v (factsL X fs (min m 50)) ∧ Below w.heap.size w w' := by
  have HX := Lib.hid hx
  have HF := Lib.hid hf
  obtain ⟨A, c, rfl⟩ := hx.sl
  obtain ⟨B, d, rfl⟩ := hf.sl
  obtain ⟨n, hn⟩ : ∃ z, fs.length = z := ⟨_, rfl⟩
  rw [hn] at HF ⊢
  have HN := Lib.hid hn
  clear hx hf hn
  go_enter Tryz.func6, Tryz.ntmps6
  go_wp2_with fail
  go_loopw [5, 6] (fun v5 v6 wr => ∃ i : Nat, v6 = .int .i64 i ∧ i ≤ m ∧ i ≤ 50 ∧ Hid (OwnF wr w.heap.size v5 (factsL X fs i) ∧ Below w.heap.size w wr)) (fun _ v6 _ => 50 - (RowKit.intOf v6).toNat)
  case atStart => exact ⟨0, rfl, by omega, by omega, Lib.hid ⟨OwnF.nil _ _, Below.refl _ _⟩⟩
  case round =>
    obtain ⟨i, rfl, hi, hi50, HS⟩ := hrel
    by_cases h1 : i < m
    · have h1d : decide (i < m) = true := by simpa using h1
      by_cases h2 : i < 50
      · have h2d : decide ((i : Int) < 50) = true := by simp; omega
        obtain ⟨b, o, rfl, hc⟩ := (HX.out.more HS.out.2).get h1
        have c0 := hc 0 (by omega)
        have c1 := hc 1 (by omega)
        have c2 := hc 2 (by omega)
        have c3 := hc 3 (by omega)
        have c4 := hc 4 (by omega)
        have c5 := hc 5 (by omega)
        rw [Nat.add_zero] at c0
        have HMK := Lib.hid (fun W => make_any (X i) W (HX.out.1 i))
        unfold six at HMK
        have HML := Lib.hid (show factsL X fs (i + 1) = factsL X fs i ++ [makeX (X i)] ++ (if i < 10 then (fs[i]?).toList else []) from rfl)
        obtain ⟨f, hfm⟩ : ∃ z, makeX (X i) = z := ⟨_, rfl⟩
        rw [hfm] at HML
        simp only [hfm] at HMK
        obtain ⟨y0, e0⟩ : ∃ z, X i 0 = z := ⟨_, rfl⟩
        obtain ⟨y1, e1⟩ : ∃ z, X i 1 = z := ⟨_, rfl⟩
        obtain ⟨y2, e2⟩ : ∃ z, X i 2 = z := ⟨_, rfl⟩
        obtain ⟨y3, e3⟩ : ∃ z, X i 3 = z := ⟨_, rfl⟩
        obtain ⟨y4, e4⟩ : ∃ z, X i 4 = z := ⟨_, rfl⟩
        obtain ⟨y5, e5⟩ : ∃ z, X i 5 = z := ⟨_, rfl⟩
        rw [e0] at c0 HMK
        rw [e1] at c1 HMK
        rw [e2] at c2 HMK
        rw [e3] at c3 HMK
        rw [e4] at c4 HMK
        rw [e5] at c5 HMK
        obtain ⟨cf, hcf⟩ : ∃ z, f.cells = z := ⟨_, rfl⟩
        have HCF := Lib.hid hcf
        simp only [hcf] at HMK
        have HH := Lib.hid (And.intro h1 h2)
        clear hc e0 e1 e2 e3 e4 e5 hfm hcf
        go_wp2_with fail
        refine (HMK.out wr).mono ?_
        rintro e W2 ⟨rfl, hb2⟩
        have HO2 : Hid (OwnF W2 w.heap.size u5 (factsL X fs i) ∧ Below w.heap.size w W2) := Lib.hid ⟨HS.out.1.below hb2, HS.out.2.trans (hb2.mono HS.out.2.size)⟩
        have HB2 : Hid (Below W2.heap.size W2 (W2.alloc (.cells cf 34))) := Lib.hid ((Below.refl _ _).alloc (Nat.le_refl _) _)
        have HNW : Hid (∀ (j2 : Nat) u, f.cells.toList[j2]? = some u → (W2.alloc (.cells cf 34)).cell? ((⟨W2.heap.size, 0, none⟩ : Addr).add j2) = some u) := Lib.hid (by rw [← HCF.out]; exact fact_new W2 f _)
        have HLN : Hid ((factsL X fs i).length ≤ 1000000) := Lib.hid (by have := factsL_len X fs i; omega)
        clear hb2 c0 c1 c2 c3 c4 c5
        by_cases h3 : i < n
        · have h3d : decide (i < n) = true := by simpa using h3
          obtain ⟨fr, hfr⟩ : ∃ x, fs[i]? = some x := ⟨_, List.getElem?_eq_getElem (by have := HN.out; omega)⟩
          by_cases h4 : i < 10
          · have h4d : decide ((i : Int) < 10) = true := by simp; omega
            have HRW : Hid (factsL X fs i ++ [f] ++ (if i < 10 then (fs[i]?).toList else []) = factsL X fs i ++ [f] ++ [fr]) := Lib.hid (by rw [if_pos h4, hfr]; rfl)
            obtain ⟨b2, o2, rfl, hlt2, hcr⟩ := HF.out.get hfr
            have HCR := Lib.hid hcr
            have HLT := Lib.hid hlt2
            have HRS : Hid ((Tryz.prog.info? 34).map (·.size) = some fr.cells.size) := Lib.hid fact_size
            obtain ⟨cr, hcr2⟩ : ∃ z, fr.cells = z := ⟨_, rfl⟩
            have HC2 := Lib.hid hcr2
            rw [hcr2] at HCR HRS
            clear hfr hcr hlt2 hcr2
            have HL3 : Hid ((factsL X fs i ++ [f]).length ≤ 1000000) := Lib.hid (by have h := factsL_len X fs i; rw [List.length_append, List.length_singleton]; omega)
            go_wp2_with (first | ((with_reducible refine build_fact (o := ⟨some 23, _, _, _, _, _⟩) (.tmp 22) cf f HCF.out ?_ ?_ ?_ ?_); rfl; rfl; rfl) | ((with_reducible refine append_fact (o := ⟨some 24, _, _, _, _, _⟩) (.tmp 17) (.tmp 23) w.heap.size (factsL X fs i) f W2.heap.size u5 (OwnF.below HO2.out.1 HB2.out) HLN.out (Nat.le_trans HO2.out.2.size HB2.out.size) HNW.out ?_ ?_ ?_ ?_ ?_); rfl; rfl; rfl; rfl; intro v3 W3 hown3 hbl3; have H3 := Lib.hid (And.intro hown3 (HO2.out.2.trans ((HB2.out.mono HO2.out.2.size).trans hbl3))); clear hown3 hbl3; have HO3 : Hid (OwnF (W3.alloc (.cells cr 34)) w.heap.size v3 (factsL X fs i ++ [f])) := Lib.hid (OwnF.below H3.out.1 ((Below.refl _ _).alloc (Nat.le_refl _) _)); have HS3 : Hid (w.heap.size ≤ (W3.alloc (.cells cr 34)).heap.size) := Lib.hid (Nat.le_trans H3.out.2.size (Below.size ((Below.refl W3.heap.size W3).alloc (Nat.le_refl _) _))); have HN3 : Hid (∀ (j2 : Nat) u, fr.cells.toList[j2]? = some u → (W3.alloc (.cells cr 34)).cell? ((⟨W3.heap.size, 0, none⟩ : Addr).add j2) = some u) := Lib.hid (by rw [← HC2.out]; exact fact_new W3 fr _)) | ((with_reducible refine load_at (o := ⟨some 37, _, _, _, _, _⟩) (.tmp 36) b2 (o2 + i * 18) cr (fun j2 x hx => (H3.out.2.cell (p := ⟨b2, o2 + i * 18 + j2, none⟩) HLT.out).trans (HCR.out j2 x hx)) HRS.out ?_ ?_ ?_ ?_); rfl; rfl; rfl) | ((with_reducible refine build_fact (o := ⟨some 38, _, _, _, _, _⟩) (.tmp 37) cr fr HC2.out ?_ ?_ ?_ ?_); rfl; rfl; rfl) | ((with_reducible refine append_fact (o := ⟨some 39, _, _, _, _, _⟩) (.tmp 33) (.tmp 38) w.heap.size (factsL X fs i ++ [f]) fr W3.heap.size v3 HO3.out HL3.out HS3.out HN3.out ?_ ?_ ?_ ?_ ?_); rfl; rfl; rfl; rfl; intro v4 W4 hown4 hbl4))
            have hownZ := hown4
            have HBZ : Below w.heap.size w W4 := H3.out.2.trans (((Below.refl _ _).alloc H3.out.2.size _).trans hbl4)
            go_roundw
            case rel => exact ⟨i + 1, by go_num, by have := HH.out; omega, by have := HH.out; omega, Lib.hid ⟨by rw [HML.out, HRW.out]; exact hownZ, HBZ⟩⟩
            case measure => simp [RowKit.intOf]; have := HH.out; omega
          · have h4d : decide ((i : Int) < 10) = false := by simp; omega
            have HRW : Hid (factsL X fs i ++ [f] ++ (if i < 10 then (fs[i]?).toList else []) = factsL X fs i ++ [f]) := Lib.hid (by rw [if_neg h4]; simp)
            clear hfr
            go_wp2_with (first | ((with_reducible refine build_fact (o := ⟨some 23, _, _, _, _, _⟩) (.tmp 22) cf f HCF.out ?_ ?_ ?_ ?_); rfl; rfl; rfl) | ((with_reducible refine append_fact (o := ⟨some 24, _, _, _, _, _⟩) (.tmp 17) (.tmp 23) w.heap.size (factsL X fs i) f W2.heap.size u5 (OwnF.below HO2.out.1 HB2.out) HLN.out (Nat.le_trans HO2.out.2.size HB2.out.size) HNW.out ?_ ?_ ?_ ?_ ?_); rfl; rfl; rfl; rfl; intro v3 W3 hown3 hbl3; have H3 := Lib.hid (And.intro hown3 (HO2.out.2.trans ((HB2.out.mono HO2.out.2.size).trans hbl3))); clear hown3 hbl3))
            go_roundw
            case rel => exact ⟨i + 1, by go_num, by have := HH.out; omega, by have := HH.out; omega, Lib.hid ⟨by rw [HML.out, HRW.out]; exact H3.out.1, H3.out.2⟩⟩
            case measure => simp [RowKit.intOf]; have := HH.out; omega
        · have h3d : decide (i < n) = false := by simp; omega
          have HRW : Hid (factsL X fs i ++ [f] ++ (if i < 10 then (fs[i]?).toList else []) = factsL X fs i ++ [f]) := Lib.hid (by rw [List.getElem?_eq_none (by have := HN.out; omega)]; simp)
          go_wp2_with (first | ((with_reducible refine build_fact (o := ⟨some 23, _, _, _, _, _⟩) (.tmp 22) cf f HCF.out ?_ ?_ ?_ ?_); rfl; rfl; rfl) | ((with_reducible refine append_fact (o := ⟨some 24, _, _, _, _, _⟩) (.tmp 17) (.tmp 23) w.heap.size (factsL X fs i) f W2.heap.size u5 (OwnF.below HO2.out.1 HB2.out) HLN.out (Nat.le_trans HO2.out.2.size HB2.out.size) HNW.out ?_ ?_ ?_ ?_ ?_); rfl; rfl; rfl; rfl; intro v3 W3 hown3 hbl3; have H3 := Lib.hid (And.intro hown3 (HO2.out.2.trans ((HB2.out.mono HO2.out.2.size).trans hbl3))); clear hown3 hbl3))
          go_roundw
          case rel => exact ⟨i + 1, by go_num, by have := HH.out; omega, by have := HH.out; omega, Lib.hid ⟨by rw [HML.out, HRW.out]; exact H3.out.1, H3.out.2⟩⟩
          case measure => simp [RowKit.intOf]; have := HH.out; omega
      · have h2d : decide ((i : Int) < 50) = false := by simp; omega
        have e : min m 50 = i := by omega
        go_wp2_with fail
        go_ret
        exact ⟨_, rfl, by rw [e]; exact HS.out.1, HS.out.2⟩
    · have h1d : decide (i < m) = false := by simp; omega
      have e : min m 50 = i := by omega
      go_wp2_with fail
      go_ret
      exact ⟨_, rfl, by rw [e]; exact HS.out.1, HS.out.2⟩
end Go.Proofs.YtgjajhopjcdflaaGreat
