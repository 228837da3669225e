/- Verify. -/
import Derived.Test.YtgmdjbhclihflaaDoorDgU
namespace Go.Proofs.YtgmdjbhclihflaaDoor
open Go Go.RowKit Go.Lib Go.Shelf
attribute [local go_sem] Oper.semAt_some

/-- the value of a proof that is read from its last element on -/
def verV : Nat → Nat → Nat → List UInt8 → List (List UInt8) → Option (List UInt8)
  | 0, _, _, _, _ => none
  | f + 1, n, i, s, rp => if n ≤ 1 then (if rp = [] then some (leafB s) else none) else match rp with
    | [] => none
    | x :: r => if i < leftN n then (verV f (leftN n) i s r).map (joinB (x, false)) else (verV f (n - leftN n) (i - leftN n) s r).map (joinB (x, true))
theorem verV_one {f n i : Nat} {s : List UInt8} {rp : List (List UInt8)} (h : n ≤ 1) : verV (f + 1) n i s rp = if rp = [] then some (leafB s) else none := by
  rw [verV.eq_def]; exact if_pos h
theorem verV_nil {f n i : Nat} {s : List UInt8} (h : ¬ n ≤ 1) : verV (f + 1) n i s [] = none := by
  rw [verV.eq_def]; exact if_neg h
theorem verV_cons {f n i : Nat} {s x : List UInt8} {r : List (List UInt8)} (h : ¬ n ≤ 1) : verV (f + 1) n i s (x :: r) = if i < leftN n then (verV f (leftN n) i s r).map (joinB (x, false)) else (verV f (n - leftN n) (i - leftN n) s r).map (joinB (x, true)) := by
  rw [verV.eq_def]; exact if_neg h
structure VeAt (w wr : World) (A : Option Addr) (c q n i : Nat) (v11 : Value) (V : Option (List UInt8)) (s : List UInt8) (pr : List (List UInt8)) (acc : List (List UInt8 × Bool)) (f : Nat) : Prop where
  len : pr.length = q
  cap : q ≤ c
  pos : 1 ≤ n
  lt : i < n
  fuel : n ≤ f
  big : n ≤ 9223372036854775807
  sls : SlS w (.slice A q c) pr
  digs : ∀ x ∈ pr, x.length = 32
  out : OwnD wr w.heap.size v11 acc
  adigs : ∀ p ∈ acc, p.1.length = 32
  below : Below w.heap.size w wr
  eq : (verV f n i s pr.reverse).map (fun v => acc.foldr joinB v) = V
  short : acc.length + q ≤ 10000
theorem VeAt.down {w wr w1 w2 : World} {A : Option Addr} {c q q' n n' i i' : Nat} {v v' : Value} {V : Option (List UInt8)} {s x : List UInt8} {b : Bool} {pr : List (List UInt8)} {acc : List (List UInt8 × Bool)} {f : Nat}
    (h : VeAt w wr A c q n i v V s pr acc f) (hb : Below wr.heap.size wr w1) (hw1 : OwnD w1 w.heap.size v acc) (ho : OwnD w2 w.heap.size v' (acc ++ [(x, b)])) (hg : w1.grownBy w2 v.ownBlock) (hq : q = q' + 1)
    (hd : verV f n i s pr.reverse = (verV (f - 1) n' i' s (pr.take q').reverse).map (joinB (x, b))) (hlt : n' < n) (hp : 1 ≤ n') (hi : i' < n') (hx : x.length = 32) :
    VeAt w w2 A c q' n' i' v' V s (pr.take q') (acc ++ [(x, b)]) (f - 1) := by
  have h0 := h.len; have h1 := h.cap; have h2 := h.fuel; have h3 := h.big; have h4 := h.short
  refine ⟨by simp; omega, by omega, hp, hi, by omega, by omega, h.sls.take q' (by omega), fun y hy => h.digs y (List.mem_of_mem_take hy), ho, fun p hp => ?_, ?_, ?_, by simp; omega⟩
  · rcases List.mem_append.1 hp with hp | hp
    · exact h.adigs p hp
    · rw [List.mem_singleton.1 hp]; exact hx
  · exact (h.below.trans (hb.mono h.below.size)).grown hg (Nat.le_trans h.below.size hb.size) (fun j e => (hw1.lt j e).1)
  · rw [← h.eq, hd, Option.map_map]
    congr 1
    funext v
    simp
theorem rev_take (pr : List (List UInt8)) {q : Nat} {x : List UInt8} (hx : pr[q]? = some x) (hl : pr.length = q + 1) : pr.reverse = x :: (pr.take q).reverse := by
  obtain ⟨h1, h2⟩ := List.getElem?_eq_some_iff.1 hx
  have : pr = pr.take q ++ [x] := by
    rw [← h2, ← List.take_succ_eq_append_getElem h1, List.take_of_length_le (by omega)]
  rw [this, List.reverse_append, List.take_left' (by simp; omega)]
  rfl
def verifyB (root : List UInt8) (n i : Int) (s : List UInt8) (proof : List (List UInt8)) : Bool := decide (0 ≤ i) && (decide (i < n) && (allD proof && (verV n.toNat n.toNat i.toNat s proof.reverse == some root)))
theorem allD_iff {xs : List (List UInt8)} : allD xs = true ↔ ∀ x ∈ xs, x.length = 32 := by
  unfold allD
  rw [List.all_eq_true]
  simp
theorem verify_out (root s : List UInt8) (n i : Int) (v : Value) (w : World) (h : ¬(0 ≤ i ∧ i < n)) :
    Calls Tryd.prog 21 #[.string ⟨root.toArray⟩, .int .i64 n, .int .i64 i, .string ⟨s.toArray⟩, v] w fun e w' => e = .returned (.bool false) ∧ w = w' := by
  refine (callsIn_wide (n := 9)).1 (callsIn_of_wp_marks Tryd.func21 rfl trivial ?_ rfl)
  simp only [Tryd.ntmps21, List.size_toArray, List.length_cons, List.length_nil, Nat.reduceAdd, Nat.reduceSub, Array.replicate_succ, Array.replicate_zero, List.push_toArray, List.append_toArray, List.nil_append, List.cons_append]
  refine wpIn_wide.2 ?_
  by_cases h1 : i < 0
  · have h1d : decide (i < 0) = true := decide_eq_true h1
    go_wp2_with fail
    exact ⟨.bool false, by simp [results, Tryd.results21, go_sem], rfl, rfl⟩
  · have h2 : n ≤ i := by omega
    have h1d : decide (i < 0) = false := decide_eq_false h1
    have h2d : decide (n ≤ i) = true := decide_eq_true h2
    go_wp2_with fail
    exact ⟨.bool false, by simp [results, Tryd.results21, go_sem], rfl, rfl⟩
theorem verify_odd (root s : List UInt8) (n i : Int) (v : Value) (pr : List (List UInt8)) (w : World) (h1 : 0 ≤ i) (h2 : i < n) (hv : SlS w v pr) (hbig : pr.length ≤ 10000) (ha : allD pr = false) :
    Calls Tryd.prog 21 #[.string ⟨root.toArray⟩, .int .i64 n, .int .i64 i, .string ⟨s.toArray⟩, v] w fun e w' => e = .returned (.bool false) ∧ w = w' := by
  have AL := Lib.hid (all_any v pr w hv hbig)
  rw [ha] at AL
  obtain ⟨A, c, rfl⟩ := hv.slice
  clear hv ha hbig
  refine (callsIn_wide (n := 9)).1 (callsIn_of_wp_marks Tryd.func21 rfl trivial ?_ rfl)
  simp only [Tryd.ntmps21, List.size_toArray, List.length_cons, List.length_nil, Nat.reduceAdd, Nat.reduceSub, Array.replicate_succ, Array.replicate_zero, List.push_toArray, List.append_toArray, List.nil_append, List.cons_append]
  refine wpIn_wide.2 ?_
  have h1d : decide (i < 0) = false := decide_eq_false (by omega)
  have h2d : decide (n ≤ i) = false := decide_eq_false (by omega)
  go_wp2_with fail
  refine AL.out.mono ?_
  rintro e w' ⟨rfl, rfl⟩
  go_wp2_with fail
  exact ⟨.bool false, by simp [results, Tryd.results21, go_sem], rfl, rfl⟩
set_option maxRecDepth 100000 in
set_option maxHeartbeats 4000000 in
theorem verify_in (root s : List UInt8) (n0 i0 : Nat) (A0 : Option Addr) (q0 c0 : Nat) (pr : List (List UInt8)) (w : World) (h2 : i0 < n0) (hn : n0 ≤ 9223372036854775807) (hv : SlS w (.slice A0 q0 c0) pr) (hq : pr.length = q0) (hqc : q0 ≤ c0) (hbig : q0 ≤ 5000) (ha : allD pr = true) (hs : s.length ≤ 10000) (hK : KAt w) :
    Calls Tryd.prog 21 #[.string ⟨root.toArray⟩, .int .i64 n0, .int .i64 i0, .string ⟨s.toArray⟩, .slice A0 q0 c0] w fun e w' => e = .returned (.bool (verV n0 n0 i0 s pr.reverse == some root)) ∧ Below w.heap.size w w' := by
  obtain ⟨V, hV⟩ : ∃ V, verV n0 n0 i0 s pr.reverse = V := ⟨_, rfl⟩
  rw [hV]
  have AL := Lib.hid (all_any _ pr w hv (by omega))
  rw [ha] at AL
  have HP : Hid (VeAt w w A0 c0 q0 n0 i0 (.slice none 0 0) V s pr [] n0) := Lib.hid ⟨hq, hqc, by omega, h2, Nat.le_refl _, hn, hv, allD_iff.1 ha, OwnD.nil _ _, fun p hp => by simp at hp, Below.refl _ _, by rw [hV]; cases V <;> rfl, by simp; omega⟩
  have HK := Lib.hid hK
  have HLS := Lib.hid hs
  clear hv ha hbig hV hs hq hqc
  refine (callsIn_wide (n := 9)).1 (callsIn_of_wp_marks Tryd.func21 rfl trivial ?_ rfl)
  simp only [Tryd.ntmps21, List.size_toArray, List.length_cons, List.length_nil, Nat.reduceAdd, Nat.reduceSub, Array.replicate_succ, Array.replicate_zero, List.push_toArray, List.append_toArray, List.nil_append, List.cons_append]
  refine wpIn_wide.2 ?_
  have h1d : decide ((i0 : Int) < 0) = false := by simp
  have h2d : decide (n0 ≤ i0) = false := by simp; omega
  go_wp2_with fail
  refine AL.out.mono ?_
  rintro e w' ⟨rfl, rfl⟩
  go_wp2_with fail
  go_loopw [1, 2, 4, 11] (fun v1 v2 v4 v11 wr => ∃ (A : Option Addr) (c q n i f : Nat) (pr : List (List UInt8)) (acc : List (List UInt8 × Bool)), v1 = .int .i64 n ∧ v2 = .int .i64 i ∧ v4 = .slice A q c ∧ Hid (VeAt w wr A c q n i v11 V s pr acc f)) (fun v1 _ _ _ _ => (RowKit.intOf v1).toNat)
  case atStart => exact ⟨_, _, _, _, _, _, _, _, rfl, rfl, rfl, HP⟩
  case round =>
    obtain ⟨A, c, q, n, i, f, pr, acc, rfl, rfl, rfl, HS⟩ := hrel
    clear HP h1d h2d h2 hn AL
    obtain ⟨v11, hv11⟩ : ∃ z, z = u11 := ⟨_, rfl⟩
    subst hv11
    have hpos := HS.out.pos
    have hcap := HS.out.cap
    have hbig := HS.out.big
    have hlt := HS.out.lt
    have hsh := HS.out.short
    obtain ⟨f', hf'⟩ : ∃ f', f = f' + 1 := ⟨f - 1, by have := HS.out.fuel; omega⟩
    by_cases hn1 : 1 < n
    · have hn1i : decide (1 < (n : Int)) = true := by simp; omega
      obtain ⟨k, hk⟩ : ∃ k, leftN n = k := ⟨_, rfl⟩
      obtain ⟨hk1, hk2, hk3⟩ := leftN_bd (show 2 ≤ n by omega) (by omega)
      by_cases hq0 : q = 0
      · subst hq0
        have heq := HS.out.eq
        rw [List.length_eq_zero_iff.1 HS.out.len, hf', List.reverse_nil, verV_nil (by omega)] at heq
        have TK := Lib.hid (take_nil A c wr)
        have HE : Hid (none = V) := Lib.hid heq
        clear heq hf' hk hk1 hk2 hk3
        go_wp2_with fail
        refine TK.out.mono ?_
        rintro e w' ⟨rfl, rfl⟩
        go_wp2_with fail
        refine ⟨.bool false, by simp [results, Tryd.results21, go_sem], ?_, HS.out.below⟩
        rw [← HE.out]
        rfl
      · obtain ⟨q', hqq⟩ : ∃ q', q = q' + 1 := ⟨q - 1, by omega⟩
        obtain ⟨x, hx⟩ : ∃ x, pr[q']? = some x := ⟨_, List.getElem?_eq_getElem (by rw [HS.out.len]; omega)⟩
        have TK := Lib.hid (take_cons A q' q c pr x wr (HS.out.sls.below HS.out.below) hqq HS.out.cap hx (by omega))
        have HX := Lib.hid hx
        have HQQ := Lib.hid hqq
        clear hx hqq hq0
        go_wp2_with fail
        by_cases hik : i < k
        · refine TK.out.mono ?_
          rintro e w1 ⟨rfl, kk, rfl⟩
          have LF := Lib.hid (left_any n (wr.drewN kk) (by omega) (by omega))
          rw [hk] at LF
          have hiki : decide (k ≤ i) = false := by simp; omega
          go_wp2_with fail
          refine LF.out.mono ?_
          rintro e w2 ⟨rfl, rfl⟩
          go_wp2_with (first | ((with_reducible refine wpList_stop (o := ⟨some 51, _, _, _, _, _⟩) ?_)))
          unfold Stop
          have b2 : Below wr.heap.size wr ((wr.drewN kk).alloc (.cells #[.string ⟨x.toArray⟩, .bool false] 57)) := (below_drewN (Below.refl _ _) kk).alloc (below_drewN (Below.refl wr.heap.size wr) kk).size _
          have o1 := HS.out.out.below b2
          have rx := RowAt.new (wr.drewN kk) 57 #[.string ⟨x.toArray⟩, .bool false]
          refine wpList_append_side rfl (.tmp 44) (.tmp 50) rfl rfl o1 (wr.drewN kk).heap.size 1 (x, false) rfl ?_ ?_ ?_ ?_ (fun v3 w3 hown hg => ?_)
          · rw [rx.cell 0]; rfl
          · rw [rx.cell 1]; rfl
          · have := HS.out.short; omega
          · exact Nat.le_trans HS.out.below.size b2.size
          have hdd : verV f n i s pr.reverse = (verV (f - 1) (k) (i) s (pr.take q').reverse).map (joinB (x, false)) := by
            rw [rev_take pr HX.out (by have := HS.out.len; have := HQQ.out; omega), hf', verV_cons (by omega), hk, if_pos hik]
            rfl
          have HN : Hid (VeAt w w3 A c q' (k) (i) v3 V s (pr.take q') (acc ++ [(x, false)]) (f - 1)) := Lib.hid (HS.out.down b2 o1 hown hg HQQ.out hdd (by omega) (by omega) (by omega) (HS.out.digs x (List.mem_of_getElem? HX.out)))
          clear hown hg hdd o1 b2 rx hf'
          go_wp2_with fail
          go_roundw
          case rel => exact ⟨_, _, _, _, _, _, _, _, by go_num, by go_num, rfl, HN⟩
          case measure => simp [RowKit.intOf]; omega

        · refine TK.out.mono ?_
          rintro e w1 ⟨rfl, kk, rfl⟩
          have LF := Lib.hid (left_any n (wr.drewN kk) (by omega) (by omega))
          rw [hk] at LF
          have hiki : decide (k ≤ i) = true := by simp; omega
          have e1 : IntKind.i64.wrap ((n : Int) - (k : Int)) = ((n - k : Nat) : Int) := by rw [IntWalk.i64_in _ (by omega)]; omega
          have e2 : IntKind.i64.wrap ((i : Int) - (k : Int)) = ((i - k : Nat) : Int) := by rw [IntWalk.i64_in _ (by omega)]; omega
          go_wp2_with fail
          refine LF.out.mono ?_
          rintro e w2 ⟨rfl, rfl⟩
          go_wp2_with (first | ((with_reducible refine wpList_stop (o := ⟨some 51, _, _, _, _, _⟩) ?_)))
          unfold Stop
          have b2 : Below wr.heap.size wr ((wr.drewN kk).alloc (.cells #[.string ⟨x.toArray⟩, .bool true] 57)) := (below_drewN (Below.refl _ _) kk).alloc (below_drewN (Below.refl wr.heap.size wr) kk).size _
          have o1 := HS.out.out.below b2
          have rx := RowAt.new (wr.drewN kk) 57 #[.string ⟨x.toArray⟩, .bool true]
          refine wpList_append_side rfl (.tmp 44) (.tmp 50) rfl rfl o1 (wr.drewN kk).heap.size 1 (x, true) rfl ?_ ?_ ?_ ?_ (fun v3 w3 hown hg => ?_)
          · rw [rx.cell 0]; rfl
          · rw [rx.cell 1]; rfl
          · have := HS.out.short; omega
          · exact Nat.le_trans HS.out.below.size b2.size
          have hdd : verV f n i s pr.reverse = (verV (f - 1) (n - k) (i - k) s (pr.take q').reverse).map (joinB (x, true)) := by
            rw [rev_take pr HX.out (by have := HS.out.len; have := HQQ.out; omega), hf', verV_cons (by omega), hk, if_neg hik]
            rfl
          have HN : Hid (VeAt w w3 A c q' (n - k) (i - k) v3 V s (pr.take q') (acc ++ [(x, true)]) (f - 1)) := Lib.hid (HS.out.down b2 o1 hown hg HQQ.out hdd (by omega) (by omega) (by omega) (HS.out.digs x (List.mem_of_getElem? HX.out)))
          clear hown hg hdd o1 b2 rx hf'
          go_wp2_with fail
          go_roundw
          case rel => exact ⟨_, _, _, _, _, _, _, _, by go_num, by go_num, rfl, HN⟩
          case measure => simp [RowKit.intOf]; omega
    · have hn1' : n = 1 := by omega
      subst hn1'
      have heq := HS.out.eq
      rw [hf', verV_one (Nat.le_refl 1)] at heq
      have HEQ := Lib.hid heq
      have LE := Lib.hid (leaf_any s wr (by have := HLS.out; omega) (HK.out.below HS.out.below))
      obtain ⟨A11, c11, hv11⟩ := HS.out.out.slice
      obtain ⟨m, hm⟩ : ∃ m, acc.length = m := ⟨_, rfl⟩
      rw [hm] at hv11 hsh
      subst hv11
      obtain ⟨d, hd⟩ : ∃ d, shaB (0 :: s) = d := ⟨_, rfl⟩
      rw [hd] at LE
      have HM := Lib.hid (And.intro hm (And.intro hd hsh))
      clear heq hf' hm hd hsh
      go_wp2_with fail
      refine LE.out.mono ?_
      rintro e W5 ⟨rfl, hx5⟩
      have HX5 := Lib.hid hx5
      clear hx5
      go_wp2_with fail
      refine (backD_any A11 m c11 _).mono ?_
      rintro e w' ⟨rfl, rfl⟩
      go_wp2_with fail
      obtain ⟨n8, hn8⟩ : ∃ z, W5.heap.size = z := ⟨_, rfl⟩
      obtain ⟨W8, hW8⟩ : ∃ z, (W5.alloc (.cells #[.string ⟨d.toArray⟩] 9)).alloc (.cells #[.slice A11 m c11] 53) = z := ⟨_, rfl⟩
      have b58 : Below wr.heap.size wr W8 := by rw [← hW8]; exact (HX5.out.alloc HX5.out.size _).alloc (Nat.le_trans HX5.out.size (by simp)) _
      have kB1 : RowAt W8 n8 9 #[.string ⟨d.toArray⟩] := by rw [← hW8, ← hn8]; exact (RowAt.new W5 _ _).alloc _
      have kB2 : RowAt W8 (n8 + 1) 53 #[.slice A11 m c11] := by rw [← hW8, ← hn8]; exact row_new1 W5 _ _ _
      have hs8 : W8.heap.size = n8 + 2 := by rw [← hW8, ← hn8]; simp
      have hle : wr.heap.size ≤ n8 := by rw [← hn8]; exact HX5.out.size
      rw [hn8, hW8]
      have HB58 := Lib.hid b58
      have HSZ := Lib.hid (And.intro hle hs8)
      have HKB := Lib.hid (And.intro kB1 kB2)
      clear b58 kB1 kB2 hn8 hs8 hW8 hle HX5
      have HL : Hid (∀ W, W8.grownBy W (some n8) → Below wr.heap.size wr W) := Lib.hid (fun W hg =>
        HB58.out.grown hg HB58.out.size (fun r e => by cases e; exact HSZ.out.1))
      have HDL : Hid (acc.length = m) := Lib.hid HM.out.1
      have hml : m ≤ 10000 := by have := HM.out.2.2; omega
      refine wpIn_wide.1 (range_backD2 (n := 9) (v := .slice A11 m c11) (xs := acc) (by omega) (by rw [HDL.out]; omega) rfl rfl
        (fun k W => ∃ o, RowAt W n8 9 #[.string ⟨o.toArray⟩] ∧ o.length = 32 ∧ (acc.take (m - k)).foldr joinB o = acc.foldr joinB d ∧ W8.grownBy W (some n8)) ?calm ?mem ?start
        (fun j y r => { tmps := #[.string ⟨root.toArray⟩, .int .i64 1, .int .i64 i, .string ⟨s.toArray⟩, .slice A q c, undef, undef, undef, undef, undef, u10, .slice A11 m c11, u12, u13, u14, u15, .pointer (some ⟨n8, 0, none⟩), undef, .pointer (some ⟨r, 0, none⟩), .int .i64 i0, .bool false, .bool false, .int .i64 i0, .int .i64 n0, .bool false, .bool false, .bool false, .slice A0 q0 c0, .bool true, .bool false, .bool false, .int .i64 1, .bool false, u33, u34, u35, u36, u37, u38, u39, u40, u41, u42, u43, u44, u45, u46, u47, u48, u49, u50, u51, u52, u53, u54, u55, u56, u57, u58, u59, u60, u61, .string ⟨s.toArray⟩, .string ⟨d.toArray⟩, .slice A11 m c11, .func (.func 57) #[] #[.pointer (some ⟨n8 + 1, 0, none⟩)], .int .i64 (j : Int), .agg #[.string ⟨y.1.toArray⟩, .bool y.2], undef, undef, undef, undef, undef, undef, undef, undef, undef, undef, undef], defers := [] }) ?assign ?body ?done)
      case calm =>
        rintro k W W' row ⟨o, hr, ho, he, hg⟩ hg2 hrow
        have hsz := HSZ.out
        refine ⟨o, ?_, ho, he, hg.andThen hg2 (fun q e => .inl (hrow q e).1)⟩
        exact (hg2.block n8 hr.lt (fun e => by have := (hrow _ e.symm).1; omega)).trans hr
      case mem =>
        rintro k W ⟨o, hr, ho, he, hg⟩
        have hsz := HSZ.out
        have h2 : RowAt W (n8 + 1) 53 _ := (hg.block (n8 + 1) (by omega) (fun e => by injection e; omega)).trans HKB.out.2
        exact ⟨h2.cell 0, HS.out.out.sld.below (HL.out W hg)⟩
      case start => exact ⟨d, HKB.out.1, by rw [← HM.out.2.1]; exact shaB_len _, by rw [Nat.sub_zero, List.take_of_length_le (by rw [HDL.out]; exact Nat.le_refl _)], World.grownBy.refl _ _⟩
      case assign =>
        intro l j y W K hK
        gi_wp2
        exact hK
      case body =>
        rintro l k j y r W hy hkj ⟨o, hr, ho, he, hg⟩ hrr hwr
        rw [HDL.out] at hkj
        have hbw := HL.out W hg
        have hyl : y.1.length = 32 := HS.out.adigs y (List.mem_of_getElem? hy)
        have C := sidejoin_any y o W (by omega) (by omega) (HK.out.below (HS.out.below.trans (hbw.mono HS.out.below.size)))
        have CC := Lib.hid C
        have hnx : (acc.take (m - (k + 1))).foldr joinB (joinB y o) = acc.foldr joinB d := by
          rw [← he, show m - k = j + 1 by omega, show m - (k + 1) = j by omega, List.take_add_one, hy, List.foldr_append]
          rfl
        have hjl : (joinB y o).length = 32 := by unfold joinB; split <;> exact shaB_len _
        have HG := Lib.hid hg
        have HRR := Lib.hid hr
        have HNX := Lib.hid (And.intro hnx hjl)
        have hc0 := hr.cell 0
        replace hc0 : W.cell? ⟨n8, 0, none⟩ = some (.string ⟨o.toArray⟩) := hc0
        have hc1 := hrr.cell 0
        replace hc1 : W.cell? ⟨r, 0, none⟩ = some (.string ⟨y.1.toArray⟩) := hc1
        have hc2 := hrr.cell 1
        replace hc2 : W.cell? ⟨r, 1, none⟩ = some (.bool y.2) := hc2
        clear C hg hr hbw hy hkj ho he hnx hjl hyl hrr hwr
        gi_wp2
        refine ⟨trivial, (CallsIn.inRound l (callsIn_wide.2 CC.out)).mono ?_⟩
        rintro e W9 ⟨rfl, hx⟩
        have hr9 := HRR.out.below hx HRR.out.lt
        have hk9 : W9.cell? ⟨n8, 0, none⟩ = some (.string ⟨o.toArray⟩) := hr9.cell 0
        have hf9 := RowAt.free hr9 0
        have HX9 := Lib.hid hx
        have HR9 := Lib.hid hr9
        clear hx hr9
        gi_wp2_with fail
        refine ⟨(KeepsOthers.of_grownBy (grown_of_below HX9.out n8) (fun r o e ho => by cases e; rw [show W.heap[n8]? = _ from HRR.out] at ho; cases ho; rfl)).trans (KeepsOthers.setCell W9 _ _), joinB y o, row_set HR9.out _, HNX.out.2, HNX.out.1, (HG.out.andThen (grown_of_below HX9.out n8) (fun q e => .inr e)).andThen (grownBy_setCell' W9 n8 _) (fun q e => .inr e)⟩
      case done =>
        rintro D W hD ⟨o, hr, ho, he, hg⟩ hKD
        rw [HDL.out, Nat.sub_self] at he
        have hsz := HSZ.out
        have he : o = acc.foldr joinB d := he
        have hc0 : W.cell? ⟨n8, 0, none⟩ = some (.string ⟨o.toArray⟩) := hr.cell 0
        have hb := HS.out.below.trans ((HL.out W hg).mono HS.out.below.size)
        have HBW := Lib.hid hb
        have hbd : W8.heap.size ≤ W.heap.size := hg.size
        have HKD := Lib.hid (And.intro hKD (And.intro hD (And.intro hbd (And.intro HS.out.below.size hsz))))
        have HE := Lib.hid he
        clear hr hg hKD hD hb hsz hbd ho he
        by_cases hq0 : q = 0
        · subst hq0
          go_wp2_with fail
          refine ⟨by simp, .inl ⟨_, _, rfl, run_takeDeferred HKD.out.1, ?_⟩⟩
          refine ⟨.bool (o == root), by simp [results, Tryd.results21, go_sem], ?_, ?_⟩
          · have h := HEQ.out
            rw [List.length_eq_zero_iff.1 HS.out.len, List.reverse_nil, if_pos rfl] at h
            rw [← h, show leafB s = d from HM.out.2.1, Option.map_some, ← HE.out]
            rfl
          · exact HBW.out.grown (grownBy_putObj' W D _) (by have := HKD.out.2; omega) (fun r e => by cases e; have := HKD.out.2; omega)
        · have hq0i : ((q : Int) == 0) = false := by rw [beq_eq_false_iff_ne]; omega
          go_wp2_with fail
          refine ⟨by simp, .inl ⟨_, _, rfl, run_takeDeferred HKD.out.1, ?_⟩⟩
          refine ⟨.bool (false), by simp [results, Tryd.results21, go_sem], ?_, ?_⟩
          · have h := HEQ.out
            rw [if_neg (by
              intro e
              have := HS.out.len
              rw [List.reverse_eq_nil_iff.1 e] at this
              simp at this
              omega)] at h
            rw [← h]
            rfl
          · exact HBW.out.grown (grownBy_putObj' W D _) (by have := HKD.out.2; omega) (fun r e => by cases e; have := HKD.out.2; omega)
end Go.Proofs.YtgmdjbhclihflaaDoor
