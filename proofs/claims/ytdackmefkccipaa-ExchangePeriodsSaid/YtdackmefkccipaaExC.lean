/- base.Rate. -/
import Derived.Test.YtdackmefkccipaaExB
namespace Go.Proofs.Ytdackmefkccipaa
open Go Go.RowKit Go.Lib Go.Shelf

/-- an api.Base by its ten lists -/
structure BaseV where
  l : Nat → Value
def BaseV.cells (b : BaseV) : Array Value := #[b.l 0, b.l 1, b.l 2, b.l 3, b.l 4, b.l 5, b.l 6, b.l 7, b.l 8, b.l 9]
theorem base_size : (Try.prog.info? 26).map (·.size) = some 10 := by kernel_rfl

def rateSpec (fs : List FactV) (c p : Int) : Int × Bool := if c = 0 then (1000000, true) else ((firstSpec (rateTest c p) fs).1.n 13, (firstSpec (rateTest c p) fs).2)

set_option maxRecDepth 100000 in
set_option maxHeartbeats 1000000 in
theorem rate_any (B : BaseV) (c p : Int) (fs : List FactV) (w : World) (hn : fs.length ≤ 140737488351232) (hv : FactsAt w (B.l 6) fs) :
    Calls Try.prog 18 #[.agg B.cells, .int .i64 c, .int .i64 p] w fun e w' => e = .returned (.tuple #[.int .i64 (rateSpec fs c p).1, .bool (rateSpec fs c p).2]) ∧ Below w.heap.size w w' := by
  by_cases h0 : c = 0
  · subst h0
    have e : rateSpec fs 0 p = (1000000, true) := by unfold rateSpec; rw [if_pos rfl]
    rw [e]
    clear e hv
    go_enter Try.func18, Try.ntmps18
    go_wp2
    go_ret2
    exact ⟨rfl, (((Below.refl _ _).alloc (Nat.le_refl _) _).alloc (by simp) _).alloc (by simp; omega) _⟩
  · have e : rateSpec fs c p = ((firstSpec (rateTest c p) fs).1.n 13, (firstSpec (rateTest c p) fs).2) := by unfold rateSpec; rw [if_neg h0]
    rw [e]
    have q0 : (c == 0) = false := by rw [beq_eq_false_iff_ne]; exact h0
    obtain ⟨W, hW⟩ : ∃ W, W = ((w.alloc (.cells B.cells 26)).alloc (.cells #[.int .i64 c] 3)).alloc (.cells #[.int .i64 p] 3) := ⟨_, rfl⟩
    have hBW : Below w.heap.size w W := by rw [hW]; exact (((Below.refl _ _).alloc (Nat.le_refl _) _).alloc (by simp) _).alloc (by simp; omega) _
    have hc1 : W.cell? ⟨w.heap.size + 1, 0, none⟩ = some (.int .i64 c) := by
      have r := RowAt.new (w.alloc (.cells B.cells 26)) 3 #[.int .i64 c]
      rw [World.size_alloc] at r
      rw [hW]; exact (r.alloc _).cell 0
    have hc2 : W.cell? ⟨w.heap.size + 1 + 1, 0, none⟩ = some (.int .i64 p) := by
      have r := RowAt.new ((w.alloc (.cells B.cells 26)).alloc (.cells #[.int .i64 c] 3)) 3 #[.int .i64 p]
      rw [World.size_alloc, World.size_alloc] at r
      rw [hW]; exact r.cell 0
    have hsz : W.heap.size = w.heap.size + 3 := by rw [hW]; simp
    have F := first_any 27 (.pointer (some ⟨w.heap.size + 1, 0, none⟩)) (.pointer (some ⟨w.heap.size + 1 + 1, 0, none⟩)) (rateTest c p) (B.l 6) fs W hn
      (fun W' => Below W.heap.size W W') (fun W' h => h) (enters_of Try.func27 (by kernel_rfl) rfl) (hv.below hBW)
      (fun f W' hb => rate1_any f c p _ _ W' ((hb.cell (p := ⟨w.heap.size + 1, 0, none⟩) (by show w.heap.size + 1 < _; omega)).trans hc1) ((hb.cell (p := ⟨w.heap.size + 1 + 1, 0, none⟩) (by show w.heap.size + 1 + 1 < _; omega)).trans hc2) (by have := hb.size; omega) (by have := hb.size; omega))
    obtain ⟨⟨f, t⟩, hf⟩ : ∃ o, firstSpec (rateTest c p) fs = o := ⟨_, rfl⟩
    rw [hf] at F ⊢
    have HBW := Lib.hid hBW
    rw [hW] at F HBW
    have HF := Lib.hid F
    have hB6 : B.cells[6]? = some (B.l 6) := rfl
    obtain ⟨v, hv6⟩ : ∃ v, B.l 6 = v := ⟨_, rfl⟩
    rw [hv6] at HF hB6
    have f13 : f.cells[13]? = some (.int .i64 (f.n 13)) := rfl
    obtain ⟨x, hx⟩ : ∃ x, f.n 13 = x := ⟨_, rfl⟩
    rw [hx] at f13
    have HX := Lib.hid hx
    clear F hf hW hBW hc1 hc2 hsz hv hv6 h0 e hx
    go_enter Try.func18, Try.ntmps18
    go_wp2_with fail
    refine (HF.out).mono ?_
    rintro e w2 ⟨rfl, hb⟩
    have HB2 := Lib.hid (HBW.out.trans (hb.mono HBW.out.size))
    have hsz2 := HB2.out.size
    clear hb
    go_wp2_with (refine wpList_store_new rfl 41 (.tmp 8) (.tmp 17) rfl rfl zeroF.cells f.cells rfl fact_size rfl f.cells_one ?_)
    go_ret2
    exact ⟨by rw [HX.out]; rfl, HB2.out.alloc hsz2 _⟩

theorem rateSpec_some {fs : List FactV} {c p : Int} {k : Nat} {f : FactV} (hc : c ≠ 0) (h : ∀ (i : Nat) f, i < k → fs[i]? = some f → rateTest c p f = false) (hk : fs[k]? = some f) (hp : rateTest c p f = true) : rateSpec fs c p = (f.n 13, true) := by
  unfold rateSpec firstSpec
  have : fs.find? (rateTest c p) = some f := by
    rw [List.find?_eq_some_iff_getElem]
    obtain ⟨h1, h2⟩ := List.getElem?_eq_some_iff.1 hk
    exact ⟨hp, k, h1, h2, fun j hj => by simpa using h j fs[j] hj (List.getElem?_eq_getElem (by omega))⟩
  rw [if_neg hc, this]
theorem rateSpec_none {fs : List FactV} {c p : Int} (hc : c ≠ 0) (h : ∀ (i : Nat) f, fs[i]? = some f → rateTest c p f = false) : rateSpec fs c p = (0, false) := by
  unfold rateSpec firstSpec
  have : fs.find? (rateTest c p) = none := by
    rw [List.find?_eq_none]
    intro x hx
    obtain ⟨i, hi, hx'⟩ := List.getElem_of_mem hx
    simpa using h i x (by rw [List.getElem?_eq_getElem hi, hx'])
  rw [if_neg hc, this]
  rfl

set_option maxRecDepth 100000 in
set_option maxHeartbeats 1000000 in
theorem refRate_any (B : BaseV) (c p : Int) (fs : List FactV) (w : World) (hn : fs.length ≤ 140737488351232) (hv : FactsAt w (B.l 6) fs) :
    Calls Try.prog 20 #[.agg B.cells, .int .i64 c, .int .i64 p] w fun e w' => e = .returned (.tuple #[.int .i64 (rateSpec fs c p).1, .bool (rateSpec fs c p).2]) ∧ Below w.heap.size w w' := by
  by_cases h0 : c = 0
  · subst h0
    have e : rateSpec fs 0 p = (1000000, true) := by unfold rateSpec; rw [if_pos rfl]
    rw [e]
    clear e hv
    go_enter Try.func20, Try.ntmps20
    go_wp2
    go_ret2
    exact ⟨rfl, (Below.refl _ _).alloc (Nat.le_refl _) _⟩
  · have q0 : (c == 0) = false := by rw [beq_eq_false_iff_ne]; exact h0
    have H0 := Lib.hid h0
    have hB6 : B.cells[6]? = some (B.l 6) := rfl
    obtain ⟨v, hv6⟩ : ∃ v, B.l 6 = v := ⟨_, rfl⟩
    rw [hv6] at hv hB6
    have HV := Lib.hid (hv.below ((Below.refl w.heap.size w).alloc (Nat.le_refl _) (.cells B.cells 26)))
    clear hv6 h0
    rcases hv with ⟨rfl, A, cc, rfl⟩ | ⟨b, o, cc, rfl, hlt, hc⟩
    · have HR := Lib.hid (show rateSpec [] c p = (0, false) from rateSpec_none H0.out (fun i f hf => by simp at hf))
      clear HV
      go_enter Try.func20, Try.ntmps20
      go_wp2_with fail
      refine wp_loop_rounds 1 ?_
      rw [rounds_succ]
      go_wp2_with fail
      go_ret2
      exact ⟨by rw [HR.out]; rfl, (Below.refl _ _).alloc (Nat.le_refl _) _⟩
    · obtain ⟨n, hnn⟩ : ∃ n, fs.length = n := ⟨_, rfl⟩
      rw [hnn] at hn hB6
      have HN := Lib.hid hnn
      have HC := Lib.hid hc
      clear hnn hc HV
      go_enter Try.func20, Try.ntmps20
      go_wp2_with fail
      go_loop [8] (fun iv => ∃ k : Nat, k ≤ n ∧ iv = .int .i64 k ∧ Hid (∀ (i : Nat) f, i < k → fs[i]? = some f → rateTest c p f = false)) (fun i => n - (intOf i).toNat)
      case atStart => exact ⟨0, by omega, rfl, Lib.hid (fun i f hi => by omega)⟩
      case round =>
        obtain ⟨k, hk, rfl, HK⟩ := hrel
        by_cases hk2 : k < n
        · obtain ⟨f, hf⟩ : ∃ f, fs[k]? = some f := ⟨_, List.getElem?_eq_getElem (by rw [HN.out]; exact hk2)⟩
          have old : ∀ i, (w.alloc (.cells B.cells 26)).cell? ⟨b, i, none⟩ = w.cell? ⟨b, i, none⟩ := fun i => ((Below.refl w.heap.size w).alloc (Nat.le_refl _) _).cell (p := ⟨b, i, none⟩) hlt
          have g15 := (old _).trans (HC.out k f hf 15 (.int .i64 (f.n 15)) rfl)
          have g3 := (old _).trans (HC.out k f hf 3 (.int .i64 (f.n 3)) rfl)
          have g13 := (old _).trans (HC.out k f hf 13 (.int .i64 (f.n 13)) rfl)
          have hrt : rateTest c p f = (f.n 15 == c && f.n 3 == p) := rfl
          obtain ⟨x, hx⟩ : ∃ x, f.n 15 = x := ⟨_, rfl⟩
          obtain ⟨y, hy⟩ : ∃ x, f.n 3 = x := ⟨_, rfl⟩
          obtain ⟨z, hz⟩ : ∃ x, f.n 13 = x := ⟨_, rfl⟩
          rw [hx] at g15 hrt
          rw [hy] at g3 hrt
          rw [hz] at g13
          have HZ := Lib.hid hz
          have HF := Lib.hid hf
          clear old hx hy hz hf
          by_cases hm : x = c ∧ y = p
          · obtain ⟨rfl, rfl⟩ := hm
            have HR := Lib.hid (rateSpec_some H0.out HK.out HF.out (by rw [hrt]; simp))
            clear hrt
            go_wp2_with fail
            go_ret2
            exact ⟨by rw [HR.out, HZ.out]; rfl, (Below.refl _ _).alloc (Nat.le_refl _) _⟩
          · have hf2 : rateTest c p f = false := by rw [hrt]; simpa using hm
            have HK2 : Hid (∀ (i : Nat) f, i < k + 1 → fs[i]? = some f → rateTest c p f = false) := Lib.hid (fun i f' hi hf' => by
              rcases Nat.lt_or_ge i k with h | h
              · exact HK.out i f' h hf'
              · obtain rfl : i = k := by omega
                rw [HF.out] at hf'
                cases hf'
                exact hf2)
            clear hf2 hrt
            rcases Classical.em (x = c) with h1 | h1
            · have q1 : (x == c) = true := by rw [beq_iff_eq]; exact h1
              have q2 : (y == p) = false := by rw [beq_eq_false_iff_ne]; exact fun h => hm ⟨h1, h⟩
              clear hm h1
              go_wp2_with fail
              go_round
              case rel => exact ⟨k + 1, by omega, by go_num, HK2⟩
              case measure => simp [intOf]; omega
            · have q1 : (x == c) = false := by rw [beq_eq_false_iff_ne]; exact h1
              clear hm h1
              go_wp2_with fail
              go_round
              case rel => exact ⟨k + 1, by omega, by go_num, HK2⟩
              case measure => simp [intOf]; omega
        · obtain rfl : k = n := by omega
          have HR := Lib.hid (rateSpec_none H0.out (fun i f hf => HK.out i f (by have := (List.getElem?_eq_some_iff.1 hf).1; rw [HN.out] at this; exact this) hf))
          clear HK
          go_wp2_with fail
          go_ret2
          exact ⟨by rw [HR.out]; rfl, (Below.refl _ _).alloc (Nat.le_refl _) _⟩
end Go.Proofs.Ytdackmefkccipaa
