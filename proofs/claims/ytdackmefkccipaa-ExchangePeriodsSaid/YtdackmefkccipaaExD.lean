/- exchange.Convert and the reference's. -/
import Derived.Test.YtdackmefkccipaaExC
namespace Go.Proofs.Ytdackmefkccipaa
open Go Go.RowKit Go.Lib Go.Shelf

def FactsOk (fs : List FactV) : Prop := ∀ f ∈ fs, ∀ j, -9223372036854775808 ≤ f.n j ∧ f.n j ≤ 9223372036854775807
def convSpec (fs : List FactV) (n c p : Int) : Int × Bool :=
  if n < 0 ∨ 1000000000000000 < n ∨ (rateSpec fs c p).2 = false then (0, false) else
  if (mulDivSpec n (rateSpec fs c p).1).2 = false ∨ 1000000000000000 < (mulDivSpec n (rateSpec fs c p).1).1 then (0, false) else ((mulDivSpec n (rateSpec fs c p).1).1, true)
theorem rateSpec_bd {fs : List FactV} (h : FactsOk fs) (c p : Int) : (rateSpec fs c p).1 ≤ 9223372036854775807 := by
  unfold rateSpec firstSpec
  split
  · simp
  · cases hf : fs.find? (rateTest c p) with
    | none => simp [zeroF]
    | some f => exact (h f (List.mem_of_find?_eq_some hf) 13).2

theorem convSpec_cases (fs : List FactV) (n c p r : Int) (t : Bool) (h : rateSpec fs c p = (r, t)) :
    (t = false ∧ convSpec fs n c p = (0, false)) ∨ (t = true ∧ 1000000000000000 < n ∧ convSpec fs n c p = (0, false)) ∨ (t = true ∧ ¬ 1000000000000000 < n ∧ n < 0 ∧ mulDivSpec n r = (0, false) ∧ convSpec fs n c p = (0, false)) ∨
    (t = true ∧ ¬ 1000000000000000 < n ∧ ¬ n < 0 ∧ ∃ m u, mulDivSpec n r = (m, u) ∧ ((u = false ∧ convSpec fs n c p = (0, false)) ∨ (u = true ∧ 1000000000000000 < m ∧ convSpec fs n c p = (0, false)) ∨ (u = true ∧ ¬ 1000000000000000 < m ∧ convSpec fs n c p = (m, true)))) := by
  unfold convSpec
  rw [h]
  cases t
  · exact .inl ⟨rfl, by rw [if_pos (.inr (.inr rfl))]⟩
  · right
    by_cases h1 : 1000000000000000 < n
    · exact .inl ⟨rfl, h1, by rw [if_pos (.inr (.inl h1))]⟩
    · right
      by_cases h2 : n < 0
      · exact .inl ⟨rfl, h1, h2, by unfold mulDivSpec; rw [if_pos (.inl h2)], by rw [if_pos (.inl h2)]⟩
      · right
        obtain ⟨⟨m, u⟩, hm⟩ : ∃ o, mulDivSpec n r = o := ⟨_, rfl⟩
        rw [if_neg (by simp [h1, h2])]
        refine ⟨rfl, h1, h2, m, u, hm, ?_⟩
        rw [hm]
        cases u
        · exact .inl ⟨rfl, by rw [if_pos (.inl rfl)]⟩
        · right
          by_cases h3 : 1000000000000000 < m
          · exact .inl ⟨rfl, h3, by rw [if_pos (.inr h3)]⟩
          · exact .inr ⟨rfl, h3, by rw [if_neg (by simp [h3])]⟩

set_option maxRecDepth 100000 in
set_option maxHeartbeats 1000000 in
theorem convert_any (B : BaseV) (n c p : Int) (fs : List FactV) (w : World) (hn : fs.length ≤ 140737488351232) (hv : FactsAt w (B.l 6) fs) (hok : FactsOk fs) (hn1 : n ≤ 9223372036854775807) :
    Calls Try.prog 10 #[.agg B.cells, .int .i64 n, .int .i64 c, .int .i64 p] w fun e w' => e = .returned (.tuple #[.int .i64 (convSpec fs n c p).1, .bool (convSpec fs n c p).2]) ∧ Below w.heap.size w w' := by
  have b0 : Below w.heap.size w (w.alloc (.cells B.cells 26)) := (Below.refl _ _).alloc (Nat.le_refl _) _
  have R := rate_any B c p fs _ hn (hv.below b0)
  have hrb := rateSpec_bd hok c p
  obtain ⟨⟨r, t⟩, hr⟩ : ∃ o, rateSpec fs c p = o := ⟨_, rfl⟩
  have hcs := convSpec_cases fs n c p r t hr
  rw [hr] at R hrb
  have M := fun w => mulDiv_any n r hn1 hrb w
  have HM := Lib.hid M
  have HR := Lib.hid R
  clear R M hr hv hok b0 hrb
  rcases hcs with ⟨rfl, he⟩ | ⟨rfl, h1, he⟩ | ⟨rfl, h1, h2, hm, he⟩ | ⟨rfl, h1, h2, m, u, hm, hq⟩
  · have HE := Lib.hid he; clear he
    go_enter Try.func10, Try.ntmps10
    go_wp2_with (refine wpList_load_row rfl 26 (.tmp 4) rfl w.heap.size rfl 26 B.cells (0, 0) _ (heap_alloc_last w _) Try.underlying26 rfl base_size ?_)
    refine (HR.out).mono ?_
    rintro e w2 ⟨rfl, hb⟩
    have HB := Lib.hid (((Below.refl w.heap.size w).alloc (Nat.le_refl _) _).trans (hb.mono (by simp))); clear hb
    go_wp2_with fail
    go_ret2
    exact ⟨by rw [HE.out]; rfl, HB.out⟩
  · have HE := Lib.hid he; clear he
    have d1 : decide (1000000000000000 < n) = true := by simpa using h1
    clear h1
    go_enter Try.func10, Try.ntmps10
    go_wp2_with (refine wpList_load_row rfl 26 (.tmp 4) rfl w.heap.size rfl 26 B.cells (0, 0) _ (heap_alloc_last w _) Try.underlying26 rfl base_size ?_)
    refine (HR.out).mono ?_
    rintro e w2 ⟨rfl, hb⟩
    have HB := Lib.hid (((Below.refl w.heap.size w).alloc (Nat.le_refl _) _).trans (hb.mono (by simp))); clear hb
    go_wp2_with fail
    go_ret2
    exact ⟨by rw [HE.out]; rfl, HB.out⟩
  · have HE := Lib.hid he; clear he
    have d1 : decide (1000000000000000 < n) = false := by simpa using h1
    rw [hm] at HM
    clear h1 h2 hm
    go_enter Try.func10, Try.ntmps10
    go_wp2_with (refine wpList_load_row rfl 26 (.tmp 4) rfl w.heap.size rfl 26 B.cells (0, 0) _ (heap_alloc_last w _) Try.underlying26 rfl base_size ?_)
    refine (HR.out).mono ?_
    rintro e w2 ⟨rfl, hb⟩
    have HB := Lib.hid (((Below.refl w.heap.size w).alloc (Nat.le_refl _) _).trans (hb.mono (by simp))); clear hb
    go_wp2_with fail
    refine (HM.out _).mono ?_
    rintro e w3 ⟨rfl, hb⟩
    have HB2 := Lib.hid (HB.out.trans (hb.mono HB.out.size)); clear hb
    go_wp2_with fail
    go_ret2
    exact ⟨by rw [HE.out]; rfl, HB2.out⟩
  · have d1 : decide (1000000000000000 < n) = false := by simpa using h1
    rw [hm] at HM
    clear h1 h2 hm
    rcases hq with ⟨rfl, he⟩ | ⟨rfl, h3, he⟩ | ⟨rfl, h3, he⟩
    · have HE := Lib.hid he; clear he
      go_enter Try.func10, Try.ntmps10
      go_wp2_with (refine wpList_load_row rfl 26 (.tmp 4) rfl w.heap.size rfl 26 B.cells (0, 0) _ (heap_alloc_last w _) Try.underlying26 rfl base_size ?_)
      refine (HR.out).mono ?_
      rintro e w2 ⟨rfl, hb⟩
      have HB := Lib.hid (((Below.refl w.heap.size w).alloc (Nat.le_refl _) _).trans (hb.mono (by simp))); clear hb
      go_wp2_with fail
      refine (HM.out _).mono ?_
      rintro e w3 ⟨rfl, hb⟩
      have HB2 := Lib.hid (HB.out.trans (hb.mono HB.out.size)); clear hb
      go_wp2_with fail
      go_ret2
      exact ⟨by rw [HE.out]; rfl, HB2.out⟩
    · have HE := Lib.hid he; clear he
      have d2 : decide (1000000000000000 < m) = true := by simpa using h3
      clear h3
      go_enter Try.func10, Try.ntmps10
      go_wp2_with (refine wpList_load_row rfl 26 (.tmp 4) rfl w.heap.size rfl 26 B.cells (0, 0) _ (heap_alloc_last w _) Try.underlying26 rfl base_size ?_)
      refine (HR.out).mono ?_
      rintro e w2 ⟨rfl, hb⟩
      have HB := Lib.hid (((Below.refl w.heap.size w).alloc (Nat.le_refl _) _).trans (hb.mono (by simp))); clear hb
      go_wp2_with fail
      refine (HM.out _).mono ?_
      rintro e w3 ⟨rfl, hb⟩
      have HB2 := Lib.hid (HB.out.trans (hb.mono HB.out.size)); clear hb
      go_wp2_with fail
      go_ret2
      exact ⟨by rw [HE.out]; rfl, HB2.out⟩
    · have HE := Lib.hid he; clear he
      have d2 : decide (1000000000000000 < m) = false := by simpa using h3
      clear h3
      go_enter Try.func10, Try.ntmps10
      go_wp2_with (refine wpList_load_row rfl 26 (.tmp 4) rfl w.heap.size rfl 26 B.cells (0, 0) _ (heap_alloc_last w _) Try.underlying26 rfl base_size ?_)
      refine (HR.out).mono ?_
      rintro e w2 ⟨rfl, hb⟩
      have HB := Lib.hid (((Below.refl w.heap.size w).alloc (Nat.le_refl _) _).trans (hb.mono (by simp))); clear hb
      go_wp2_with fail
      refine (HM.out _).mono ?_
      rintro e w3 ⟨rfl, hb⟩
      have HB2 := Lib.hid (HB.out.trans (hb.mono HB.out.size)); clear hb
      go_wp2_with fail
      go_ret2
      exact ⟨by rw [HE.out]; rfl, HB2.out⟩

set_option maxRecDepth 100000 in
set_option maxHeartbeats 1000000 in
theorem refConvert_any (B : BaseV) (n c p : Int) (fs : List FactV) (w : World) (hn : fs.length ≤ 140737488351232) (hv : FactsAt w (B.l 6) fs) (hok : FactsOk fs) (hn1 : n ≤ 9223372036854775807) :
    Calls Try.prog 11 #[.agg B.cells, .int .i64 n, .int .i64 c, .int .i64 p] w fun e w' => e = .returned (.tuple #[.int .i64 (convSpec fs n c p).1, .bool (convSpec fs n c p).2]) ∧ Below w.heap.size w w' := by
  have b0 : Below w.heap.size w (w.alloc (.cells B.cells 26)) := (Below.refl _ _).alloc (Nat.le_refl _) _
  have R := refRate_any B c p fs _ hn (hv.below b0)
  have hrb := rateSpec_bd hok c p
  obtain ⟨⟨r, t⟩, hr⟩ : ∃ o, rateSpec fs c p = o := ⟨_, rfl⟩
  have hcs := convSpec_cases fs n c p r t hr
  rw [hr] at R hrb
  have M := fun w => refMulDiv_any n r hn1 hrb w
  have HM := Lib.hid M
  have HR := Lib.hid R
  clear R M hr hv hok b0 hrb
  rcases hcs with ⟨rfl, he⟩ | ⟨rfl, h1, he⟩ | ⟨rfl, h1, h2, hm, he⟩ | ⟨rfl, h1, h2, m, u, hm, hq⟩
  · have HE := Lib.hid he; clear he
    obtain ⟨d0, hd0⟩ : ∃ d, decide (n < 0) = d := ⟨_, rfl⟩
    obtain ⟨d1, hd1⟩ : ∃ d, decide (1000000000000000 < n) = d := ⟨_, rfl⟩
    cases d0 <;> cases d1
    all_goals
      go_enter Try.func11, Try.ntmps11
      go_wp2_with (refine wpList_load_row rfl 26 (.tmp 4) rfl w.heap.size rfl 26 B.cells (0, 0) _ (heap_alloc_last w _) Try.underlying26 rfl base_size ?_)
      refine (HR.out).mono ?_
      rintro e w2 ⟨rfl, hb⟩
      have HB := Lib.hid (((Below.refl w.heap.size w).alloc (Nat.le_refl _) _).trans (hb.mono (by simp))); clear hb
      go_wp2_with fail
      go_ret2
      exact ⟨by rw [HE.out]; rfl, HB.out⟩
  · have HE := Lib.hid he; clear he
    have d1 : decide (1000000000000000 < n) = true := by simpa using h1
    have d0 : decide (n < 0) = false := by simp; omega
    clear h1
    go_enter Try.func11, Try.ntmps11
    go_wp2_with (refine wpList_load_row rfl 26 (.tmp 4) rfl w.heap.size rfl 26 B.cells (0, 0) _ (heap_alloc_last w _) Try.underlying26 rfl base_size ?_)
    refine (HR.out).mono ?_
    rintro e w2 ⟨rfl, hb⟩
    have HB := Lib.hid (((Below.refl w.heap.size w).alloc (Nat.le_refl _) _).trans (hb.mono (by simp))); clear hb
    go_wp2_with fail
    go_ret2
    exact ⟨by rw [HE.out]; rfl, HB.out⟩
  · have HE := Lib.hid he; clear he
    have d1 : decide (n < 0) = true := by simpa using h2
    clear h1 h2 hm
    go_enter Try.func11, Try.ntmps11
    go_wp2_with (refine wpList_load_row rfl 26 (.tmp 4) rfl w.heap.size rfl 26 B.cells (0, 0) _ (heap_alloc_last w _) Try.underlying26 rfl base_size ?_)
    refine (HR.out).mono ?_
    rintro e w2 ⟨rfl, hb⟩
    have HB := Lib.hid (((Below.refl w.heap.size w).alloc (Nat.le_refl _) _).trans (hb.mono (by simp))); clear hb
    go_wp2_with fail
    go_ret2
    exact ⟨by rw [HE.out]; rfl, HB.out⟩
  · have d1 : decide (1000000000000000 < n) = false := by simpa using h1
    have d0 : decide (n < 0) = false := by simpa using h2
    rw [hm] at HM
    clear h1 h2 hm
    rcases hq with ⟨rfl, he⟩ | ⟨rfl, h3, he⟩ | ⟨rfl, h3, he⟩
    · have HE := Lib.hid he; clear he
      go_enter Try.func11, Try.ntmps11
      go_wp2_with (refine wpList_load_row rfl 26 (.tmp 4) rfl w.heap.size rfl 26 B.cells (0, 0) _ (heap_alloc_last w _) Try.underlying26 rfl base_size ?_)
      refine (HR.out).mono ?_
      rintro e w2 ⟨rfl, hb⟩
      have HB := Lib.hid (((Below.refl w.heap.size w).alloc (Nat.le_refl _) _).trans (hb.mono (by simp))); clear hb
      go_wp2_with fail
      refine (HM.out _).mono ?_
      rintro e w3 ⟨rfl, rfl⟩
      go_wp2_with fail
      go_ret2
      exact ⟨by rw [HE.out]; rfl, HB.out⟩
    · have HE := Lib.hid he; clear he
      have d2 : decide (1000000000000000 < m) = true := by simpa using h3
      clear h3
      go_enter Try.func11, Try.ntmps11
      go_wp2_with (refine wpList_load_row rfl 26 (.tmp 4) rfl w.heap.size rfl 26 B.cells (0, 0) _ (heap_alloc_last w _) Try.underlying26 rfl base_size ?_)
      refine (HR.out).mono ?_
      rintro e w2 ⟨rfl, hb⟩
      have HB := Lib.hid (((Below.refl w.heap.size w).alloc (Nat.le_refl _) _).trans (hb.mono (by simp))); clear hb
      go_wp2_with fail
      refine (HM.out _).mono ?_
      rintro e w3 ⟨rfl, rfl⟩
      go_wp2_with fail
      go_ret2
      exact ⟨by rw [HE.out]; rfl, HB.out⟩
    · have HE := Lib.hid he; clear he
      have d2 : decide (1000000000000000 < m) = false := by simpa using h3
      clear h3
      go_enter Try.func11, Try.ntmps11
      go_wp2_with (refine wpList_load_row rfl 26 (.tmp 4) rfl w.heap.size rfl 26 B.cells (0, 0) _ (heap_alloc_last w _) Try.underlying26 rfl base_size ?_)
      refine (HR.out).mono ?_
      rintro e w2 ⟨rfl, hb⟩
      have HB := Lib.hid (((Below.refl w.heap.size w).alloc (Nat.le_refl _) _).trans (hb.mono (by simp))); clear hb
      go_wp2_with fail
      refine (HM.out _).mono ?_
      rintro e w3 ⟨rfl, rfl⟩
      go_wp2_with fail
      go_ret2
      exact ⟨by rw [HE.out]; rfl, HB.out⟩
end Go.Proofs.Ytdackmefkccipaa
