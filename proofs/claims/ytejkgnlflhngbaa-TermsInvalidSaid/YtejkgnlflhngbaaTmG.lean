/- terms.within, Balanced. -/
import Derived.Test.YtejkgnlflhngbaaTmC
import Derived.Shelf.Abstract
import Derived.IntWalk
namespace Go.Proofs.Ytejkgnlflhngbaa
open Go Go.RowKit Go.Lib Go.Shelf

set_option maxRecDepth 100000 in
set_option maxHeartbeats 1000000 in
theorem indexInts0_any (g : FuncId) (pd : Int → Bool) (b : Nat) (n c : Nat) (xs : Nat → Int) (w : World) (hn : n ≤ 1000000)
    (eg : ∀ args w, (callFunc g args).run Try.prog w = .ok (.enter g args) w)
    (hc : ∀ i, i < n → w.cell? ⟨b, i, none⟩ = some (.int .i64 (xs i)))
    (hg : ∀ x, Calls Try.prog g #[.int .i64 x] w fun e w' => e = .returned (.bool (pd x)) ∧ w = w') :
    Calls Try.prog 49 #[.slice (some ⟨b, 0, none⟩) n c, .func (.func g) #[] #[]] w fun e w' => e = .returned (.int .i64 (idxF pd xs n)) ∧ w = w' := by
  have HC := Lib.hid hc; clear hc
  have HG := Lib.hid hg; clear hg
  go_enter Try.func49, Try.ntmps49
  go_wp2_with fail
  go_loop [8] (fun iv => ∃ k : Nat, k ≤ n ∧ iv = .int .i64 k ∧ Hid (∀ i, i < k → pd (xs i) = false)) (fun i => n - (intOf i).toNat)
  case atStart => exact ⟨0, by omega, rfl, Lib.hid (fun i hi => by omega)⟩
  case round =>
    obtain ⟨k, hk, rfl, HK⟩ := hrel
    by_cases hlt : k < n
    · have hck := HC.out k hlt
      obtain ⟨x, hx⟩ : ∃ x, xs k = x := ⟨_, rfl⟩
      rw [hx] at hck
      obtain ⟨t, ht⟩ : ∃ t, pd x = t := ⟨_, rfl⟩
      have HG1 := Lib.hid (show Calls Try.prog g #[.int .i64 x] w fun e w' => e = .returned (.bool t) ∧ w = w' by rw [← ht]; exact HG.out x)
      cases t
      · have HK2 : Hid (∀ i, i < k + 1 → pd (xs i) = false) := Lib.hid (fun i hi => by
          rcases Nat.lt_or_ge i k with h | h
          · exact HK.out i h
          · obtain rfl : i = k := by omega
            rw [hx, ht])
        clear HK hx ht
        go_wp2_with fail
        refine (HG1.out).mono ?_
        rintro e w' ⟨rfl, rfl⟩
        go_wp2_with fail
        go_round
        case rel => exact ⟨k + 1, by omega, by go_num, HK2⟩
        case measure => simp [intOf]; omega
      · have HR : Hid (idxF pd xs n = (k : Int)) := Lib.hid (idxF_some HK.out hlt (by rw [hx, ht]))
        clear HK hx ht
        go_wp2_with fail
        refine (HG1.out).mono ?_
        rintro e w' ⟨rfl, rfl⟩
        go_wp2_with fail
        go_ret
        exact ⟨by rw [HR.out]; rfl, rfl⟩
    · obtain rfl : k = n := by omega
      have HR : Hid (idxF pd xs k = -1) := Lib.hid (idxF_none HK.out)
      clear HK
      go_wp2_with fail
      go_ret
      exact ⟨by rw [HR.out]; rfl, rfl⟩
set_option maxHeartbeats 400000 in
theorem containsInts0_any (g : FuncId) (pd : Int → Bool) (b : Nat) (n c : Nat) (xs : Nat → Int) (w : World) (hn : n ≤ 1000000)
    (eg : ∀ args w, (callFunc g args).run Try.prog w = .ok (.enter g args) w)
    (hc : ∀ i, i < n → w.cell? ⟨b, i, none⟩ = some (.int .i64 (xs i)))
    (hg : ∀ x, Calls Try.prog g #[.int .i64 x] w fun e w' => e = .returned (.bool (pd x)) ∧ w = w') (t : Bool) (ht : decide (0 ≤ idxF pd xs n) = t) :
    Calls Try.prog 38 #[.slice (some ⟨b, 0, none⟩) n c, .func (.func g) #[] #[]] w fun e w' => e = .returned (.bool t) ∧ w = w' := by
  have I := indexInts0_any g pd b n c xs w hn eg hc hg
  have H := Lib.hid I
  clear I hc hg eg
  obtain ⟨x, hx⟩ : ∃ x, idxF pd xs n = x := ⟨_, rfl⟩
  rw [hx] at H ht
  clear hx
  go_enter Try.func38, Try.ntmps38
  go_wp2_with fail
  refine (H.out).mono ?_
  rintro e w' ⟨rfl, rfl⟩
  go_wp2_with fail
  go_ret
  exact ⟨rfl, rfl⟩


/-- a number is from 0 to the most -/
def okN (x : Int) : Bool := inR x 0 1000000000000000000
theorem within1_any (x : Int) (w : World) :
    Calls Try.prog 39 #[.int .i64 x] w fun e w' => e = .returned (.bool (!okN x)) ∧ w = w' := by
  unfold okN inR
  by_cases h1 : x < 0
  · have d0 : decide (0 ≤ x) = false := by simp; omega
    have d1 : decide (x < 0) = true := by simpa using h1
    rw [d0]
    clear h1 d0
    go_enter Try.func39, Try.ntmps39
    go_wp2_with fail
    go_ret
    simp
  · have d0 : decide (0 ≤ x) = true := by simp; omega
    have d1 : decide (x < 0) = false := by simpa using h1
    rw [d0]
    by_cases h2 : 1000000000000000000 < x
    · have d2 : decide (x ≤ 1000000000000000000) = false := by simp; omega
      have d3 : decide (1000000000000000000 < x) = true := by simpa using h2
      rw [d2]
      clear h1 d0 d2 h2
      go_enter Try.func39, Try.ntmps39
      go_wp2_with fail
      go_ret
      simp
    · have d2 : decide (x ≤ 1000000000000000000) = true := by simp; omega
      have d3 : decide (1000000000000000000 < x) = false := by simpa using h2
      rw [d2]
      clear h1 d0 d2 h2
      go_enter Try.func39, Try.ntmps39
      go_wp2_with fail
      go_ret
      simp
theorem idxF_any (pd : Int → Bool) (L : List Int) : decide (0 ≤ idxF pd (fun i => L.getD i 0) L.length) = L.any pd := by
  unfold idxF
  cases h : (List.range L.length).find? (fun i => pd (L.getD i 0)) with
  | none =>
    symm
    show L.any pd = decide ((0 : Int) ≤ -1)
    rw [show decide ((0 : Int) ≤ -1) = false by decide, List.any_eq_false]
    intro x hx
    obtain ⟨i, hi, rfl⟩ := List.mem_iff_getElem.1 hx
    have := List.find?_eq_none.1 h i (List.mem_range.2 hi)
    simpa [List.getD_eq_getElem?_getD, List.getElem?_eq_getElem hi] using this
  | some i =>
    symm
    show L.any pd = decide ((0 : Int) ≤ (i : Int))
    rw [show decide ((0 : Int) ≤ (i : Int)) = true by simp, List.any_eq_true]
    have h1 := List.find?_some h
    have h2 := List.mem_range.1 (List.mem_of_find?_eq_some h)
    refine ⟨L[i], List.getElem_mem h2, ?_⟩
    simpa [List.getD_eq_getElem?_getD, List.getElem?_eq_getElem h2] using h1
theorem withinM_any (b c : Nat) (L : List Int) (w : World) (hn : L.length ≤ 1000000) (hc : ∀ (i : Nat) x, L[i]? = some x → w.cell? ⟨b, i, none⟩ = some (.int .i64 x)) :
    Calls Try.prog 25 #[.slice (some ⟨b, 0, none⟩) L.length c] w fun e w' => e = .returned (.bool (L.all okN)) ∧ w = w' := by
  have CF := containsInts0_any 39 (fun x => !okN x) b L.length c (fun i => L.getD i 0) w hn (enters_of Try.func39 (by kernel_rfl) rfl) (fun i hi => hc i _ (by simp [List.getElem?_eq_getElem hi])) (fun x => within1_any x w) _ (idxF_any _ L)
  have e : L.all okN = !(L.any fun x => !okN x) := List.all_eq_not_any_not
  rw [e]
  obtain ⟨t, ht⟩ : ∃ t, (L.any fun x => !okN x) = t := ⟨_, rfl⟩
  rw [ht] at CF ⊢
  have H := Lib.hid CF
  obtain ⟨n, hn'⟩ : ∃ n, L.length = n := ⟨_, rfl⟩
  rw [hn'] at H ⊢
  clear CF ht hc hn e hn'
  go_enter Try.func25, Try.ntmps25
  go_wp2_with fail
  refine (H.out).mono ?_
  rintro e w' ⟨rfl, rfl⟩
  go_wp2_with fail
  go_ret
  exact ⟨rfl, rfl⟩
/-- the cells of a whole row -/
def rowC (R : RowV) (pa ta re ro pd ca : Int) : Array Value :=
  #[.int .i64 R.h, .int .i64 R.p, .int .i64 R.e, .int .i64 R.rc, .int .i64 R.rl, .int .i64 R.b, .int .i64 pa, .int .i64 ta, .int .i64 re, .int .i64 ro, .int .i64 pd, .int .i64 ca]
def balB (R : RowV) (pa ta re ro pd ca : Int) : Bool :=
  ([R.e, R.rc, R.rl, R.b, pa, ta, re, ro, pd, ca] : List Int).all okN && (R.e + R.rc + R.rl + R.b == pa + ta + re + ro + pd + ca)
theorem okN_iff {x : Int} : okN x = true ↔ 0 ≤ x ∧ x ≤ 1000000000000000000 := inR_iff
theorem new_cell (w : World) (cs : Array Value) (t : TypeId) (i : Nat) : (w.alloc (.cells cs t)).cell? ⟨w.heap.size, i, none⟩ = cs[i]? := (RowAt.new w t cs).cell i
set_option maxRecDepth 100000 in
set_option maxHeartbeats 1000000 in
theorem balanced_any (R : RowV) (pa ta re ro pd ca : Int) (w : World) :
    Calls Try.prog 20 #[.agg (rowC R pa ta re ro pd ca)] w fun e w' => e = .returned (.bool (balB R pa ta re ro pd ca)) ∧ Below w.heap.size w w' := by
  obtain ⟨h, p, e, rc, rl, b⟩ := R
  unfold balB rowC
  dsimp only
  have C := fun W (hc : ∀ (i : Nat) x, ([e, rc, rl, b, pa, ta, re, ro, pd, ca] : List Int)[i]? = some x → W.cell? ⟨w.heap.size + 1, i, none⟩ = some (.int .i64 x)) => withinM_any (w.heap.size + 1) 10 [e, rc, rl, b, pa, ta, re, ro, pd, ca] W (by simp) hc
  obtain ⟨ok, hok⟩ : ∃ z, ([e, rc, rl, b, pa, ta, re, ro, pd, ca] : List Int).all okN = z := ⟨_, rfl⟩
  rw [hok] at C ⊢
  have HC := Lib.hid C
  clear C
  have hcl : ∀ (W : World) (n : Nat), W.heap.size = n → ∀ (i : Nat) x, ([e, rc, rl, b, pa, ta, re, ro, pd, ca] : List Int)[i]? = some x → (W.alloc (.cells #[.int .i64 e, .int .i64 rc, .int .i64 rl, .int .i64 b, .int .i64 pa, .int .i64 ta, .int .i64 re, .int .i64 ro, .int .i64 pd, .int .i64 ca] 3)).cell? ⟨n, i, none⟩ = some (.int .i64 x) := by
    intro W n hn i x hx
    subst hn
    rw [new_cell]
    match i, hx with
    | 0, hx | 1, hx | 2, hx | 3, hx | 4, hx | 5, hx | 6, hx | 7, hx | 8, hx | 9, hx => simp at hx; subst hx; rfl
    | i + 10, hx => simp at hx
  have HCL := Lib.hid hcl
  clear hcl
  cases ok
  · clear hok
    go_enter Try.func20, Try.ntmps20
    go_wp2_with fail
    refine (HC.out _ (fun i x hx => HCL.out _ _ (by simp) i x hx)).mono ?_
    rintro e2 w' ⟨rfl, rfl⟩
    go_wp2_with fail
    go_ret
    exact ⟨rfl, ((Below.refl _ _).alloc (Nat.le_refl _) _).alloc (by simp) _⟩
  · simp only [List.all_cons, List.all_nil, Bool.and_true, Bool.and_eq_true, okN_iff] at hok
    obtain ⟨a1, a2, a3, a4, a5, a6, a7, a8, a9, a10⟩ := hok
    obtain ⟨s1, h1⟩ : ∃ z, e + rc = z := ⟨_, rfl⟩
    obtain ⟨s2, h2⟩ : ∃ z, s1 + rl = z := ⟨_, rfl⟩
    obtain ⟨s3, h3⟩ : ∃ z, s2 + b = z := ⟨_, rfl⟩
    obtain ⟨u1, k1⟩ : ∃ z, pa + ta = z := ⟨_, rfl⟩
    obtain ⟨u2, k2⟩ : ∃ z, u1 + re = z := ⟨_, rfl⟩
    obtain ⟨u3, k3⟩ : ∃ z, u2 + ro = z := ⟨_, rfl⟩
    obtain ⟨u4, k4⟩ : ∃ z, u3 + pd = z := ⟨_, rfl⟩
    obtain ⟨u5, k5⟩ : ∃ z, u4 + ca = z := ⟨_, rfl⟩
    have x1 : IntKind.i64.wrap (e + rc) = s1 := by rw [h1]; exact IntWalk.i64_in _ (by omega)
    have x2 : IntKind.i64.wrap (s1 + rl) = s2 := by rw [h2]; exact IntWalk.i64_in _ (by omega)
    have x3 : IntKind.i64.wrap (s2 + b) = s3 := by rw [h3]; exact IntWalk.i64_in _ (by omega)
    have y1 : IntKind.i64.wrap (pa + ta) = u1 := by rw [k1]; exact IntWalk.i64_in _ (by omega)
    have y2 : IntKind.i64.wrap (u1 + re) = u2 := by rw [k2]; exact IntWalk.i64_in _ (by omega)
    have y3 : IntKind.i64.wrap (u2 + ro) = u3 := by rw [k3]; exact IntWalk.i64_in _ (by omega)
    have y4 : IntKind.i64.wrap (u3 + pd) = u4 := by rw [k4]; exact IntWalk.i64_in _ (by omega)
    have y5 : IntKind.i64.wrap (u4 + ca) = u5 := by rw [k5]; exact IntWalk.i64_in _ (by omega)
    rw [h1, h2, h3, k1, k2, k3, k4, k5]
    clear h1 h2 h3 k1 k2 k3 k4 k5 a1 a2 a3 a4 a5 a6 a7 a8 a9 a10
    go_enter Try.func20, Try.ntmps20
    go_wp2_with fail
    refine (HC.out _ (fun i x hx => HCL.out _ _ (by simp) i x hx)).mono ?_
    rintro e2 w' ⟨rfl, rfl⟩
    go_wp2_with fail
    go_ret
    exact ⟨by simp, ((Below.refl _ _).alloc (Nat.le_refl _) _).alloc (by simp) _⟩
end Go.Proofs.Ytejkgnlflhngbaa
