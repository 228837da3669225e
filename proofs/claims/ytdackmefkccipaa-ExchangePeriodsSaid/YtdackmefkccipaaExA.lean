/- base.Rate's test; IndexFunc over facts. -/
import Derived.Test.YtdackmefkccipaaAmtF
import Derived.Test.YtdackmefkccipaaExL
namespace Go.Proofs.Ytdackmefkccipaa
open Go Go.RowKit Go.Lib Go.Shelf

def rateTest (c p : Int) (f : FactV) : Bool := f.n 15 == c && f.n 3 == p

set_option maxRecDepth 100000 in
set_option maxHeartbeats 1000000 in
theorem rate1_any (f : FactV) (c p : Int) (B1 B2 : Nat) (w : World) (h1 : w.cell? ⟨B1, 0, none⟩ = some (.int .i64 c)) (h2 : w.cell? ⟨B2, 0, none⟩ = some (.int .i64 p)) (b1 : B1 < w.heap.size) (b2 : B2 < w.heap.size) :
    Calls Try.prog 27 #[.agg f.cells, .pointer (some ⟨B1, 0, none⟩), .pointer (some ⟨B2, 0, none⟩)] w fun e w' => e = .returned (.bool (rateTest c p f)) ∧ Below w.heap.size w w' := by
  have f15 : f.cells[15]? = some (.int .i64 (f.n 15)) := rfl
  have f3 : f.cells[3]? = some (.int .i64 (f.n 3)) := rfl
  unfold rateTest
  obtain ⟨x, hx⟩ : ∃ x, f.n 15 = x := ⟨_, rfl⟩
  obtain ⟨y, hy⟩ : ∃ x, f.n 3 = x := ⟨_, rfl⟩
  rw [hx] at f15 ⊢
  rw [hy] at f3 ⊢
  clear hx hy
  go_enter Try.func27, Try.ntmps27
  go_wp2
  all_goals
    go_ret
    exact ⟨by simp_all, (Below.refl _ _).alloc (Nat.le_refl _) _⟩

/-- a slice of facts that is empty, or lies in memory -/
def FactsAt (w : World) (v : Value) (fs : List FactV) : Prop :=
  (fs = [] ∧ ∃ A c, v = .slice A 0 c) ∨ ∃ b o c, v = .slice (some ⟨b, o, none⟩) fs.length c ∧ b < w.heap.size ∧ ∀ i f, fs[i]? = some f → ∀ j x, f.cells[j]? = some x → w.cell? ⟨b, o + i * 18 + j, none⟩ = some x
theorem FactsAt.below {w w' : World} {v : Value} {fs : List FactV} (h : FactsAt w v fs) (hb : Below w.heap.size w w') : FactsAt w' v fs := by
  rcases h with h | ⟨b, o, c, rfl, hlt, h⟩
  · exact .inl h
  · exact .inr ⟨b, o, c, rfl, Nat.lt_of_lt_of_le hlt hb.size, fun i f hf j x hx => (hb.cell (p := ⟨b, o + i * 18 + j, none⟩) hlt).trans (h i f hf j x hx)⟩

theorem fact_size : (Try.prog.info? 41).map (·.size) = some 18 := by kernel_rfl
def fidx (pd : FactV → Bool) (fs : List FactV) : Int := match fs.findIdx? pd with
  | some i => (i : Int)
  | none => -1

theorem fidx_some {pd : FactV → Bool} {fs : List FactV} {k : Nat} {f : FactV} (h : ∀ (i : Nat) f, i < k → fs[i]? = some f → pd f = false) (hk : fs[k]? = some f) (hp : pd f = true) : fidx pd fs = (k : Int) := by
  unfold fidx
  have : fs.findIdx? pd = some k := by
    rw [List.findIdx?_eq_some_iff_getElem]
    obtain ⟨h1, h2⟩ := List.getElem?_eq_some_iff.1 hk
    refine ⟨h1, by rw [h2]; exact hp, fun j hj => ?_⟩
    have := h j fs[j] hj (List.getElem?_eq_getElem (by omega))
    simpa using this
  rw [this]
theorem fidx_none {pd : FactV → Bool} {fs : List FactV} (h : ∀ (i : Nat) f, fs[i]? = some f → pd f = false) : fidx pd fs = -1 := by
  unfold fidx
  have : fs.findIdx? pd = none := by
    rw [List.findIdx?_eq_none_iff]
    intro x hx
    obtain ⟨i, hi, hx'⟩ := List.getElem_of_mem hx
    exact h i x (by rw [List.getElem?_eq_getElem hi, hx'])
  rw [this]

set_option maxRecDepth 100000 in
set_option maxHeartbeats 1000000 in
theorem indexFacts_any (g : FuncId) (c1 c2 : Value) (pd : FactV → Bool) (v : Value) (fs : List FactV) (w : World) (hn : fs.length ≤ 140737488351232) (I : World → Prop) (hI : ∀ W, Below w.heap.size w W → I W)
    (eg : ∀ args w, (callFunc g args).run Try.prog w = .ok (.enter g args) w)
    (hv : FactsAt w v fs)
    (hg : ∀ f W, I W → Calls Try.prog g #[.agg f.cells, c1, c2] W fun e w' => e = .returned (.bool (pd f)) ∧ Below W.heap.size W w') :
    Calls Try.prog 39 #[v, .func (.func g) #[] #[c1, c2]] w fun e w' => e = .returned (.int .i64 (fidx pd fs)) ∧ Below w.heap.size w w' := by
  have HG := Lib.hid hg; clear hg
  have HI := Lib.hid hI; clear hI
  rcases hv with ⟨rfl, A, c, rfl⟩ | ⟨b, o, c, rfl, hlt, hc⟩
  · go_enter Try.func39, Try.ntmps39
    go_wp2_with fail
    refine wp_loop_rounds 1 ?_
    rw [rounds_succ]
    go_wp2_with fail
    go_ret
    exact ⟨rfl, Below.refl _ _⟩
  · have HC := Lib.hid hc; clear hc
    obtain ⟨n, hnn⟩ : ∃ n, fs.length = n := ⟨_, rfl⟩
    rw [hnn] at hn ⊢
    have HN := Lib.hid hnn; clear hnn
    go_enter Try.func39, Try.ntmps39
    go_wp2_with fail
    go_loopw [8] (fun iv wr => ∃ k : Nat, k ≤ n ∧ iv = .int .i64 k ∧ Hid ((∀ i f, i < k → fs[i]? = some f → pd f = false) ∧ Below w.heap.size w wr)) (fun i _ => n - (intOf i).toNat)
    case atStart => exact ⟨0, by omega, rfl, Lib.hid ⟨fun i f hi => by omega, Below.refl _ _⟩⟩
    case round =>
      obtain ⟨k, hk, rfl, HK⟩ := hrel
      by_cases hk2 : k < n
      · obtain ⟨f, hf⟩ : ∃ f, fs[k]? = some f := ⟨_, List.getElem?_eq_getElem (by rw [HN.out]; exact hk2)⟩
        have hld : ∀ j x, f.cells[j]? = some x → wr.cell? ⟨b, o + k * 18 + j, none⟩ = some x := fun j x hx => (HK.out.2.cell (p := ⟨b, o + k * 18 + j, none⟩) hlt).trans (HC.out k f hf j x hx)
        have HLD := Lib.hid hld; clear hld
        obtain ⟨t, ht⟩ : ∃ t, pd f = t := ⟨_, rfl⟩
        have HG1 := Lib.hid (show Calls Try.prog g #[.agg f.cells, c1, c2] wr fun e w' => e = .returned (.bool t) ∧ Below wr.heap.size wr w' by rw [← ht]; exact HG.out f _ (HI.out _ HK.out.2))
        have HF := Lib.hid hf; clear hf
        have HTT := Lib.hid ht; clear ht
        go_wp2_with (refine wpList_load_at rfl 41 (.tmp 14) rfl b (o + k * 18) rfl f.cells _ HLD.out Try.underlying41 rfl fact_size ?_)
        refine (HG1.out).mono ?_
        rintro e w2 ⟨rfl, hb⟩
        have HB := Lib.hid (HK.out.2.trans (hb.mono HK.out.2.size)); clear hb
        cases t
        · have HK2 : Hid (∀ i f, i < k + 1 → fs[i]? = some f → pd f = false) := Lib.hid (fun i f' hi hf' => by
            rcases Nat.lt_or_ge i k with h | h
            · exact HK.out.1 i f' h hf'
            · obtain rfl : i = k := by omega
              rw [HF.out] at hf'
              cases hf'
              exact HTT.out)
          go_wp2_with fail
          go_roundw
          case rel => exact ⟨k + 1, by omega, by go_num, Lib.hid ⟨HK2.out, HB.out⟩⟩
          case measure => simp [intOf]; omega
        · have HR : Hid (fidx pd fs = (k : Int)) := Lib.hid (fidx_some HK.out.1 HF.out HTT.out)
          go_wp2_with fail
          go_ret
          exact ⟨by rw [HR.out]; rfl, HB.out⟩
      · obtain rfl : k = n := by omega
        have HR : Hid (fidx pd fs = -1) := Lib.hid (fidx_none (fun i f hf => HK.out.1 i f (by have := (List.getElem?_eq_some_iff.1 hf).1; rw [HN.out] at this; exact this) hf))
        have HB := Lib.hid HK.out.2
        clear HK
        go_wp2_with fail
        go_ret
        exact ⟨by rw [HR.out]; rfl, HB.out⟩
end Go.Proofs.Ytdackmefkccipaa
