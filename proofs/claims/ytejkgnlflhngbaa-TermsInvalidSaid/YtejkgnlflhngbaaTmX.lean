/- SamePasses, SameReserves and SameBalances of the reference: equal lists. -/
import Derived.Test.YtejkgnlflhngbaaTmT
namespace Go.Proofs.Ytejkgnlflhngbaa
open Go Go.RowKit Go.Lib Go.Shelf Go.Maps

theorem neq_samePasses (x y : Int) (w : World) : (Go.binOp .neq 42 (.agg #[.int .i64 x, .int .i64 y]) (.agg #[.int .i64 x, .int .i64 y])).run Try.prog w = .ok (.bool false) w := by
  go_simp
theorem samePasses_eq (va vb : Value) (l : List (Int × Int)) (w : World) (hl : l.length ≤ 1000000) (ha : IRows 2 w va (l.map p2)) (hb : IRows 2 w vb (l.map p2)) :
    Calls Try.prog 17 #[va, vb] w fun e w' => e = .returned (.bool true) ∧ Below w.heap.size w w' := by
  obtain ⟨A1, c1, rfl⟩ := ha.slice
  obtain ⟨A2, c2, rfl⟩ := hb.slice
  rw [List.length_map] at *
  obtain ⟨m, hm⟩ : ∃ m, l.length = m := ⟨_, rfl⟩
  rw [hm] at hl ha hb ⊢
  have HM := Lib.hid hm
  have HA := Lib.hid ha
  have HBB := Lib.hid hb
  clear hm ha hb
  go_enter Try.func17, Try.ntmps17
  go_wp2_with fail
  go_loopw [5] (fun iv wr => ∃ (k : Nat), k ≤ m ∧ iv = .int .i64 k ∧ Hid (Below w.heap.size w wr)) (fun i _ => m - (intOf i).toNat)
  case atStart => exact ⟨0, by omega, rfl, Lib.hid (Below.refl _ _)⟩
  case round =>
    obtain ⟨k, hk, rfl, HB⟩ := hrel
    by_cases hk2 : k < m
    · obtain ⟨⟨x, y⟩, hf0⟩ : ∃ f, l[k]? = some f := ⟨_, List.getElem?_eq_getElem (by rw [HM.out]; exact hk2)⟩
      have hf : (l.map p2)[k]? = some [x, y] := by rw [List.getElem?_map, hf0]; rfl
      obtain ⟨b1, o1, hA1, hlt1, h1⟩ : ∃ b o, A1 = some ⟨b, o, none⟩ ∧ b < w.heap.size ∧ ∀ (i : Nat) r, (l.map p2)[i]? = some r → ∀ (j : Nat) x, r[j]? = some x → w.cell? ⟨b, o + i * 2 + j, none⟩ = some (.int .i64 x) := by
        rcases HA.out.2 with ⟨h0, _⟩ | ⟨b, o, c, he, hlt, hc⟩
        · rw [h0] at hf; simp at hf
        · simp only [Value.slice.injEq] at he
          exact ⟨b, o, he.1, hlt, hc⟩
      obtain ⟨b2, o2, hA2, hlt2, h2⟩ : ∃ b o, A2 = some ⟨b, o, none⟩ ∧ b < w.heap.size ∧ ∀ (i : Nat) r, (l.map p2)[i]? = some r → ∀ (j : Nat) x, r[j]? = some x → w.cell? ⟨b, o + i * 2 + j, none⟩ = some (.int .i64 x) := by
        rcases HBB.out.2 with ⟨h0, _⟩ | ⟨b, o, c, he, hlt, hc⟩
        · rw [h0] at hf; simp at hf
        · simp only [Value.slice.injEq] at he
          exact ⟨b, o, he.1, hlt, hc⟩
      subst hA1 hA2
      have H1 := Lib.hid h1
      have H2 := Lib.hid h2
      have ca0 := (HB.out.cell (p := ⟨b1, o1 + k * 2, none⟩) hlt1).trans (H1.out k _ hf 0 x rfl)
      have cb0 := (HB.out.cell (p := ⟨b2, o2 + k * 2, none⟩) hlt2).trans (H2.out k _ hf 0 x rfl)
      have ca1 := (HB.out.cell (p := ⟨b1, o1 + k * 2 + 1, none⟩) hlt1).trans (H1.out k _ hf 1 y rfl)
      have cb1 := (HB.out.cell (p := ⟨b2, o2 + k * 2 + 1, none⟩) hlt2).trans (H2.out k _ hf 1 y rfl)
      have hnq := neq_samePasses x y
      clear hf hf0 h1 h2
      go_wp2_with fail
      go_quiet (fail)
      go_wp2_with fail
      go_roundw
      case rel => exact ⟨k + 1, by omega, by go_num, Lib.hid (below_drewN HB.out _)⟩
      case measure => simp [intOf]; omega
    · go_wp2_with fail
      go_ret
      exact ⟨rfl, HB.out⟩
theorem neq_sameReserves (x y z : Int) (w : World) : (Go.binOp .neq 44 (.agg #[.int .i64 x, .int .i64 y, .int .i64 z]) (.agg #[.int .i64 x, .int .i64 y, .int .i64 z])).run Try.prog w = .ok (.bool false) w := by
  go_simp
theorem sameReserves_eq (va vb : Value) (l : List (Int × Int × Int)) (w : World) (hl : l.length ≤ 1000000) (ha : IRows 3 w va (l.map p3)) (hb : IRows 3 w vb (l.map p3)) :
    Calls Try.prog 18 #[va, vb] w fun e w' => e = .returned (.bool true) ∧ Below w.heap.size w w' := by
  obtain ⟨A1, c1, rfl⟩ := ha.slice
  obtain ⟨A2, c2, rfl⟩ := hb.slice
  rw [List.length_map] at *
  obtain ⟨m, hm⟩ : ∃ m, l.length = m := ⟨_, rfl⟩
  rw [hm] at hl ha hb ⊢
  have HM := Lib.hid hm
  have HA := Lib.hid ha
  have HBB := Lib.hid hb
  clear hm ha hb
  go_enter Try.func18, Try.ntmps18
  go_wp2_with fail
  go_loopw [5] (fun iv wr => ∃ (k : Nat), k ≤ m ∧ iv = .int .i64 k ∧ Hid (Below w.heap.size w wr)) (fun i _ => m - (intOf i).toNat)
  case atStart => exact ⟨0, by omega, rfl, Lib.hid (Below.refl _ _)⟩
  case round =>
    obtain ⟨k, hk, rfl, HB⟩ := hrel
    by_cases hk2 : k < m
    · obtain ⟨⟨x, y, z⟩, hf0⟩ : ∃ f, l[k]? = some f := ⟨_, List.getElem?_eq_getElem (by rw [HM.out]; exact hk2)⟩
      have hf : (l.map p3)[k]? = some [x, y, z] := by rw [List.getElem?_map, hf0]; rfl
      obtain ⟨b1, o1, hA1, hlt1, h1⟩ : ∃ b o, A1 = some ⟨b, o, none⟩ ∧ b < w.heap.size ∧ ∀ (i : Nat) r, (l.map p3)[i]? = some r → ∀ (j : Nat) x, r[j]? = some x → w.cell? ⟨b, o + i * 3 + j, none⟩ = some (.int .i64 x) := by
        rcases HA.out.2 with ⟨h0, _⟩ | ⟨b, o, c, he, hlt, hc⟩
        · rw [h0] at hf; simp at hf
        · simp only [Value.slice.injEq] at he
          exact ⟨b, o, he.1, hlt, hc⟩
      obtain ⟨b2, o2, hA2, hlt2, h2⟩ : ∃ b o, A2 = some ⟨b, o, none⟩ ∧ b < w.heap.size ∧ ∀ (i : Nat) r, (l.map p3)[i]? = some r → ∀ (j : Nat) x, r[j]? = some x → w.cell? ⟨b, o + i * 3 + j, none⟩ = some (.int .i64 x) := by
        rcases HBB.out.2 with ⟨h0, _⟩ | ⟨b, o, c, he, hlt, hc⟩
        · rw [h0] at hf; simp at hf
        · simp only [Value.slice.injEq] at he
          exact ⟨b, o, he.1, hlt, hc⟩
      subst hA1 hA2
      have H1 := Lib.hid h1
      have H2 := Lib.hid h2
      have ca0 := (HB.out.cell (p := ⟨b1, o1 + k * 3, none⟩) hlt1).trans (H1.out k _ hf 0 x rfl)
      have cb0 := (HB.out.cell (p := ⟨b2, o2 + k * 3, none⟩) hlt2).trans (H2.out k _ hf 0 x rfl)
      have ca1 := (HB.out.cell (p := ⟨b1, o1 + k * 3 + 1, none⟩) hlt1).trans (H1.out k _ hf 1 y rfl)
      have cb1 := (HB.out.cell (p := ⟨b2, o2 + k * 3 + 1, none⟩) hlt2).trans (H2.out k _ hf 1 y rfl)
      have ca2 := (HB.out.cell (p := ⟨b1, o1 + k * 3 + 2, none⟩) hlt1).trans (H1.out k _ hf 2 z rfl)
      have cb2 := (HB.out.cell (p := ⟨b2, o2 + k * 3 + 2, none⟩) hlt2).trans (H2.out k _ hf 2 z rfl)
      have hnq := neq_sameReserves x y z
      clear hf hf0 h1 h2
      go_wp2_with fail
      go_quiet (fail)
      go_wp2_with fail
      go_roundw
      case rel => exact ⟨k + 1, by omega, by go_num, Lib.hid (below_drewN HB.out _)⟩
      case measure => simp [intOf]; omega
    · go_wp2_with fail
      go_ret
      exact ⟨rfl, HB.out⟩
theorem neq_sameBalances (x y : Int) (w : World) : (Go.binOp .neq 46 (.agg #[.int .i64 x, .int .i64 y]) (.agg #[.int .i64 x, .int .i64 y])).run Try.prog w = .ok (.bool false) w := by
  go_simp
theorem sameBalances_eq (va vb : Value) (l : List (Int × Int)) (w : World) (hl : l.length ≤ 1000000) (ha : IRows 2 w va (l.map p2)) (hb : IRows 2 w vb (l.map p2)) :
    Calls Try.prog 19 #[va, vb] w fun e w' => e = .returned (.bool true) ∧ Below w.heap.size w w' := by
  obtain ⟨A1, c1, rfl⟩ := ha.slice
  obtain ⟨A2, c2, rfl⟩ := hb.slice
  rw [List.length_map] at *
  obtain ⟨m, hm⟩ : ∃ m, l.length = m := ⟨_, rfl⟩
  rw [hm] at hl ha hb ⊢
  have HM := Lib.hid hm
  have HA := Lib.hid ha
  have HBB := Lib.hid hb
  clear hm ha hb
  go_enter Try.func19, Try.ntmps19
  go_wp2_with fail
  go_loopw [5] (fun iv wr => ∃ (k : Nat), k ≤ m ∧ iv = .int .i64 k ∧ Hid (Below w.heap.size w wr)) (fun i _ => m - (intOf i).toNat)
  case atStart => exact ⟨0, by omega, rfl, Lib.hid (Below.refl _ _)⟩
  case round =>
    obtain ⟨k, hk, rfl, HB⟩ := hrel
    by_cases hk2 : k < m
    · obtain ⟨⟨x, y⟩, hf0⟩ : ∃ f, l[k]? = some f := ⟨_, List.getElem?_eq_getElem (by rw [HM.out]; exact hk2)⟩
      have hf : (l.map p2)[k]? = some [x, y] := by rw [List.getElem?_map, hf0]; rfl
      obtain ⟨b1, o1, hA1, hlt1, h1⟩ : ∃ b o, A1 = some ⟨b, o, none⟩ ∧ b < w.heap.size ∧ ∀ (i : Nat) r, (l.map p2)[i]? = some r → ∀ (j : Nat) x, r[j]? = some x → w.cell? ⟨b, o + i * 2 + j, none⟩ = some (.int .i64 x) := by
        rcases HA.out.2 with ⟨h0, _⟩ | ⟨b, o, c, he, hlt, hc⟩
        · rw [h0] at hf; simp at hf
        · simp only [Value.slice.injEq] at he
          exact ⟨b, o, he.1, hlt, hc⟩
      obtain ⟨b2, o2, hA2, hlt2, h2⟩ : ∃ b o, A2 = some ⟨b, o, none⟩ ∧ b < w.heap.size ∧ ∀ (i : Nat) r, (l.map p2)[i]? = some r → ∀ (j : Nat) x, r[j]? = some x → w.cell? ⟨b, o + i * 2 + j, none⟩ = some (.int .i64 x) := by
        rcases HBB.out.2 with ⟨h0, _⟩ | ⟨b, o, c, he, hlt, hc⟩
        · rw [h0] at hf; simp at hf
        · simp only [Value.slice.injEq] at he
          exact ⟨b, o, he.1, hlt, hc⟩
      subst hA1 hA2
      have H1 := Lib.hid h1
      have H2 := Lib.hid h2
      have ca0 := (HB.out.cell (p := ⟨b1, o1 + k * 2, none⟩) hlt1).trans (H1.out k _ hf 0 x rfl)
      have cb0 := (HB.out.cell (p := ⟨b2, o2 + k * 2, none⟩) hlt2).trans (H2.out k _ hf 0 x rfl)
      have ca1 := (HB.out.cell (p := ⟨b1, o1 + k * 2 + 1, none⟩) hlt1).trans (H1.out k _ hf 1 y rfl)
      have cb1 := (HB.out.cell (p := ⟨b2, o2 + k * 2 + 1, none⟩) hlt2).trans (H2.out k _ hf 1 y rfl)
      have hnq := neq_sameBalances x y
      clear hf hf0 h1 h2
      go_wp2_with fail
      go_quiet (fail)
      go_wp2_with fail
      go_roundw
      case rel => exact ⟨k + 1, by omega, by go_num, Lib.hid (below_drewN HB.out _)⟩
      case measure => simp [intOf]; omega
    · go_wp2_with fail
      go_ret
      exact ⟨rfl, HB.out⟩
end Go.Proofs.Ytejkgnlflhngbaa
