/- The iterator over the facts of a territory and a period. -/
import Derived.Test.YtdackmefkccipaaExD
import Derived.Test.YtdackmefkccipaaExM
namespace Go.Proofs.Ytdackmefkccipaa
open Go Go.RowKit Go.Lib Go.Shelf
attribute [local go_sem] Oper.semAt_some

def atTest (t p : Int) (f : FactV) : Bool := f.n 8 == t && f.n 3 == p

set_option maxRecDepth 100000 in
set_option maxHeartbeats 2000000 in
theorem at1_in (n : Nat) (hn : 1 ≤ n) (l B1 B2 B3 : Nat) (v : Value) (fs : List FactV) (t p : Int) (hlen : fs.length ≤ 140737488351232) (J : Nat → World → Prop)
    (hM : ∀ k W, J k W → FactsAt W v fs ∧ W.cell? ⟨B1, 0, none⟩ = some v ∧ W.cell? ⟨B2, 0, none⟩ = some (.int .i64 t) ∧ W.cell? ⟨B3, 0, none⟩ = some (.int .i64 p))
    (hA : ∀ k W o, J k W → J k (W.alloc o))
    (hS : ∀ k f W, fs[k]? = some f → atTest t p f = false → J k W → J (k + 1) W)
    (hY : ∀ k f W, fs[k]? = some f → atTest t p f = true → J k W → YieldAt Fence.wide (n - 1) Try.prog l #[.agg f.cells] W fun e W' => e = .returned (.bool true) ∧ J (k + 1) W')
    (W : World) (h0 : J 0 W) :
    CallsIn Fence.wide n Try.prog 33 #[.func (.yield l) #[] #[], .pointer (some ⟨B1, 0, none⟩), .pointer (some ⟨B2, 0, none⟩), .pointer (some ⟨B3, 0, none⟩)] W fun e W' => (∃ v, e = .returned v) ∧ J fs.length W' := by
  have HM := Lib.hid hM
  have HA := Lib.hid hA
  have HS := Lib.hid hS
  have HY := Lib.hid hY
  obtain ⟨hv, c1, -, -⟩ := hM 0 W h0
  have HN := Lib.hid hlen
  have H0 := Lib.hid h0
  clear hM hA hS hY hlen h0
  rcases hv with ⟨rfl, A, cc, rfl⟩ | ⟨b, o, cc, rfl, hlt, hc⟩
  · refine callsIn_of_wp Try.func33 rfl trivial ?_ rfl
    simp only [Try.ntmps33, List.size_toArray, List.length_cons, List.length_nil, Nat.reduceAdd, Nat.reduceSub, Array.replicate_succ, Array.replicate_zero, List.push_toArray, List.append_toArray, List.nil_append, List.cons_append]
    gi_wp2
    gi_loopw [9] (fun iv wr => iv = .int .i64 0 ∧ Hid (J 0 wr)) (fun _ _ => 0)
    case atStart => exact ⟨rfl, H0⟩
    case round =>
      obtain ⟨rfl, hj⟩ := hrel
      gi_wp2
      go_end0
      exact ⟨⟨_, rfl⟩, hj.out⟩
  · clear hc
    obtain ⟨m, hm⟩ : ∃ m, fs.length = m := ⟨_, rfl⟩
    rw [hm] at c1
    have HL := Lib.hid hm
    have hm2 : m ≤ 140737488351232 := by rw [← hm]; exact HN.out
    clear hm
    refine callsIn_of_wp Try.func33 rfl trivial ?_ rfl
    simp only [Try.ntmps33, List.size_toArray, List.length_cons, List.length_nil, Nat.reduceAdd, Nat.reduceSub, Array.replicate_succ, Array.replicate_zero, List.push_toArray, List.append_toArray, List.nil_append, List.cons_append]
    gi_wp2
    gi_loopw [9] (fun iv wr => ∃ k : Nat, k ≤ m ∧ iv = .int .i64 k ∧ Hid (J k wr)) (fun i _ => m - (intOf i).toNat)
    case atStart => exact ⟨0, by omega, rfl, H0⟩
    case round =>
      obtain ⟨k, hk, rfl, hj⟩ := hrel
      by_cases hk2 : k < m
      · obtain ⟨f, hf⟩ : ∃ f, fs[k]? = some f := ⟨_, List.getElem?_eq_getElem (by rw [HL.out]; exact hk2)⟩
        have hja := HA.out k wr (.cells f.cells 41) hj.out
        obtain ⟨hfa, -, c2, c3⟩ := HM.out k _ hja
        obtain ⟨hfb, -, -, -⟩ := HM.out k _ hj.out
        have hld : ∀ j x, f.cells[j]? = some x → wr.cell? ⟨b, o + k * 18 + j, none⟩ = some x := by
          rcases hfb with ⟨rfl, _⟩ | ⟨b', o', c', he, hlt', hc'⟩
          · simp at hf
          · simp only [Value.slice.injEq, Option.some.injEq, Addr.mk.injEq] at he
            obtain ⟨⟨rfl, rfl, -⟩, -, -⟩ := he
            exact fun j x hx => hc' k f hf j x hx
        have HLD := Lib.hid hld
        have g8 : f.cells[8]? = some (.int .i64 (f.n 8)) := rfl
        have g3 : f.cells[3]? = some (.int .i64 (f.n 3)) := rfl
        have hrt : atTest t p f = (f.n 8 == t && f.n 3 == p) := rfl
        obtain ⟨x, hx⟩ : ∃ x, f.n 8 = x := ⟨_, rfl⟩
        obtain ⟨y, hy⟩ : ∃ x, f.n 3 = x := ⟨_, rfl⟩
        rw [hx] at g8 hrt
        rw [hy] at g3 hrt
        have HF := Lib.hid hf
        have HJA := Lib.hid hja
        clear hx hy hf hfa hfb hld hja c1
        by_cases hm : x = t ∧ y = p
        · obtain ⟨rfl, rfl⟩ := hm
          have ht : atTest x y f = true := by rw [hrt]; simp
          obtain ⟨fn, tmps, assign, body, hy, hR⟩ := HY.out k f _ HF.out ht HJA.out
          have HR := Lib.hid hR
          clear hR ht hrt
          gi_wp2_with (first | (refine wpListIn_load_at (o := ⟨some 12, _, _, _, _, _⟩) rfl 41 (.tmp 11) rfl b (o + k * 18) rfl f.cells _ HLD.out Try.underlying41 rfl fact_size ?_) | (refine wpListIn_store_new (o := ⟨none, .store _ _ _, _, _, _, _⟩) rfl 41 (.tmp 6) (.tmp 12) rfl rfl zeroF.cells f.cells rfl fact_size rfl f.cells_one ?_) | (refine wpListIn_load_at (o := ⟨some 25, _, _, _, _, _⟩) rfl 41 (.tmp 6) rfl wr.heap.size 0 rfl f.cells _ (row_cells (heap_alloc_last wr _)) Try.underlying41 rfl fact_size ?_))
          refine HR.out.mono ?_
          rintro e W' ⟨rfl, hnext⟩
          have HN2 := Lib.hid hnext; clear hnext
          gi_wp2
          go_roundw
          case rel => exact ⟨k + 1, by omega, by go_num, HN2⟩
          case measure => simp [intOf]; omega
        · have ht : atTest t p f = false := by rw [hrt]; simpa using hm
          have HJ2 := Lib.hid (HS.out k f _ HF.out ht HJA.out)
          clear ht hrt
          rcases Classical.em (x = t) with h1 | h1
          · have q1 : (x == t) = true := by rw [beq_iff_eq]; exact h1
            have q2 : (y == p) = false := by rw [beq_eq_false_iff_ne]; exact fun h => hm ⟨h1, h⟩
            clear hm h1
            gi_wp2_with (first | (refine wpListIn_load_at (o := ⟨some 12, _, _, _, _, _⟩) rfl 41 (.tmp 11) rfl b (o + k * 18) rfl f.cells _ HLD.out Try.underlying41 rfl fact_size ?_) | (refine wpListIn_store_new (o := ⟨none, .store _ _ _, _, _, _, _⟩) rfl 41 (.tmp 6) (.tmp 12) rfl rfl zeroF.cells f.cells rfl fact_size rfl f.cells_one ?_) | (refine wpListIn_skip (o := ⟨some 26, _, _, _, _, _⟩) rfl rfl ?_))
            go_roundw
            case rel => exact ⟨k + 1, by omega, by go_num, HJ2⟩
            case measure => simp [intOf]; omega
          · have q1 : (x == t) = false := by rw [beq_eq_false_iff_ne]; exact h1
            clear hm h1
            gi_wp2_with (first | (refine wpListIn_load_at (o := ⟨some 12, _, _, _, _, _⟩) rfl 41 (.tmp 11) rfl b (o + k * 18) rfl f.cells _ HLD.out Try.underlying41 rfl fact_size ?_) | (refine wpListIn_store_new (o := ⟨none, .store _ _ _, _, _, _, _⟩) rfl 41 (.tmp 6) (.tmp 12) rfl rfl zeroF.cells f.cells rfl fact_size rfl f.cells_one ?_) | (refine wpListIn_skip (o := ⟨some 26, _, _, _, _, _⟩) rfl rfl ?_))
            go_roundw
            case rel => exact ⟨k + 1, by omega, by go_num, HJ2⟩
            case measure => simp [intOf]; omega
      · obtain rfl : k = m := by omega
        gi_wp2
        go_end0
        exact ⟨⟨_, rfl⟩, by rw [HL.out]; exact hj.out⟩
end Go.Proofs.Ytdackmefkccipaa
