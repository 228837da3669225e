/- The package-level variables that the library reads; the reader of package contract in memory. -/
import Derived.Test.YtfiabonacpepnaaGreatDoorCtC
import Derived.Test.YtfiabonacpepnaaGreatDoorCtE
import Derived.LaidLaws
import Derived.Lib.LaidTab
import Derived.Lib.Itoa
namespace Go.Proofs.YtfiabonacpepnaaGreatDoor
open Go Go.RowKit Go.Lib Go.Shelf

/-- what the library's variables hold -/
structure KAt (w : World) : Prop where
  max : ∃ m : Int, w.cell? ⟨1, 0, none⟩ = some (.int .i64 m)
  tab : Lib.TabIs Tryz.prog w "internal/strconv.uint64pow10" .u64 Lib.pow10Tab
  syn : ∃ tp p, w.var? Tryz.prog "strconv.ErrSyntax" = some #[.iface tp p]
  rng : ∃ tp p, w.var? Tryz.prog "strconv.ErrRange" = some #[.iface tp p]
  lt : 9 ≤ w.heap.size
theorem var_of {w w' : World} {n : String} {g : Nat} (hg : Tryz.prog.globalNamed n = some g) (hb : w'.heap[g]? = w.heap[g]?) : w'.var? Tryz.prog n = w.var? Tryz.prog n := by
  unfold World.var?
  rw [hg]
  simp only [Option.bind_some]
  rw [hb]
theorem KAt.of {w w' : World} (h : KAt w) (hs : w.heap.size ≤ w'.heap.size) (hb : ∀ k, k < 9 → w'.heap[k]? = w.heap[k]?) : KAt w' := by
  refine ⟨?_, ?_, ?_, ?_, Nat.le_trans h.lt hs⟩
  · obtain ⟨m, hm⟩ := h.max
    exact ⟨m, (World.cell?_of_block (a := ⟨1, 0, none⟩) (hb _ (by show 1 < 9; decide))).trans hm⟩
  · unfold Lib.TabIs
    rw [var_of (g := 2) (by kernel_rfl) (hb _ (by decide))]
    exact h.tab
  · rw [var_of (g := 7) (by kernel_rfl) (hb _ (by decide))]
    exact h.syn
  · rw [var_of (g := 8) (by kernel_rfl) (hb _ (by decide))]
    exact h.rng
theorem KAt.below {w w' : World} {B : Nat} (h : KAt w) (hb : Below B w w') (hB : 9 ≤ B) : KAt w' := h.of hb.size fun k hk => hb.block k (by omega)
theorem KAt.mono {w w' : World} (h : KAt w) (hb : Below w.heap.size w w') : KAt w' := h.below hb h.lt
theorem KAt.grown {w w' : World} {b : Nat} (h : KAt w) (hg : w.grownBy w' (some b)) (hB : 9 ≤ b) : KAt w' :=
  h.of hg.size fun k hk => hg.block k (by have := h.lt; omega) (by intro e; cases e; omega)

/-- the bytes of a string -/
def strV (l : List UInt8) : Value := .string ⟨l.toArray⟩
/-- the reader in block b -/
structure RdAt (w : World) (b : Nat) (r : Rd) : Prop where
  hb : 9 ≤ b
  short : ∀ x ∈ r.ws, x.length ≤ 3000
  few : r.ws.length ≤ 3001
  row : ∃ A c, RowAt w b 109 #[.slice A r.ws.length c, .bool r.bad] ∧ r.ws.length ≤ c ∧ c ≤ 3001 ∧ (r.ws = [] ∨ ∃ sb o, A = some ⟨sb, o, none⟩ ∧ sb < b ∧ ∀ (j : Nat) x, r.ws[j]? = some x → w.cell? ⟨sb, o + j, none⟩ = some (strV x))
theorem RdAt.kept {w w' : World} {b : Nat} {r : Rd} (h : RdAt w b r) (hk : ∀ k, k ≤ b → w'.heap[k]? = w.heap[k]?) : RdAt w' b r := by
  obtain ⟨h1, h2, h3, A, c, hr, hl, hc, hs⟩ := h
  refine ⟨h1, h2, h3, A, c, (hk b (Nat.le_refl _)).trans hr, hl, hc, ?_⟩
  rcases hs with e | ⟨sb, o, e, hlt, hcell⟩
  · exact .inl e
  · exact .inr ⟨sb, o, e, hlt, fun j x hx => (World.cell?_of_block (a := ⟨sb, o + j, none⟩) (hk sb (by omega))).trans (hcell j x hx)⟩
theorem RdAt.lt {w : World} {b : Nat} {r : Rd} (h : RdAt w b r) : b < w.heap.size := by
  obtain ⟨A, c, hr, _⟩ := h.row
  exact hr.lt
theorem RdAt.below {w w' : World} {B b : Nat} {r : Rd} (h : RdAt w b r) (hb : Below B w w') (hB : b < B) : RdAt w' b r := h.kept fun k hk => hb.block k (by omega)
theorem grown_set {w : World} {b i : Nat} (u : Value) : w.grownBy (w.setCell ⟨b, i, none⟩ u) (some b) :=
  ⟨rfl, rfl, rfl, by simp [World.setCell], fun k _ hne => Below.heap_setCell w ⟨b, i, none⟩ u k (fun e => hne (by rw [e]))⟩

set_option maxRecDepth 100000 in
set_option maxHeartbeats 1000000 in
theorem next_any (b : Nat) (r : Rd) (w : World) (h : RdAt w b r) :
    Calls Tryz.prog 70 #[.pointer (some ⟨b, 0, none⟩)] w fun e w' => e = .returned (strV r.next.1) ∧ RdAt w' b r.next.2 ∧ w.grownBy w' (some b) := by
  obtain ⟨hb, hsh, hfew, A, c, hr, hl, hc3, hs⟩ := h
  obtain ⟨ws, bad⟩ := r
  dsimp only at hsh hfew hr hl hs
  have c0 := hr.cell 0
  have c1 := hr.cell 1
  have f0 := hr.free 0
  have f1 := hr.free 1
  simp only [List.getElem?_toArray, List.getElem?_cons_zero, List.getElem?_cons_succ] at c0 c1
  have HE := Lib.hid hr
  cases bad with
  | true =>
    have HG : Hid (RdAt (w.setCell ⟨b, 1, none⟩ (.bool true)) b ⟨ws, true⟩) := Lib.hid ⟨hb, hsh, hfew, A, c, hr.set 1 (.bool true), hl, hc3, by
      rcases hs with e | ⟨sb, o, e, hlt, hcell⟩
      · exact .inl e
      · exact .inr ⟨sb, o, e, hlt, fun j x hx => (World.cell?_of_block (a := ⟨sb, o + j, none⟩) (Below.heap_setCell w ⟨b, 1, none⟩ _ sb (by show sb ≠ b; omega))).trans (hcell j x hx)⟩⟩
    rw [next_bad]
    clear hs hr hsh
    go_enter Tryz.func70, Tryz.ntmps70
    go_wp2
    go_ret
    exact ⟨rfl, HG.out, grown_set _⟩
  | false =>
    cases ws with
    | nil =>
      have HG : Hid (RdAt (w.setCell ⟨b, 1, none⟩ (.bool true)) b ⟨[], true⟩) := Lib.hid ⟨hb, hsh, hfew, A, c, hr.set 1 (.bool true), hl, hc3, .inl rfl⟩
      rw [next_nil]
      simp only [List.length_nil] at c0 hl
      clear hs hr hsh
      go_enter Tryz.func70, Tryz.ntmps70
      go_wp2
      go_ret
      exact ⟨rfl, HG.out, grown_set _⟩
    | cons x t =>
      obtain ⟨sb, o, rfl, hlt, hcell⟩ : ∃ sb o, A = some ⟨sb, o, none⟩ ∧ sb < b ∧ ∀ (j : Nat) y, (x :: t)[j]? = some y → w.cell? ⟨sb, o + j, none⟩ = some (strV y) := by
        rcases hs with e | e
        · cases e
        · exact e
      have cx := hcell 0 x rfl
      rw [Nat.add_zero] at cx
      rw [next_cons]
      obtain ⟨m, hm⟩ : ∃ m, t.length = m := ⟨_, rfl⟩
      have HM := Lib.hid hm
      rw [List.length_cons] at c0 hl hfew
      rw [hm] at c0 hl hfew
      obtain ⟨A2, hsl⟩ : ∃ A2, (∀ wx, (Instr.slice 37 (.slice (some ⟨sb, o, none⟩) (m + 1) c) (some (.int .i64 1)) none none).run Tryz.prog wx = .ok (.slice A2 m (c - 1)) wx) ∧ (t = [] ∨ A2 = some ⟨sb, o + 1, none⟩) := by
        refine ⟨if c = 1 then some ⟨sb, o, none⟩ else (some (⟨sb, o, none⟩ : Addr)).map (·.add (1 * 1)), fun wx => ?_, ?_⟩
        · have h := run_slice_l (P := Tryz.prog) wx 37 (some ⟨sb, o, none⟩) (m + 1) c Tryz.underlying37 .i64 1 (by decide) (by omega)
          rw [h]
          rfl
        · by_cases hc1 : c = 1
          · left
            have : t.length = 0 := by omega
            exact List.length_eq_zero_iff.1 this
          · right
            rw [if_neg hc1]
            rfl
      obtain ⟨hsl, hA2⟩ := hsl
      have HG : Hid (RdAt (w.setCell ⟨b, 0, none⟩ (.slice A2 m (c - 1))) b ⟨t, false⟩) := Lib.hid ⟨hb, fun y hy => hsh y (by simp [hy]), by show t.length ≤ 3001; omega, A2, c - 1, by
          show RowAt _ _ _ #[.slice A2 t.length (c - 1), .bool false]
          rw [hm]
          exact hr.set 0 (.slice A2 m (c - 1)), by show t.length ≤ c - 1; omega, by omega, by
          rcases hA2 with e | e
          · exact .inl e
          · refine .inr ⟨sb, o + 1, e, hlt, fun j y hy => ?_⟩
            have h2 := hcell (j + 1) y (by simpa using hy)
            rw [show o + 1 + j = o + (j + 1) by omega]
            exact (World.cell?_of_block (a := ⟨sb, o + (j + 1), none⟩) (Below.heap_setCell w ⟨b, 0, none⟩ _ sb (by show sb ≠ b; omega))).trans h2⟩
      clear hs hr hsh hcell hA2 hm
      go_enter Tryz.func70, Tryz.ntmps70
      go_wp2
      go_ret
      exact ⟨rfl, HG.out, grown_set _⟩
end Go.Proofs.YtfiabonacpepnaaGreatDoor
