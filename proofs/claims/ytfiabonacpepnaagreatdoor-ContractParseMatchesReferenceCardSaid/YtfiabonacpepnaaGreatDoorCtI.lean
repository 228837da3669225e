/- word, number. -/
import Derived.Test.YtfiabonacpepnaaGreatDoorCtH
namespace Go.Proofs.YtfiabonacpepnaaGreatDoor
open Go Go.RowKit Go.Lib Go.Shelf

theorem grown_trans {w w1 w2 : World} {row : Option Nat} (h : w.grownBy w1 row) (h2 : w1.grownBy w2 row) : w.grownBy w2 row :=
  ⟨h2.os.trans h.os, h2.tape.trans h.tape, h2.output.trans h.output, Nat.le_trans h.size h2.size, fun k hk hne => (h2.block k (Nat.lt_of_lt_of_le hk h.size) hne).trans (h.block k hk hne)⟩
theorem grown_below {w w' : World} (h : Below w.heap.size w w') (row : Option Nat) : w.grownBy w' row := ⟨h.os, h.tape, h.output, h.size, fun k hk _ => h.block k hk⟩
theorem below_grown {w w' : World} {b : Nat} (h : w.grownBy w' (some b)) (hb : b ≤ w.heap.size) : Below b w w' :=
  ⟨h.os, h.tape, h.output, h.size, fun k hk => h.block k (by omega) (by intro e; cases e; omega)⟩
theorem RdAt.setBad {w : World} {b : Nat} {r : Rd} (h : RdAt w b r) (x : Bool) : RdAt (w.setCell ⟨b, 1, none⟩ (.bool x)) b ⟨r.ws, x⟩ := by
  obtain ⟨hb, hsh, hfew, A, c, hr, hl, hc3, hs⟩ := h
  refine ⟨hb, hsh, hfew, A, c, hr.set 1 (.bool x), hl, hc3, ?_⟩
  rcases hs with e | ⟨sb, o, e, hlt, hcell⟩
  · exact .inl e
  · exact .inr ⟨sb, o, e, hlt, fun j y hy => (World.cell?_of_block (a := ⟨sb, o + j, none⟩) (Below.heap_setCell w ⟨b, 1, none⟩ _ sb (by show sb ≠ b; omega))).trans (hcell j y hy)⟩
theorem RdAt.badCell {w : World} {b : Nat} {r : Rd} (h : RdAt w b r) : w.cell? ⟨b, 1, none⟩ = some (.bool r.bad) ∧ w.frozen? ⟨b, 1, none⟩ = false := by
  obtain ⟨A, c, hr, _⟩ := h.row
  exact ⟨hr.cell 1, hr.free 1⟩
theorem RdAt.wsCell {w : World} {b : Nat} {r : Rd} (h : RdAt w b r) : ∃ A c, w.cell? ⟨b, 0, none⟩ = some (.slice A r.ws.length c) := by
  obtain ⟨A, c, hr, _⟩ := h.row
  exact ⟨A, c, hr.cell 0⟩
theorem RdAt.word_short {w : World} {b : Nat} {r : Rd} (h : RdAt w b r) : r.next.1.length ≤ 3000 := by
  unfold Rd.next
  split
  · simp
  · rename_i hn
    cases hw : r.ws with
    | nil => simp
    | cons x t => exact h.short x (by rw [hw]; simp)

set_option maxRecDepth 100000 in
set_option maxHeartbeats 1000000 in
theorem word_any (b : Nat) (r : Rd) (k : List UInt8) (w : World) (h : RdAt w b r) :
    Calls Tryz.prog 138 #[.pointer (some ⟨b, 0, none⟩), strV k] w fun e w' => e = .returned (.tuple #[]) ∧ RdAt w' b (r.word k) ∧ w.grownBy w' (some b) := by
  have HN := Lib.hid (next_any b r w h)
  unfold Rd.word
  obtain ⟨x, hx⟩ : ∃ x, r.next.1 = x := ⟨_, rfl⟩
  obtain ⟨ws2, y, hr2⟩ : ∃ ws y, r.next.2 = ⟨ws, y⟩ := ⟨_, _, rfl⟩
  rw [hx, hr2] at HN ⊢
  dsimp only at HN ⊢
  obtain ⟨q, hq⟩ : ∃ q, (x == k) = q := ⟨_, rfl⟩
  rw [hq]
  clear h hx hr2
  unfold strV at HN ⊢
  cases q
  all_goals
    go_enter Tryz.func138, Tryz.ntmps138
    go_wp2_with fail
    refine HN.out.mono ?_
    rintro e w1 ⟨rfl, h1, hg⟩
    obtain ⟨c1, f1⟩ := h1.badCell
    have HR := Lib.hid h1
    have HG := Lib.hid hg
    dsimp only at c1
    clear h1 hg
    go_wp2_with fail
    go_end0
    exact ⟨rfl, HR.out.setBad _, grown_trans HG.out (grown_set _)⟩
set_option maxRecDepth 100000 in
set_option maxHeartbeats 1000000 in
theorem number_any (b : Nat) (r : Rd) (w : World) (h : RdAt w b r) (hK : KAt w) :
    Calls Tryz.prog 94 #[.pointer (some ⟨b, 0, none⟩)] w fun e w' => e = .returned (.int .i64 r.number.1) ∧ RdAt w' b r.number.2 ∧ w.grownBy w' (some b) := by
  have HN := Lib.hid (next_any b r w h)
  have hw := h.word_short
  have hb9 := h.hb
  have HK := Lib.hid hK
  unfold Rd.number
  obtain ⟨x, hx⟩ : ∃ x, r.next.1 = x := ⟨_, rfl⟩
  obtain ⟨ws2, y, hr2⟩ : ∃ ws y, r.next.2 = ⟨ws, y⟩ := ⟨_, _, rfl⟩
  rw [hx] at hw
  rw [hx, hr2] at HN ⊢
  dsimp only at HN ⊢
  have HD : Hid (∀ W, KAt W → Calls Tryz.prog 141 #[strV x] W fun e w' => e = .returned (.tuple #[.int .i64 (digV x).1, .bool (digV x).2]) ∧ Below W.heap.size W w') := Lib.hid (fun W hW => digits_any x W hW (by omega))
  obtain ⟨n, hn⟩ : ∃ q, (digV x).1 = q := ⟨_, rfl⟩
  obtain ⟨ok, hok⟩ : ∃ q, (digV x).2 = q := ⟨_, rfl⟩
  rw [hn, hok] at HD ⊢
  clear h hx hr2 hK hn hok hw
  unfold strV at HN HD
  go_enter Tryz.func94, Tryz.ntmps94
  go_wp2_with fail
  refine HN.out.mono ?_
  rintro e w1 ⟨rfl, h1, hg⟩
  have HK1 := Lib.hid (HK.out.grown hg hb9)
  have HR := Lib.hid h1
  have HG := Lib.hid hg
  clear h1 hg
  go_wp2_with fail
  refine (HD.out _ HK1.out).mono ?_
  rintro e w2 ⟨rfl, hb2⟩
  have h2 := HR.out.below hb2 HR.out.lt
  obtain ⟨c1, f1⟩ := h2.badCell
  have HR2 := Lib.hid h2
  have HG2 := Lib.hid (grown_trans HG.out (grown_below hb2 _))
  clear h2 hb2
  cases y
  all_goals
    go_wp2_with fail
    go_ret
    exact ⟨rfl, HR2.out.setBad _, grown_trans HG2.out (grown_set _)⟩
end Go.Proofs.YtfiabonacpepnaaGreatDoor
