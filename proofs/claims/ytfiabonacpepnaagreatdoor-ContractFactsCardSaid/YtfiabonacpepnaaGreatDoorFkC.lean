/- Package fact: the fields of each kind. -/
import Derived.Test.YtfiabonacpepnaaGreatDoorFkB
import Derived.Deep.RegionHeld3
namespace Go.Proofs.YtfiabonacpepnaaGreatDoor.Fb
open Go Go.RowKit Go.Lib Go.Shelf Go.Maps

/-- the cells of a list of fields of the record in block rb -/
def fCells (rb : Nat) (l : List (Nat × Int × Int)) : List Value := l.flatMap fun x => [.pointer (some ⟨rb, x.1, none⟩), .int .i64 x.2.1, .int .i64 x.2.2]
def f_play : List (Nat × Int × Int) := [(1, 1, 1000000), (5, 1, 1000000), (6, 1, 1000000), (7, 1, 1000000), (8, 0, 7), (4, 0, 3155759999), (13, 0, 86400000), (16, 0, 1)]
def f_mark : List (Nat × Int × Int) := [(6, 1, 1000000), (1, 1, 1000000), (16, 1, 3)]
def f_claim (z : Int) : List (Nat × Int × Int) := [(1, 1, 1000000), (7, 1, 1000000), (9, 1, 1000000), (10, 1, 2), (8, 1, 255), (11, 0, z), (12, 1, 1200), (14, 0, 1000000)]
def f_contract : List (Nat × Int × Int) := [(9, 1, 1000000), (11, 0, 1199)]
def f_revenue : List (Nat × Int × Int) := [(1, 1, 1000000), (3, 0, 1199), (8, 0, 7), (13, 0, 10000000000), (15, 0, 20)]
def f_subscription : List (Nat × Int × Int) := [(5, 1, 1000000), (3, 0, 1199), (8, 0, 7), (13, 0, 1000000000), (15, 0, 20)]
def f_rate : List (Nat × Int × Int) := [(15, 1, 20), (3, 0, 1199), (13, 1, 10000000)]
def f_advance : List (Nat × Int × Int) := [(1, 1, 1000000), (5, 1, 1000), (3, 0, 1199), (13, 0, 100000000000)]
def f_rules : List (Nat × Int × Int) := [(11, 0, 1199)]
def f_method : List (Nat × Int × Int) := [(8, 0, 7), (11, 0, 1199), (16, 1, 2)]
set_option maxRecDepth 100000 in
set_option maxHeartbeats 4000000 in
theorem r_play (rb : Nat) (w : World) :
    Calls Tryz.prog 98 #[.pointer (some ⟨rb, 0, none⟩)] w fun e w' => ∃ g, e = .returned (.slice (some ⟨g, 0, none⟩) 8 8) ∧ w.heap.size ≤ g ∧ RowAt w' g 124 (fCells rb f_play).toArray ∧ Below w.heap.size w w' := by
  have C_id := Lib.hid (fun (o : Nat) W (hb : Below w.heap.size w W) => (fid_any rb o W).mono (fun e w' hh => (⟨hh.1, hb.trans (hh.2.mono hb.size)⟩ : _ ∧ Below w.heap.size w w')))
  have C_territory := Lib.hid (fun (o : Nat) W (hb : Below w.heap.size w W) => (fterritory_any rb o W).mono (fun e w' hh => (⟨hh.1, hb.trans (hh.2.mono hb.size)⟩ : _ ∧ Below w.heap.size w w')))
  have hB := Below.refl w.heap.size w
  go_enter Tryz.func98, Tryz.ntmps98
  go_wp2_with fail
  go_region_held3 (fun W => Below w.heap.size w W) (first | assumption | exact Below.drew (by assumption) | exact Below.alloc (by assumption) (Below.size (by assumption)) _ | exact (Below.alloc (by assumption) (Below.size (by assumption)) _).drew | exact Below.alloc (Below.drew (by assumption)) (Below.size (by assumption)) _) (first | (go_at_call 142; (with_reducible refine (C_id.out _ _ ?_).mono ?_); (first | with_reducible assumption | exact Below.drew (by assumption)); rintro e Y ⟨rfl, hyy⟩) | (go_at_call 143; (with_reducible refine (C_territory.out _ _ ?_).mono ?_); (first | with_reducible assumption | exact Below.drew (by assumption)); rintro e Y ⟨rfl, hyy⟩))
  go_wp2_with fail
  go_ret
  exact ⟨_, rfl, Below.size (by assumption), (by first | exact RowAt.new _ _ _ | exact (RowAt.new _ _ _).drew), (by first | exact Below.alloc (by assumption) (Below.size (by assumption)) _ | exact (Below.alloc (by assumption) (Below.size (by assumption)) _).drew)⟩
set_option maxRecDepth 100000 in
set_option maxHeartbeats 4000000 in
theorem r_mark (rb : Nat) (w : World) :
    Calls Tryz.prog 100 #[.pointer (some ⟨rb, 0, none⟩)] w fun e w' => ∃ g, e = .returned (.slice (some ⟨g, 0, none⟩) 3 3) ∧ w.heap.size ≤ g ∧ RowAt w' g 124 (fCells rb f_mark).toArray ∧ Below w.heap.size w w' := by
  have C_id := Lib.hid (fun (o : Nat) W (hb : Below w.heap.size w W) => (fid_any rb o W).mono (fun e w' hh => (⟨hh.1, hb.trans (hh.2.mono hb.size)⟩ : _ ∧ Below w.heap.size w w')))
  have hB := Below.refl w.heap.size w
  go_enter Tryz.func100, Tryz.ntmps100
  go_wp2_with fail
  go_region_held3 (fun W => Below w.heap.size w W) (first | assumption | exact Below.drew (by assumption) | exact Below.alloc (by assumption) (Below.size (by assumption)) _ | exact (Below.alloc (by assumption) (Below.size (by assumption)) _).drew | exact Below.alloc (Below.drew (by assumption)) (Below.size (by assumption)) _) (first | (go_at_call 142; (with_reducible refine (C_id.out _ _ ?_).mono ?_); (first | with_reducible assumption | exact Below.drew (by assumption)); rintro e Y ⟨rfl, hyy⟩))
  go_wp2_with fail
  go_ret
  exact ⟨_, rfl, Below.size (by assumption), (by first | exact RowAt.new _ _ _ | exact (RowAt.new _ _ _).drew), (by first | exact Below.alloc (by assumption) (Below.size (by assumption)) _ | exact (Below.alloc (by assumption) (Below.size (by assumption)) _).drew)⟩
set_option maxRecDepth 100000 in
set_option maxHeartbeats 4000000 in
theorem r_claim (rb : Nat) (x12 : Int) (w : World) (h12 : w.cell? ⟨rb, 12, none⟩ = some (.int .i64 x12)) :
    Calls Tryz.prog 101 #[.pointer (some ⟨rb, 0, none⟩)] w fun e w' => ∃ g, e = .returned (.slice (some ⟨g, 0, none⟩) 8 8) ∧ w.heap.size ≤ g ∧ RowAt w' g 124 (fCells rb (f_claim (IntKind.i64.wrap (x12 - 1)))).toArray ∧ Below w.heap.size w w' := by
  have C_id := Lib.hid (fun (o : Nat) W (hb : Below w.heap.size w W) => (fid_any rb o W).mono (fun e w' hh => (⟨hh.1, hb.trans (hh.2.mono hb.size)⟩ : _ ∧ Below w.heap.size w w')))
  have hB := Below.refl w.heap.size w
  have hlt := World.block_lt_of_cell? w _ h12
  have HKP : Hid (∀ W, Below w.heap.size w W → Below w.heap.size w W ∧ W.cell? ⟨rb, 12, none⟩ = some (.int .i64 x12)) := Lib.hid (fun W hb => ⟨hb, (hb.cell (p := ⟨rb, 12, none⟩) hlt).trans h12⟩)
  obtain ⟨y, e12⟩ : ∃ z, IntKind.i64.wrap (x12 - 1) = z := ⟨_, rfl⟩
  rw [e12]
  clear hlt
  go_enter Tryz.func101, Tryz.ntmps101
  go_wp2_with fail
  go_region_held3 (fun W => Below w.heap.size w W ∧ W.cell? ⟨rb, 12, none⟩ = some (.int .i64 x12)) (first | exact HKP.out _ (by first | assumption | exact Below.drew (by assumption) | exact Below.alloc (by assumption) (Below.size (by assumption)) _ | exact (Below.alloc (by assumption) (Below.size (by assumption)) _).drew | exact Below.alloc (Below.drew (by assumption)) (Below.size (by assumption)) _)) (first | (go_at_call 142; (with_reducible refine (C_id.out _ _ ?_).mono ?_); (first | with_reducible assumption | exact Below.drew (by assumption)); rintro e Y ⟨rfl, hyy⟩))
  go_wp2_with fail
  go_ret
  exact ⟨_, rfl, Below.size (by assumption), (by first | exact RowAt.new _ _ _ | exact (RowAt.new _ _ _).drew), (by first | exact Below.alloc (by assumption) (Below.size (by assumption)) _ | exact (Below.alloc (by assumption) (Below.size (by assumption)) _).drew)⟩
set_option maxRecDepth 100000 in
set_option maxHeartbeats 4000000 in
theorem r_contract (rb : Nat) (w : World) :
    Calls Tryz.prog 103 #[.pointer (some ⟨rb, 0, none⟩)] w fun e w' => ∃ g, e = .returned (.slice (some ⟨g, 0, none⟩) 2 2) ∧ w.heap.size ≤ g ∧ RowAt w' g 124 (fCells rb f_contract).toArray ∧ Below w.heap.size w w' := by
  have C_id := Lib.hid (fun (o : Nat) W (hb : Below w.heap.size w W) => (fid_any rb o W).mono (fun e w' hh => (⟨hh.1, hb.trans (hh.2.mono hb.size)⟩ : _ ∧ Below w.heap.size w w')))
  have C_period := Lib.hid (fun (o : Nat) W (hb : Below w.heap.size w W) => (fperiod_any rb o W).mono (fun e w' hh => (⟨hh.1, hb.trans (hh.2.mono hb.size)⟩ : _ ∧ Below w.heap.size w w')))
  have hB := Below.refl w.heap.size w
  go_enter Tryz.func103, Tryz.ntmps103
  go_wp2_with fail
  go_region_held3 (fun W => Below w.heap.size w W) (first | assumption | exact Below.drew (by assumption) | exact Below.alloc (by assumption) (Below.size (by assumption)) _ | exact (Below.alloc (by assumption) (Below.size (by assumption)) _).drew | exact Below.alloc (Below.drew (by assumption)) (Below.size (by assumption)) _) (first | (go_at_call 142; (with_reducible refine (C_id.out _ _ ?_).mono ?_); (first | with_reducible assumption | exact Below.drew (by assumption)); rintro e Y ⟨rfl, hyy⟩) | (go_at_call 144; (with_reducible refine (C_period.out _ _ ?_).mono ?_); (first | with_reducible assumption | exact Below.drew (by assumption)); rintro e Y ⟨rfl, hyy⟩))
  go_wp2_with fail
  go_ret
  exact ⟨_, rfl, Below.size (by assumption), (by first | exact RowAt.new _ _ _ | exact (RowAt.new _ _ _).drew), (by first | exact Below.alloc (by assumption) (Below.size (by assumption)) _ | exact (Below.alloc (by assumption) (Below.size (by assumption)) _).drew)⟩
set_option maxRecDepth 100000 in
set_option maxHeartbeats 4000000 in
theorem r_revenue (rb : Nat) (w : World) :
    Calls Tryz.prog 105 #[.pointer (some ⟨rb, 0, none⟩)] w fun e w' => ∃ g, e = .returned (.slice (some ⟨g, 0, none⟩) 5 5) ∧ w.heap.size ≤ g ∧ RowAt w' g 124 (fCells rb f_revenue).toArray ∧ Below w.heap.size w w' := by
  have C_id := Lib.hid (fun (o : Nat) W (hb : Below w.heap.size w W) => (fid_any rb o W).mono (fun e w' hh => (⟨hh.1, hb.trans (hh.2.mono hb.size)⟩ : _ ∧ Below w.heap.size w w')))
  have C_period := Lib.hid (fun (o : Nat) W (hb : Below w.heap.size w W) => (fperiod_any rb o W).mono (fun e w' hh => (⟨hh.1, hb.trans (hh.2.mono hb.size)⟩ : _ ∧ Below w.heap.size w w')))
  have C_territory := Lib.hid (fun (o : Nat) W (hb : Below w.heap.size w W) => (fterritory_any rb o W).mono (fun e w' hh => (⟨hh.1, hb.trans (hh.2.mono hb.size)⟩ : _ ∧ Below w.heap.size w w')))
  have hB := Below.refl w.heap.size w
  go_enter Tryz.func105, Tryz.ntmps105
  go_wp2_with fail
  go_region_held3 (fun W => Below w.heap.size w W) (first | assumption | exact Below.drew (by assumption) | exact Below.alloc (by assumption) (Below.size (by assumption)) _ | exact (Below.alloc (by assumption) (Below.size (by assumption)) _).drew | exact Below.alloc (Below.drew (by assumption)) (Below.size (by assumption)) _) (first | (go_at_call 142; (with_reducible refine (C_id.out _ _ ?_).mono ?_); (first | with_reducible assumption | exact Below.drew (by assumption)); rintro e Y ⟨rfl, hyy⟩) | (go_at_call 144; (with_reducible refine (C_period.out _ _ ?_).mono ?_); (first | with_reducible assumption | exact Below.drew (by assumption)); rintro e Y ⟨rfl, hyy⟩) | (go_at_call 143; (with_reducible refine (C_territory.out _ _ ?_).mono ?_); (first | with_reducible assumption | exact Below.drew (by assumption)); rintro e Y ⟨rfl, hyy⟩))
  go_wp2_with fail
  go_ret
  exact ⟨_, rfl, Below.size (by assumption), (by first | exact RowAt.new _ _ _ | exact (RowAt.new _ _ _).drew), (by first | exact Below.alloc (by assumption) (Below.size (by assumption)) _ | exact (Below.alloc (by assumption) (Below.size (by assumption)) _).drew)⟩
set_option maxRecDepth 100000 in
set_option maxHeartbeats 4000000 in
theorem r_subscription (rb : Nat) (w : World) :
    Calls Tryz.prog 106 #[.pointer (some ⟨rb, 0, none⟩)] w fun e w' => ∃ g, e = .returned (.slice (some ⟨g, 0, none⟩) 5 5) ∧ w.heap.size ≤ g ∧ RowAt w' g 124 (fCells rb f_subscription).toArray ∧ Below w.heap.size w w' := by
  have C_id := Lib.hid (fun (o : Nat) W (hb : Below w.heap.size w W) => (fid_any rb o W).mono (fun e w' hh => (⟨hh.1, hb.trans (hh.2.mono hb.size)⟩ : _ ∧ Below w.heap.size w w')))
  have C_period := Lib.hid (fun (o : Nat) W (hb : Below w.heap.size w W) => (fperiod_any rb o W).mono (fun e w' hh => (⟨hh.1, hb.trans (hh.2.mono hb.size)⟩ : _ ∧ Below w.heap.size w w')))
  have C_territory := Lib.hid (fun (o : Nat) W (hb : Below w.heap.size w W) => (fterritory_any rb o W).mono (fun e w' hh => (⟨hh.1, hb.trans (hh.2.mono hb.size)⟩ : _ ∧ Below w.heap.size w w')))
  have hB := Below.refl w.heap.size w
  go_enter Tryz.func106, Tryz.ntmps106
  go_wp2_with fail
  go_region_held3 (fun W => Below w.heap.size w W) (first | assumption | exact Below.drew (by assumption) | exact Below.alloc (by assumption) (Below.size (by assumption)) _ | exact (Below.alloc (by assumption) (Below.size (by assumption)) _).drew | exact Below.alloc (Below.drew (by assumption)) (Below.size (by assumption)) _) (first | (go_at_call 142; (with_reducible refine (C_id.out _ _ ?_).mono ?_); (first | with_reducible assumption | exact Below.drew (by assumption)); rintro e Y ⟨rfl, hyy⟩) | (go_at_call 144; (with_reducible refine (C_period.out _ _ ?_).mono ?_); (first | with_reducible assumption | exact Below.drew (by assumption)); rintro e Y ⟨rfl, hyy⟩) | (go_at_call 143; (with_reducible refine (C_territory.out _ _ ?_).mono ?_); (first | with_reducible assumption | exact Below.drew (by assumption)); rintro e Y ⟨rfl, hyy⟩))
  go_wp2_with fail
  go_ret
  exact ⟨_, rfl, Below.size (by assumption), (by first | exact RowAt.new _ _ _ | exact (RowAt.new _ _ _).drew), (by first | exact Below.alloc (by assumption) (Below.size (by assumption)) _ | exact (Below.alloc (by assumption) (Below.size (by assumption)) _).drew)⟩
set_option maxRecDepth 100000 in
set_option maxHeartbeats 4000000 in
theorem r_rate (rb : Nat) (w : World) :
    Calls Tryz.prog 108 #[.pointer (some ⟨rb, 0, none⟩)] w fun e w' => ∃ g, e = .returned (.slice (some ⟨g, 0, none⟩) 3 3) ∧ w.heap.size ≤ g ∧ RowAt w' g 124 (fCells rb f_rate).toArray ∧ Below w.heap.size w w' := by
  have C_period := Lib.hid (fun (o : Nat) W (hb : Below w.heap.size w W) => (fperiod_any rb o W).mono (fun e w' hh => (⟨hh.1, hb.trans (hh.2.mono hb.size)⟩ : _ ∧ Below w.heap.size w w')))
  have hB := Below.refl w.heap.size w
  go_enter Tryz.func108, Tryz.ntmps108
  go_wp2_with fail
  go_region_held3 (fun W => Below w.heap.size w W) (first | assumption | exact Below.drew (by assumption) | exact Below.alloc (by assumption) (Below.size (by assumption)) _ | exact (Below.alloc (by assumption) (Below.size (by assumption)) _).drew | exact Below.alloc (Below.drew (by assumption)) (Below.size (by assumption)) _) (first | (go_at_call 144; (with_reducible refine (C_period.out _ _ ?_).mono ?_); (first | with_reducible assumption | exact Below.drew (by assumption)); rintro e Y ⟨rfl, hyy⟩))
  go_wp2_with fail
  go_ret
  exact ⟨_, rfl, Below.size (by assumption), (by first | exact RowAt.new _ _ _ | exact (RowAt.new _ _ _).drew), (by first | exact Below.alloc (by assumption) (Below.size (by assumption)) _ | exact (Below.alloc (by assumption) (Below.size (by assumption)) _).drew)⟩
set_option maxRecDepth 100000 in
set_option maxHeartbeats 4000000 in
theorem r_advance (rb : Nat) (w : World) :
    Calls Tryz.prog 110 #[.pointer (some ⟨rb, 0, none⟩)] w fun e w' => ∃ g, e = .returned (.slice (some ⟨g, 0, none⟩) 4 4) ∧ w.heap.size ≤ g ∧ RowAt w' g 124 (fCells rb f_advance).toArray ∧ Below w.heap.size w w' := by
  have C_id := Lib.hid (fun (o : Nat) W (hb : Below w.heap.size w W) => (fid_any rb o W).mono (fun e w' hh => (⟨hh.1, hb.trans (hh.2.mono hb.size)⟩ : _ ∧ Below w.heap.size w w')))
  have C_period := Lib.hid (fun (o : Nat) W (hb : Below w.heap.size w W) => (fperiod_any rb o W).mono (fun e w' hh => (⟨hh.1, hb.trans (hh.2.mono hb.size)⟩ : _ ∧ Below w.heap.size w w')))
  have hB := Below.refl w.heap.size w
  go_enter Tryz.func110, Tryz.ntmps110
  go_wp2_with fail
  go_region_held3 (fun W => Below w.heap.size w W) (first | assumption | exact Below.drew (by assumption) | exact Below.alloc (by assumption) (Below.size (by assumption)) _ | exact (Below.alloc (by assumption) (Below.size (by assumption)) _).drew | exact Below.alloc (Below.drew (by assumption)) (Below.size (by assumption)) _) (first | (go_at_call 142; (with_reducible refine (C_id.out _ _ ?_).mono ?_); (first | with_reducible assumption | exact Below.drew (by assumption)); rintro e Y ⟨rfl, hyy⟩) | (go_at_call 144; (with_reducible refine (C_period.out _ _ ?_).mono ?_); (first | with_reducible assumption | exact Below.drew (by assumption)); rintro e Y ⟨rfl, hyy⟩))
  go_wp2_with fail
  go_ret
  exact ⟨_, rfl, Below.size (by assumption), (by first | exact RowAt.new _ _ _ | exact (RowAt.new _ _ _).drew), (by first | exact Below.alloc (by assumption) (Below.size (by assumption)) _ | exact (Below.alloc (by assumption) (Below.size (by assumption)) _).drew)⟩
set_option maxRecDepth 100000 in
set_option maxHeartbeats 4000000 in
theorem r_rules (rb : Nat) (w : World) :
    Calls Tryz.prog 111 #[.pointer (some ⟨rb, 0, none⟩)] w fun e w' => ∃ g, e = .returned (.slice (some ⟨g, 0, none⟩) 1 1) ∧ w.heap.size ≤ g ∧ RowAt w' g 124 (fCells rb f_rules).toArray ∧ Below w.heap.size w w' := by
  have C_period := Lib.hid (fun (o : Nat) W (hb : Below w.heap.size w W) => (fperiod_any rb o W).mono (fun e w' hh => (⟨hh.1, hb.trans (hh.2.mono hb.size)⟩ : _ ∧ Below w.heap.size w w')))
  have hB := Below.refl w.heap.size w
  go_enter Tryz.func111, Tryz.ntmps111
  go_wp2_with fail
  refine (C_period.out _ _ hB).mono ?_
  rintro e Y ⟨rfl, hyy⟩
  go_wp2_with fail
  go_ret
  exact ⟨_, rfl, Below.size (by assumption), (by first | exact RowAt.new _ _ _ | exact (RowAt.new _ _ _).drew), (by first | exact Below.alloc (by assumption) (Below.size (by assumption)) _ | exact (Below.alloc (by assumption) (Below.size (by assumption)) _).drew)⟩
set_option maxRecDepth 100000 in
set_option maxHeartbeats 4000000 in
theorem r_method (rb : Nat) (w : World) :
    Calls Tryz.prog 113 #[.pointer (some ⟨rb, 0, none⟩)] w fun e w' => ∃ g, e = .returned (.slice (some ⟨g, 0, none⟩) 3 3) ∧ w.heap.size ≤ g ∧ RowAt w' g 124 (fCells rb f_method).toArray ∧ Below w.heap.size w w' := by
  have C_period := Lib.hid (fun (o : Nat) W (hb : Below w.heap.size w W) => (fperiod_any rb o W).mono (fun e w' hh => (⟨hh.1, hb.trans (hh.2.mono hb.size)⟩ : _ ∧ Below w.heap.size w w')))
  have C_territory := Lib.hid (fun (o : Nat) W (hb : Below w.heap.size w W) => (fterritory_any rb o W).mono (fun e w' hh => (⟨hh.1, hb.trans (hh.2.mono hb.size)⟩ : _ ∧ Below w.heap.size w w')))
  have hB := Below.refl w.heap.size w
  go_enter Tryz.func113, Tryz.ntmps113
  go_wp2_with fail
  go_region_held3 (fun W => Below w.heap.size w W) (first | assumption | exact Below.drew (by assumption) | exact Below.alloc (by assumption) (Below.size (by assumption)) _ | exact (Below.alloc (by assumption) (Below.size (by assumption)) _).drew | exact Below.alloc (Below.drew (by assumption)) (Below.size (by assumption)) _) (first | (go_at_call 144; (with_reducible refine (C_period.out _ _ ?_).mono ?_); (first | with_reducible assumption | exact Below.drew (by assumption)); rintro e Y ⟨rfl, hyy⟩) | (go_at_call 143; (with_reducible refine (C_territory.out _ _ ?_).mono ?_); (first | with_reducible assumption | exact Below.drew (by assumption)); rintro e Y ⟨rfl, hyy⟩))
  go_wp2_with fail
  go_ret
  exact ⟨_, rfl, Below.size (by assumption), (by first | exact RowAt.new _ _ _ | exact (RowAt.new _ _ _).drew), (by first | exact Below.alloc (by assumption) (Below.size (by assumption)) _ | exact (Below.alloc (by assumption) (Below.size (by assumption)) _).drew)⟩
end Go.Proofs.YtfiabonacpepnaaGreatDoor.Fb
