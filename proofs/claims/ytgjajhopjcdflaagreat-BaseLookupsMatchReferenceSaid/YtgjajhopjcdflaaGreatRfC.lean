import Derived.Test.YtgjajhopjcdflaaGreatRfB1a
import Derived.Test.YtgjajhopjcdflaaGreatRfB1b
import Derived.Test.YtgjajhopjcdflaaGreatRfB1c
import Derived.Test.YtgjajhopjcdflaaGreatRfB1d
import Derived.Test.YtgjajhopjcdflaaGreatRfB1e
import Derived.Test.YtgjajhopjcdflaaGreatRfB3a
import Derived.Test.YtgjajhopjcdflaaGreatRfB3b
import Derived.Test.YtgjajhopjcdflaaGreatRfB3c
import Derived.Test.YtgjajhopjcdflaaGreatRfB3d
import Derived.Test.YtgjajhopjcdflaaGreatRfB3e
import Derived.Test.YtgjajhopjcdflaaGreatRfB10
import Derived.Test.YtgjajhopjcdflaaGreatRfB5
import Derived.Test.YtgjajhopjcdflaaGreatRfB6
import Derived.Test.YtgjajhopjcdflaaGreatRfB8
import Derived.Test.YtgjajhopjcdflaaGreatFpB
namespace Go.Proofs.YtgjajhopjcdflaaGreat
open Go Go.RowKit Go.Lib Go.Shelf Go.Maps

theorem rfields_1 (x1 x2 x3 x4 x5 x6 x7 x8 x9 x10 x11 x12 x13 x14 x15 x16 : Int) (t : ByteArray) (w : World) :
    Calls Tryz.prog 58 #[.agg #[.int .i64 1, .int .i64 x1, .int .i64 x2, .int .i64 x3, .int .i64 x4, .int .i64 x5, .int .i64 x6, .int .i64 x7, .int .i64 x8, .int .i64 x9, .int .i64 x10, .int .i64 x11, .int .i64 x12, .int .i64 x13, .int .i64 x14, .int .i64 x15, .int .i64 x16, .string t]] w fun e w' => e = .returned (.tuple #[.agg #[.int .i64 1, .int .i64 x1, .int .i64 x2, .int .i64 0, .int .i64 x4, .int .i64 x5, .int .i64 x6, .int .i64 x7, .int .i64 x8, .int .i64 0, .int .i64 0, .int .i64 0, .int .i64 0, .int .i64 x13, .int .i64 0, .int .i64 0, .int .i64 x16, .string ⟨#[]⟩], .bool (inB x1 1 1000000 && (inB x5 1 1000000 && (inB x6 1 1000000 && (inB x7 1 1000000 && (inB x8 0 7 && (inB x4 0 3155759999 && (inB x13 0 86400000 && (inB x16 0 1))))))))]) ∧ Below w.heap.size w w' := by
  cases e0 : inB x1 1 1000000
  · exact rfields_1_p0 x1 x2 x3 x4 x5 x6 x7 x8 x9 x10 x11 x12 x13 x14 x15 x16 t w e0
  · cases e1 : inB x5 1 1000000
    · exact rfields_1_p1 x1 x2 x3 x4 x5 x6 x7 x8 x9 x10 x11 x12 x13 x14 x15 x16 t w e0 e1
    · cases e2 : inB x6 1 1000000
      · exact rfields_1_p2 x1 x2 x3 x4 x5 x6 x7 x8 x9 x10 x11 x12 x13 x14 x15 x16 t w e0 e1 e2
      · cases e3 : inB x7 1 1000000
        · exact rfields_1_p3 x1 x2 x3 x4 x5 x6 x7 x8 x9 x10 x11 x12 x13 x14 x15 x16 t w e0 e1 e2 e3
        · cases e4 : inB x8 0 7
          · exact rfields_1_p4 x1 x2 x3 x4 x5 x6 x7 x8 x9 x10 x11 x12 x13 x14 x15 x16 t w e0 e1 e2 e3 e4
          · cases e5 : inB x4 0 3155759999
            · exact rfields_1_p5 x1 x2 x3 x4 x5 x6 x7 x8 x9 x10 x11 x12 x13 x14 x15 x16 t w e0 e1 e2 e3 e4 e5
            · cases e6 : inB x13 0 86400000
              · exact rfields_1_p6 x1 x2 x3 x4 x5 x6 x7 x8 x9 x10 x11 x12 x13 x14 x15 x16 t w e0 e1 e2 e3 e4 e5 e6
              · cases e7 : inB x16 0 1
                · exact rfields_1_p7 x1 x2 x3 x4 x5 x6 x7 x8 x9 x10 x11 x12 x13 x14 x15 x16 t w e0 e1 e2 e3 e4 e5 e6 e7
                · exact rfields_1_p8 x1 x2 x3 x4 x5 x6 x7 x8 x9 x10 x11 x12 x13 x14 x15 x16 t w e0 e1 e2 e3 e4 e5 e6 e7
end Go.Proofs.YtgjajhopjcdflaaGreat
namespace Go.Proofs.YtgjajhopjcdflaaGreat
open Go Go.RowKit Go.Lib Go.Shelf Go.Maps

theorem rfields_3 (x1 x2 x3 x4 x5 x6 x7 x8 x9 x10 x11 x12 x13 x14 x15 x16 : Int) (t : ByteArray) (w : World) :
    Calls Tryz.prog 58 #[.agg #[.int .i64 3, .int .i64 x1, .int .i64 x2, .int .i64 x3, .int .i64 x4, .int .i64 x5, .int .i64 x6, .int .i64 x7, .int .i64 x8, .int .i64 x9, .int .i64 x10, .int .i64 x11, .int .i64 x12, .int .i64 x13, .int .i64 x14, .int .i64 x15, .int .i64 x16, .string t]] w fun e w' => e = .returned (.tuple #[.agg #[.int .i64 3, .int .i64 x1, .int .i64 x2, .int .i64 0, .int .i64 0, .int .i64 0, .int .i64 0, .int .i64 x7, .int .i64 x8, .int .i64 x9, .int .i64 x10, .int .i64 x11, .int .i64 x12, .int .i64 0, .int .i64 x14, .int .i64 0, .int .i64 0, .string ⟨#[]⟩], .bool (inB x1 1 1000000 && (inB x7 1 1000000 && (inB x9 1 1000000 && (inB x10 1 2 && (inB x8 1 255 && (decide (0 ≤ x11) && (decide (x11 < x12) && (decide (x12 ≤ 1200) && (inB x14 0 1000000)))))))))]) ∧ Below w.heap.size w w' := by
  cases e0 : inB x1 1 1000000
  · exact rfields_3_p0 x1 x2 x3 x4 x5 x6 x7 x8 x9 x10 x11 x12 x13 x14 x15 x16 t w e0
  · cases e1 : inB x7 1 1000000
    · exact rfields_3_p1 x1 x2 x3 x4 x5 x6 x7 x8 x9 x10 x11 x12 x13 x14 x15 x16 t w e0 e1
    · cases e2 : inB x9 1 1000000
      · exact rfields_3_p2 x1 x2 x3 x4 x5 x6 x7 x8 x9 x10 x11 x12 x13 x14 x15 x16 t w e0 e1 e2
      · cases e3 : inB x10 1 2
        · exact rfields_3_p3 x1 x2 x3 x4 x5 x6 x7 x8 x9 x10 x11 x12 x13 x14 x15 x16 t w e0 e1 e2 e3
        · cases e4 : inB x8 1 255
          · exact rfields_3_p4 x1 x2 x3 x4 x5 x6 x7 x8 x9 x10 x11 x12 x13 x14 x15 x16 t w e0 e1 e2 e3 e4
          · cases e5 : decide (0 ≤ x11)
            · exact rfields_3_p5 x1 x2 x3 x4 x5 x6 x7 x8 x9 x10 x11 x12 x13 x14 x15 x16 t w e0 e1 e2 e3 e4 e5
            · cases e6 : decide (x11 < x12)
              · exact rfields_3_p6 x1 x2 x3 x4 x5 x6 x7 x8 x9 x10 x11 x12 x13 x14 x15 x16 t w e0 e1 e2 e3 e4 e5 e6
              · cases e7 : decide (x12 ≤ 1200)
                · exact rfields_3_p7 x1 x2 x3 x4 x5 x6 x7 x8 x9 x10 x11 x12 x13 x14 x15 x16 t w e0 e1 e2 e3 e4 e5 e6 e7
                · cases e8 : inB x14 0 1000000
                  · exact rfields_3_p8 x1 x2 x3 x4 x5 x6 x7 x8 x9 x10 x11 x12 x13 x14 x15 x16 t w e0 e1 e2 e3 e4 e5 e6 e7 e8
                  · exact rfields_3_p9 x1 x2 x3 x4 x5 x6 x7 x8 x9 x10 x11 x12 x13 x14 x15 x16 t w e0 e1 e2 e3 e4 e5 e6 e7 e8
end Go.Proofs.YtgjajhopjcdflaaGreat
namespace Go.Proofs.YtgjajhopjcdflaaGreat
open Go Go.RowKit Go.Lib Go.Shelf Go.Maps

/-- a fact with those fields alone that its kind has -/
def refG (f : FactV) : FactV := ⟨fun j => if j = 0 then f.n 0 else if j = 2 then f.n 2 else if j ∈ (fieldsF f).map (·.1) then f.n j else 0, if hasText f then f.text else ⟨#[]⟩⟩
theorem refG_keep (f : FactV) (j : Nat) (h : j = 0 ∨ j = 2 ∨ j ∈ (fieldsF f).map (·.1)) : (refG f).n j = f.n j := by
  show (if j = 0 then f.n 0 else if j = 2 then f.n 2 else if j ∈ (fieldsF f).map (·.1) then f.n j else 0) = f.n j
  by_cases h0 : j = 0
  · rw [if_pos h0, h0]
  · by_cases h2 : j = 2
    · rw [if_neg h0, if_pos h2, h2]
    · rw [if_neg h0, if_neg h2, if_pos ((h.resolve_left h0).resolve_left h2)]
theorem refG_drop (f : FactV) (j : Nat) (h : ¬ (j = 0 ∨ j = 2 ∨ j ∈ (fieldsF f).map (·.1))) : (refG f).n j = 0 := by
  rw [not_or, not_or] at h
  show (if j = 0 then f.n 0 else if j = 2 then f.n 2 else if j ∈ (fieldsF f).map (·.1) then f.n j else 0) = 0
  rw [if_neg h.1, if_neg h.2.1, if_neg h.2.2]
/-- are its fields as they must be? -/
def refT (f : FactV) : Bool :=
  if f.n 0 = 3 then inB (f.n 1) 1 1000000 && (inB (f.n 7) 1 1000000 && (inB (f.n 9) 1 1000000 && (inB (f.n 10) 1 2 && (inB (f.n 8) 1 255 && (decide (0 ≤ f.n 11) && (decide (f.n 11 < f.n 12) && (decide (f.n 12 ≤ 1200) && inB (f.n 14) 0 1000000)))))))
  else if f.n 0 = 4 then inB (f.n 9) 1 1000000 && (inB (f.n 11) 0 1199 && decide ((f.text.size : Int) ≤ 2000))
  else if f.n 0 = 9 then inB (f.n 11) 0 1199 && decide ((f.text.size : Int) ≤ 2000)
  else decide (1 ≤ f.n 0 ∧ f.n 0 ≤ 10) && (fieldsF f).all (fun x => inB (f.n x.1) x.2.1 x.2.2)
set_option maxRecDepth 100000 in
set_option maxHeartbeats 4000000 in
theorem rrest_0 (f g : FactV) (w : World) (h : f.n 0 < 6 ∨ 10 < f.n 0) :
    Calls Tryz.prog 103 #[.agg f.cells, .agg g.cells] w fun e w' => e = .returned (.tuple #[.agg g.cells, .bool false]) ∧ Below w.heap.size w w' := by
  have hrows := rows3 w f.cells g.cells #[.int .i64 0, .int .i64 0, .int .i64 0, .int .i64 0, .int .i64 0, .int .i64 0, .int .i64 0, .int .i64 0, .int .i64 0, .int .i64 0, .int .i64 0, .int .i64 0, .int .i64 0, .int .i64 0, .int .i64 0, .int .i64 0, .int .i64 0, .string ⟨#[]⟩] 34
  have HGI : Hid ((Tryz.prog.info? 34).map (·.size) = some g.cells.size ∧ g.cells.all (·.oneCell') = true ∧ z18c.size = g.cells.size) := Lib.hid ⟨fact_size, g.cells_one, rfl⟩
  have hrow2 := RowAt.new ((w.alloc (.cells f.cells 34)).alloc (.cells g.cells 34)) 34 g.cells
  have e2 : ((w.alloc (.cells f.cells 34)).alloc (.cells g.cells 34)).heap.size = w.heap.size + 2 := by simp
  rw [e2] at hrow2
  have HR2 := Lib.hid hrow2
  have HB2 : Hid (Below w.heap.size w (((w.alloc (.cells f.cells 34)).alloc (.cells g.cells 34)).alloc (.cells g.cells 34))) := Lib.hid ((((Below.refl _ _).alloc (Nat.le_refl _) _).alloc (by simp) _).alloc (by simp; omega) _)
  have c0 : (((w.alloc (.cells f.cells 34)).alloc (.cells g.cells 34)).alloc (.cells #[.int .i64 0, .int .i64 0, .int .i64 0, .int .i64 0, .int .i64 0, .int .i64 0, .int .i64 0, .int .i64 0, .int .i64 0, .int .i64 0, .int .i64 0, .int .i64 0, .int .i64 0, .int .i64 0, .int .i64 0, .int .i64 0, .int .i64 0, .string ⟨#[]⟩] 34)).cell? ⟨w.heap.size, 0, none⟩ = some (.int .i64 (f.n 0)) := by rw [hrows.1.cell, cells_get f 0 (by omega)]
  obtain ⟨x0, hx0⟩ : ∃ z, f.n 0 = z := ⟨_, rfl⟩
  rw [hx0] at c0 h
  obtain ⟨cf, hcf⟩ : ∃ z, f.cells = z := ⟨_, rfl⟩
  obtain ⟨cg, hcg⟩ : ∃ z, g.cells = z := ⟨_, rfl⟩
  rw [hcf, hcg] at c0 hrows HB2 HR2 ⊢
  rw [hcg] at HGI
  have HRW := Lib.hid hrows
  have HE2 : Hid (((w.alloc (.cells cf 34)).alloc (.cells cg 34)).heap.size = w.heap.size + 2) := Lib.hid (by simp)
  have h6 : (x0 == 6) = false := by simp; omega
  have h7 : (x0 == 7) = false := by simp; omega
  have h8 : (x0 == 8) = false := by simp; omega
  have h9 : (x0 == 9) = false := by simp; omega
  have h10 : (x0 == 10) = false := by simp; omega
  clear h hx0 hcf hcg hrows hrow2 e2
  go_enter Tryz.func103, Tryz.ntmps103
  go_wp2_with (first | ((with_reducible refine load_cs (o := ⟨some 150, _, _, _, _, _⟩) (.tmp 3) (w.heap.size + 1) cg (fun j v h => by rw [Nat.zero_add, HRW.out.2.1.cell]; exact h) HGI.out.1 ?_ ?_ ?_ ?_); rfl; rfl; rfl) | ((with_reducible refine store_cs (o := ⟨none, _, _, _, _, _⟩) (.tmp 4) (.tmp 150) (w.heap.size + 2) HE2.out _ cg HGI.out.1 HGI.out.2.1 HGI.out.2.2 ?_ ?_ ?_ ?_ ?_); rfl; rfl; rfl; rfl))
  exact bodyPost_ret (results_cell_tmp rfl _ _ (w.heap.size + 2) _ cg _ _ rfl HR2.out Tryz.underlying34 rfl HGI.out.1) rfl ⟨rfl, HB2.out⟩
set_option maxRecDepth 100000 in
set_option maxHeartbeats 4000000 in
theorem rfields_hi (f : FactV) (w : World) (h : f.n 0 < 1 ∨ 5 < f.n 0) (g G : FactV) (b : Bool) (hg : g.cells = #[.int .i64 (f.n 0), .int .i64 0, .int .i64 (f.n 2), .int .i64 0, .int .i64 0, .int .i64 0, .int .i64 0, .int .i64 0, .int .i64 0, .int .i64 0, .int .i64 0, .int .i64 0, .int .i64 0, .int .i64 0, .int .i64 0, .int .i64 0, .int .i64 0, .string ⟨#[]⟩])
    (HR : ∀ W : World, Calls Tryz.prog 103 #[.agg f.cells, .agg g.cells] W fun e w' => e = .returned (.tuple #[.agg G.cells, .bool b]) ∧ Below W.heap.size W w') :
    Calls Tryz.prog 58 #[.agg f.cells] w fun e w' => e = .returned (.tuple #[.agg G.cells, .bool b]) ∧ Below w.heap.size w w' := by
  have hrows := rows3 w f.cells #[.int .i64 0, .int .i64 0, .int .i64 0, .int .i64 0, .int .i64 0, .int .i64 0, .int .i64 0, .int .i64 0, .int .i64 0, .int .i64 0, .int .i64 0, .int .i64 0, .int .i64 0, .int .i64 0, .int .i64 0, .int .i64 0, .int .i64 0, .string ⟨#[]⟩] g.cells 34
  have hrow2 := rows3 w f.cells #[.int .i64 0, .int .i64 0, .int .i64 0, .int .i64 0, .int .i64 0, .int .i64 0, .int .i64 0, .int .i64 0, .int .i64 0, .int .i64 0, .int .i64 0, .int .i64 0, .int .i64 0, .int .i64 0, .int .i64 0, .int .i64 0, .int .i64 0, .string ⟨#[]⟩] #[.int .i64 0, .int .i64 0, .int .i64 0, .int .i64 0, .int .i64 0, .int .i64 0, .int .i64 0, .int .i64 0, .int .i64 0, .int .i64 0, .int .i64 0, .int .i64 0, .int .i64 0, .int .i64 0, .int .i64 0, .int .i64 0, .int .i64 0, .string ⟨#[]⟩] 34
  have HCI : Hid ((Tryz.prog.info? 34).map (·.size) = some f.cells.size) := Lib.hid fact_size
  have HGI : Hid ((Tryz.prog.info? 34).map (·.size) = some G.cells.size ∧ G.cells.all (·.oneCell') = true ∧ (#[.int .i64 0, .int .i64 0, .int .i64 0, .int .i64 0, .int .i64 0, .int .i64 0, .int .i64 0, .int .i64 0, .int .i64 0, .int .i64 0, .int .i64 0, .int .i64 0, .int .i64 0, .int .i64 0, .int .i64 0, .int .i64 0, .int .i64 0, .string ⟨#[]⟩] : Array Value).size = G.cells.size) := Lib.hid ⟨fact_size, G.cells_one, rfl⟩
  have d0 : ((w.alloc (.cells f.cells 34)).alloc (.cells #[.int .i64 0, .int .i64 0, .int .i64 0, .int .i64 0, .int .i64 0, .int .i64 0, .int .i64 0, .int .i64 0, .int .i64 0, .int .i64 0, .int .i64 0, .int .i64 0, .int .i64 0, .int .i64 0, .int .i64 0, .int .i64 0, .int .i64 0, .string ⟨#[]⟩] 34)).cell? ⟨w.heap.size, 0, none⟩ = some (.int .i64 (f.n 0)) := by rw [((RowAt.new w 34 f.cells).alloc _).cell, cells_get f 0 (by omega)]
  have d2 : ((w.alloc (.cells f.cells 34)).alloc (.cells #[.int .i64 0, .int .i64 0, .int .i64 0, .int .i64 0, .int .i64 0, .int .i64 0, .int .i64 0, .int .i64 0, .int .i64 0, .int .i64 0, .int .i64 0, .int .i64 0, .int .i64 0, .int .i64 0, .int .i64 0, .int .i64 0, .int .i64 0, .string ⟨#[]⟩] 34)).cell? ⟨w.heap.size, 2, none⟩ = some (.int .i64 (f.n 2)) := by rw [((RowAt.new w 34 f.cells).alloc _).cell, cells_get f 2 (by omega)]
  rw [hg] at hrows HR
  have c0 : (((w.alloc (.cells f.cells 34)).alloc (.cells #[.int .i64 0, .int .i64 0, .int .i64 0, .int .i64 0, .int .i64 0, .int .i64 0, .int .i64 0, .int .i64 0, .int .i64 0, .int .i64 0, .int .i64 0, .int .i64 0, .int .i64 0, .int .i64 0, .int .i64 0, .int .i64 0, .int .i64 0, .string ⟨#[]⟩] 34)).alloc (.cells #[.int .i64 (f.n 0), .int .i64 0, .int .i64 (f.n 2), .int .i64 0, .int .i64 0, .int .i64 0, .int .i64 0, .int .i64 0, .int .i64 0, .int .i64 0, .int .i64 0, .int .i64 0, .int .i64 0, .int .i64 0, .int .i64 0, .int .i64 0, .int .i64 0, .string ⟨#[]⟩] 34)).cell? ⟨w.heap.size, 0, none⟩ = some (.int .i64 (f.n 0)) := by rw [hrows.1.cell, cells_get f 0 (by omega)]
  obtain ⟨x0, hx0⟩ : ∃ z, f.n 0 = z := ⟨_, rfl⟩
  obtain ⟨x2, hx2⟩ : ∃ z, f.n 2 = z := ⟨_, rfl⟩
  rw [hx0, hx2] at c0 hrows HR
  rw [hx0] at d0 h
  rw [hx2] at d2
  obtain ⟨cf, hcf⟩ : ∃ z, f.cells = z := ⟨_, rfl⟩
  rw [hcf] at c0 d0 d2 hrows HR HCI ⊢
  have HRW := Lib.hid hrows
  have HRH := Lib.hid HR
  have h1 : (x0 == 1) = false := by simp; omega
  have h2 : (x0 == 2) = false := by simp; omega
  have h3 : (x0 == 3) = false := by simp; omega
  have h4 : (x0 == 4) = false := by simp; omega
  have h5 : (x0 == 5) = false := by simp; omega
  clear h hx0 hx2 hcf hrows hrow2 HR hg
  go_enter Tryz.func58, Tryz.ntmps58
  go_upto_region 7 with fail
  as_aux_lemma =>
    go_upto_region 10 with fail
    as_aux_lemma =>
      go_upto_region 14 with fail
      as_aux_lemma =>
        go_upto_region 17 with fail
        as_aux_lemma =>
          go_upto_region 20 with fail
          as_aux_lemma =>
            go_wp2_with (first | ((with_reducible refine load_cs (o := ⟨some 241, _, _, _, _, _⟩) (.tmp 1) w.heap.size cf (fun j v h => by rw [Nat.zero_add, HRW.out.1.cell]; exact h) HCI.out ?_ ?_ ?_ ?_); rfl; rfl; rfl))
            refine (HRH.out _).mono ?_
            rintro e W ⟨rfl, hb⟩
            have HZ : Hid (RowAt W (w.heap.size + 1) 34 #[.int .i64 0, .int .i64 0, .int .i64 0, .int .i64 0, .int .i64 0, .int .i64 0, .int .i64 0, .int .i64 0, .int .i64 0, .int .i64 0, .int .i64 0, .int .i64 0, .int .i64 0, .int .i64 0, .int .i64 0, .int .i64 0, .int .i64 0, .string ⟨#[]⟩] ∧ Below w.heap.size w W) := Lib.hid ⟨HRW.out.2.1.below hb HRW.out.2.1.lt, HRW.out.2.2.2.trans (hb.mono HRW.out.2.2.2.size)⟩
            clear hb c0 d0 d2
            go_wp2_with (first | ((with_reducible refine store_fact_row (o := ⟨none, _, _, _, _, _⟩) (.tmp 2) (.tmp 244) (w.heap.size + 1) G.cells _ HZ.out.1 HGI.out.1 HGI.out.2.2 HGI.out.2.1 ?_ ?_ ?_ ?_ ?_); rfl; rfl; rfl; rfl))
            have hrow : (W.setRow (w.heap.size + 1) G.cells).heap[w.heap.size + 1]? = some (.cells G.cells 34 (0, 0)) := setRow_at HZ.out.1
            exact bodyPost_ret (results_cell_tmp rfl _ _ (w.heap.size + 1) _ G.cells _ _ rfl hrow Tryz.underlying34 rfl fact_size) rfl ⟨rfl, below_setR HZ.out.2 (by omega)⟩
theorem cells_kind (f : FactV) (k : Int) (h : f.n 0 = k) : f.cells = #[.int .i64 k, .int .i64 (f.n 1), .int .i64 (f.n 2), .int .i64 (f.n 3), .int .i64 (f.n 4), .int .i64 (f.n 5), .int .i64 (f.n 6), .int .i64 (f.n 7), .int .i64 (f.n 8), .int .i64 (f.n 9), .int .i64 (f.n 10), .int .i64 (f.n 11), .int .i64 (f.n 12), .int .i64 (f.n 13), .int .i64 (f.n 14), .int .i64 (f.n 15), .int .i64 (f.n 16), .string f.text] := by
  rw [← h]; rfl
theorem refG_cells (f : FactV) : (refG f).cells = #[.int .i64 (f.n 0), .int .i64 (if 1 ∈ (fieldsF f).map (·.1) then f.n 1 else 0), .int .i64 (f.n 2), .int .i64 (if 3 ∈ (fieldsF f).map (·.1) then f.n 3 else 0), .int .i64 (if 4 ∈ (fieldsF f).map (·.1) then f.n 4 else 0), .int .i64 (if 5 ∈ (fieldsF f).map (·.1) then f.n 5 else 0), .int .i64 (if 6 ∈ (fieldsF f).map (·.1) then f.n 6 else 0), .int .i64 (if 7 ∈ (fieldsF f).map (·.1) then f.n 7 else 0), .int .i64 (if 8 ∈ (fieldsF f).map (·.1) then f.n 8 else 0), .int .i64 (if 9 ∈ (fieldsF f).map (·.1) then f.n 9 else 0), .int .i64 (if 10 ∈ (fieldsF f).map (·.1) then f.n 10 else 0), .int .i64 (if 11 ∈ (fieldsF f).map (·.1) then f.n 11 else 0), .int .i64 (if 12 ∈ (fieldsF f).map (·.1) then f.n 12 else 0), .int .i64 (if 13 ∈ (fieldsF f).map (·.1) then f.n 13 else 0), .int .i64 (if 14 ∈ (fieldsF f).map (·.1) then f.n 14 else 0), .int .i64 (if 15 ∈ (fieldsF f).map (·.1) then f.n 15 else 0), .int .i64 (if 16 ∈ (fieldsF f).map (·.1) then f.n 16 else 0), .string (if hasText f then f.text else ⟨#[]⟩)] := rfl
theorem fieldsk_1 {f : FactV} (h : f.n 0 = 1) : fieldsF f = f_play := by unfold fieldsF; simp [h]
theorem refG_1 {f : FactV} (h : f.n 0 = 1) : (refG f).cells = #[.int .i64 1, .int .i64 (f.n 1), .int .i64 (f.n 2), .int .i64 0, .int .i64 (f.n 4), .int .i64 (f.n 5), .int .i64 (f.n 6), .int .i64 (f.n 7), .int .i64 (f.n 8), .int .i64 0, .int .i64 0, .int .i64 0, .int .i64 0, .int .i64 (f.n 13), .int .i64 0, .int .i64 0, .int .i64 (f.n 16), .string ⟨#[]⟩] := by
  rw [refG_cells, fieldsk_1 h, h]
  simp [f_play, hasText, h]
theorem refT_1 {f : FactV} (h : f.n 0 = 1) : refT f = (inB (f.n 1) 1 1000000 && (inB (f.n 5) 1 1000000 && (inB (f.n 6) 1 1000000 && (inB (f.n 7) 1 1000000 && (inB (f.n 8) 0 7 && (inB (f.n 4) 0 3155759999 && (inB (f.n 13) 0 86400000 && (inB (f.n 16) 0 1)))))))) := by
  unfold refT
  rw [h]
  rw [if_neg (by decide), if_neg (by decide), if_neg (by decide), fieldsk_1 h, show decide ((1 : Int) ≤ 1 ∧ (1 : Int) ≤ 10) = true from by decide, Bool.true_and]
  simp only [f_play, List.all_cons, List.all_nil, Bool.and_true]
theorem fieldsk_2 {f : FactV} (h : f.n 0 = 2) : fieldsF f = f_mark := by unfold fieldsF; simp [h]
theorem refG_2 {f : FactV} (h : f.n 0 = 2) : (refG f).cells = #[.int .i64 2, .int .i64 (f.n 1), .int .i64 (f.n 2), .int .i64 0, .int .i64 0, .int .i64 0, .int .i64 (f.n 6), .int .i64 0, .int .i64 0, .int .i64 0, .int .i64 0, .int .i64 0, .int .i64 0, .int .i64 0, .int .i64 0, .int .i64 0, .int .i64 (f.n 16), .string ⟨#[]⟩] := by
  rw [refG_cells, fieldsk_2 h, h]
  simp [f_mark, hasText, h]
theorem refT_2 {f : FactV} (h : f.n 0 = 2) : refT f = (inB (f.n 6) 1 1000000 && (inB (f.n 1) 1 1000000 && (inB (f.n 16) 1 3))) := by
  unfold refT
  rw [h]
  rw [if_neg (by decide), if_neg (by decide), if_neg (by decide), fieldsk_2 h, show decide ((1 : Int) ≤ 2 ∧ (2 : Int) ≤ 10) = true from by decide, Bool.true_and]
  simp only [f_mark, List.all_cons, List.all_nil, Bool.and_true]
theorem fieldsk_3 {f : FactV} (h : f.n 0 = 3) : fieldsF f = (f_claim (IntKind.i64.wrap (f.n 12 - 1))) := by unfold fieldsF; simp [h]
theorem refG_3 {f : FactV} (h : f.n 0 = 3) : (refG f).cells = #[.int .i64 3, .int .i64 (f.n 1), .int .i64 (f.n 2), .int .i64 0, .int .i64 0, .int .i64 0, .int .i64 0, .int .i64 (f.n 7), .int .i64 (f.n 8), .int .i64 (f.n 9), .int .i64 (f.n 10), .int .i64 (f.n 11), .int .i64 (f.n 12), .int .i64 0, .int .i64 (f.n 14), .int .i64 0, .int .i64 0, .string ⟨#[]⟩] := by
  rw [refG_cells, fieldsk_3 h, h]
  simp [f_claim, hasText, h]
theorem refT_3 {f : FactV} (h : f.n 0 = 3) : refT f = (inB (f.n 1) 1 1000000 && (inB (f.n 7) 1 1000000 && (inB (f.n 9) 1 1000000 && (inB (f.n 10) 1 2 && (inB (f.n 8) 1 255 && (decide (0 ≤ f.n 11) && (decide (f.n 11 < f.n 12) && (decide (f.n 12 ≤ 1200) && inB (f.n 14) 0 1000000)))))))) := by
  unfold refT
  rw [h]
  rw [if_pos rfl]
theorem fieldsk_4 {f : FactV} (h : f.n 0 = 4) : fieldsF f = f_contract := by unfold fieldsF; simp [h]
theorem refG_4 {f : FactV} (h : f.n 0 = 4) : (refG f).cells = #[.int .i64 4, .int .i64 0, .int .i64 (f.n 2), .int .i64 0, .int .i64 0, .int .i64 0, .int .i64 0, .int .i64 0, .int .i64 0, .int .i64 (f.n 9), .int .i64 0, .int .i64 (f.n 11), .int .i64 0, .int .i64 0, .int .i64 0, .int .i64 0, .int .i64 0, .string f.text] := by
  rw [refG_cells, fieldsk_4 h, h]
  simp [f_contract, hasText, h]
theorem refT_4 {f : FactV} (h : f.n 0 = 4) : refT f = (inB (f.n 9) 1 1000000 && (inB (f.n 11) 0 1199 && decide ((f.text.size : Int) ≤ 2000))) := by
  unfold refT
  rw [h]
  rw [if_neg (by decide), if_pos rfl]
theorem fieldsk_5 {f : FactV} (h : f.n 0 = 5) : fieldsF f = f_revenue := by unfold fieldsF; simp [h]
theorem refG_5 {f : FactV} (h : f.n 0 = 5) : (refG f).cells = #[.int .i64 5, .int .i64 (f.n 1), .int .i64 (f.n 2), .int .i64 (f.n 3), .int .i64 0, .int .i64 0, .int .i64 0, .int .i64 0, .int .i64 (f.n 8), .int .i64 0, .int .i64 0, .int .i64 0, .int .i64 0, .int .i64 (f.n 13), .int .i64 0, .int .i64 (f.n 15), .int .i64 0, .string ⟨#[]⟩] := by
  rw [refG_cells, fieldsk_5 h, h]
  simp [f_revenue, hasText, h]
theorem refT_5 {f : FactV} (h : f.n 0 = 5) : refT f = (inB (f.n 1) 1 1000000 && (inB (f.n 3) 0 1199 && (inB (f.n 8) 0 7 && (inB (f.n 13) 0 10000000000 && (inB (f.n 15) 0 20))))) := by
  unfold refT
  rw [h]
  rw [if_neg (by decide), if_neg (by decide), if_neg (by decide), fieldsk_5 h, show decide ((1 : Int) ≤ 5 ∧ (5 : Int) ≤ 10) = true from by decide, Bool.true_and]
  simp only [f_revenue, List.all_cons, List.all_nil, Bool.and_true]
theorem fieldsk_6 {f : FactV} (h : f.n 0 = 6) : fieldsF f = f_subscription := by unfold fieldsF; simp [h]
theorem refG_6 {f : FactV} (h : f.n 0 = 6) : (refG f).cells = #[.int .i64 6, .int .i64 0, .int .i64 (f.n 2), .int .i64 (f.n 3), .int .i64 0, .int .i64 (f.n 5), .int .i64 0, .int .i64 0, .int .i64 (f.n 8), .int .i64 0, .int .i64 0, .int .i64 0, .int .i64 0, .int .i64 (f.n 13), .int .i64 0, .int .i64 (f.n 15), .int .i64 0, .string ⟨#[]⟩] := by
  rw [refG_cells, fieldsk_6 h, h]
  simp [f_subscription, hasText, h]
theorem refT_6 {f : FactV} (h : f.n 0 = 6) : refT f = (inB (f.n 5) 1 1000000 && (inB (f.n 3) 0 1199 && (inB (f.n 8) 0 7 && (inB (f.n 13) 0 1000000000 && (inB (f.n 15) 0 20))))) := by
  unfold refT
  rw [h]
  rw [if_neg (by decide), if_neg (by decide), if_neg (by decide), fieldsk_6 h, show decide ((1 : Int) ≤ 6 ∧ (6 : Int) ≤ 10) = true from by decide, Bool.true_and]
  simp only [f_subscription, List.all_cons, List.all_nil, Bool.and_true]
theorem fieldsk_7 {f : FactV} (h : f.n 0 = 7) : fieldsF f = f_rate := by unfold fieldsF; simp [h]
theorem refG_7 {f : FactV} (h : f.n 0 = 7) : (refG f).cells = #[.int .i64 7, .int .i64 0, .int .i64 (f.n 2), .int .i64 (f.n 3), .int .i64 0, .int .i64 0, .int .i64 0, .int .i64 0, .int .i64 0, .int .i64 0, .int .i64 0, .int .i64 0, .int .i64 0, .int .i64 (f.n 13), .int .i64 0, .int .i64 (f.n 15), .int .i64 0, .string ⟨#[]⟩] := by
  rw [refG_cells, fieldsk_7 h, h]
  simp [f_rate, hasText, h]
theorem refT_7 {f : FactV} (h : f.n 0 = 7) : refT f = (inB (f.n 15) 1 20 && (inB (f.n 3) 0 1199 && (inB (f.n 13) 1 10000000))) := by
  unfold refT
  rw [h]
  rw [if_neg (by decide), if_neg (by decide), if_neg (by decide), fieldsk_7 h, show decide ((1 : Int) ≤ 7 ∧ (7 : Int) ≤ 10) = true from by decide, Bool.true_and]
  simp only [f_rate, List.all_cons, List.all_nil, Bool.and_true]
theorem fieldsk_8 {f : FactV} (h : f.n 0 = 8) : fieldsF f = f_advance := by unfold fieldsF; simp [h]
theorem refG_8 {f : FactV} (h : f.n 0 = 8) : (refG f).cells = #[.int .i64 8, .int .i64 (f.n 1), .int .i64 (f.n 2), .int .i64 (f.n 3), .int .i64 0, .int .i64 (f.n 5), .int .i64 0, .int .i64 0, .int .i64 0, .int .i64 0, .int .i64 0, .int .i64 0, .int .i64 0, .int .i64 (f.n 13), .int .i64 0, .int .i64 0, .int .i64 0, .string ⟨#[]⟩] := by
  rw [refG_cells, fieldsk_8 h, h]
  simp [f_advance, hasText, h]
theorem refT_8 {f : FactV} (h : f.n 0 = 8) : refT f = (inB (f.n 1) 1 1000000 && (inB (f.n 5) 1 1000 && (inB (f.n 3) 0 1199 && (inB (f.n 13) 0 100000000000)))) := by
  unfold refT
  rw [h]
  rw [if_neg (by decide), if_neg (by decide), if_neg (by decide), fieldsk_8 h, show decide ((1 : Int) ≤ 8 ∧ (8 : Int) ≤ 10) = true from by decide, Bool.true_and]
  simp only [f_advance, List.all_cons, List.all_nil, Bool.and_true]
theorem fieldsk_9 {f : FactV} (h : f.n 0 = 9) : fieldsF f = f_rules := by unfold fieldsF; simp [h]
theorem refG_9 {f : FactV} (h : f.n 0 = 9) : (refG f).cells = #[.int .i64 9, .int .i64 0, .int .i64 (f.n 2), .int .i64 0, .int .i64 0, .int .i64 0, .int .i64 0, .int .i64 0, .int .i64 0, .int .i64 0, .int .i64 0, .int .i64 (f.n 11), .int .i64 0, .int .i64 0, .int .i64 0, .int .i64 0, .int .i64 0, .string f.text] := by
  rw [refG_cells, fieldsk_9 h, h]
  simp [f_rules, hasText, h]
theorem refT_9 {f : FactV} (h : f.n 0 = 9) : refT f = (inB (f.n 11) 0 1199 && decide ((f.text.size : Int) ≤ 2000)) := by
  unfold refT
  rw [h]
  rw [if_neg (by decide), if_neg (by decide), if_pos rfl]
theorem fieldsk_10 {f : FactV} (h : f.n 0 = 10) : fieldsF f = f_method := by unfold fieldsF; simp [h]
theorem refG_10 {f : FactV} (h : f.n 0 = 10) : (refG f).cells = #[.int .i64 10, .int .i64 0, .int .i64 (f.n 2), .int .i64 0, .int .i64 0, .int .i64 0, .int .i64 0, .int .i64 0, .int .i64 (f.n 8), .int .i64 0, .int .i64 0, .int .i64 (f.n 11), .int .i64 0, .int .i64 0, .int .i64 0, .int .i64 0, .int .i64 (f.n 16), .string ⟨#[]⟩] := by
  rw [refG_cells, fieldsk_10 h, h]
  simp [f_method, hasText, h]
theorem refT_10 {f : FactV} (h : f.n 0 = 10) : refT f = (inB (f.n 8) 0 7 && (inB (f.n 11) 0 1199 && (inB (f.n 16) 1 2))) := by
  unfold refT
  rw [h]
  rw [if_neg (by decide), if_neg (by decide), if_neg (by decide), fieldsk_10 h, show decide ((1 : Int) ≤ 10 ∧ (10 : Int) ≤ 10) = true from by decide, Bool.true_and]
  simp only [f_method, List.all_cons, List.all_nil, Bool.and_true]
set_option maxRecDepth 100000 in
set_option maxHeartbeats 4000000 in
theorem rfields_any (f : FactV) (w : World) :
    Calls Tryz.prog 58 #[.agg f.cells] w fun e w' => e = .returned (.tuple #[.agg (refG f).cells, .bool (refT f)]) ∧ Below w.heap.size w w' := by
  by_cases hlo : f.n 0 < 1 ∨ 10 < f.n 0
  · have hg : (refG f).cells = #[.int .i64 (f.n 0), .int .i64 0, .int .i64 (f.n 2), .int .i64 0, .int .i64 0, .int .i64 0, .int .i64 0, .int .i64 0, .int .i64 0, .int .i64 0, .int .i64 0, .int .i64 0, .int .i64 0, .int .i64 0, .int .i64 0, .int .i64 0, .int .i64 0, .string ⟨#[]⟩] := by
      have e : fieldsF f = [] := by unfold fieldsF; rw [if_neg (by omega), if_neg (by omega), if_neg (by omega), if_neg (by omega), if_neg (by omega), if_neg (by omega), if_neg (by omega), if_neg (by omega), if_neg (by omega), if_neg (by omega)]
      have e2 : hasText f = false := by unfold hasText; simp; omega
      rw [refG_cells, e, e2]
      simp
    have ht : refT f = false := by
      unfold refT
      rw [if_neg (by omega), if_neg (by omega), if_neg (by omega)]
      have : ¬ (1 ≤ f.n 0 ∧ f.n 0 ≤ 10) := by omega
      simp [this]
    rw [ht]
    exact rfields_hi f w (by omega) (refG f) (refG f) false hg (fun W => rrest_0 f (refG f) W (by omega))
  · rcases (by omega : f.n 0 = 1 ∨ f.n 0 = 2 ∨ f.n 0 = 3 ∨ f.n 0 = 4 ∨ f.n 0 = 5 ∨ f.n 0 = 6 ∨ f.n 0 = 7 ∨ f.n 0 = 8 ∨ f.n 0 = 9 ∨ f.n 0 = 10) with h | h | h | h | h | h | h | h | h | h
    · rw [cells_kind f 1 h, refG_1 h, refT_1 h]; exact rfields_1 (f.n 1) (f.n 2) (f.n 3) (f.n 4) (f.n 5) (f.n 6) (f.n 7) (f.n 8) (f.n 9) (f.n 10) (f.n 11) (f.n 12) (f.n 13) (f.n 14) (f.n 15) (f.n 16) f.text w
    · rw [cells_kind f 2 h, refG_2 h, refT_2 h]; exact rfields_2 (f.n 1) (f.n 2) (f.n 3) (f.n 4) (f.n 5) (f.n 6) (f.n 7) (f.n 8) (f.n 9) (f.n 10) (f.n 11) (f.n 12) (f.n 13) (f.n 14) (f.n 15) (f.n 16) f.text w
    · rw [cells_kind f 3 h, refG_3 h, refT_3 h]; exact rfields_3 (f.n 1) (f.n 2) (f.n 3) (f.n 4) (f.n 5) (f.n 6) (f.n 7) (f.n 8) (f.n 9) (f.n 10) (f.n 11) (f.n 12) (f.n 13) (f.n 14) (f.n 15) (f.n 16) f.text w
    · rw [cells_kind f 4 h, refG_4 h, refT_4 h]; exact rfields_4 (f.n 1) (f.n 2) (f.n 3) (f.n 4) (f.n 5) (f.n 6) (f.n 7) (f.n 8) (f.n 9) (f.n 10) (f.n 11) (f.n 12) (f.n 13) (f.n 14) (f.n 15) (f.n 16) f.text w
    · rw [cells_kind f 5 h, refG_5 h, refT_5 h]; exact rfields_5 (f.n 1) (f.n 2) (f.n 3) (f.n 4) (f.n 5) (f.n 6) (f.n 7) (f.n 8) (f.n 9) (f.n 10) (f.n 11) (f.n 12) (f.n 13) (f.n 14) (f.n 15) (f.n 16) f.text w
    · rw [refT_6 h]; exact rfields_hi f w (by omega) (bareK (f.n 0) (f.n 2)) (refG f) _ rfl (fun W => by rw [refG_6 h, cells_kind f 6 h, show (bareK (f.n 0) (f.n 2)).cells = #[.int .i64 (f.n 0), .int .i64 0, .int .i64 (f.n 2), .int .i64 0, .int .i64 0, .int .i64 0, .int .i64 0, .int .i64 0, .int .i64 0, .int .i64 0, .int .i64 0, .int .i64 0, .int .i64 0, .int .i64 0, .int .i64 0, .int .i64 0, .int .i64 0, .string ⟨#[]⟩] from rfl, h]; exact rrest_6 (f.n 1) (f.n 2) (f.n 3) (f.n 4) (f.n 5) (f.n 6) (f.n 7) (f.n 8) (f.n 9) (f.n 10) (f.n 11) (f.n 12) (f.n 13) (f.n 14) (f.n 15) (f.n 16) f.text W)
    · rw [refT_7 h]; exact rfields_hi f w (by omega) (bareK (f.n 0) (f.n 2)) (refG f) _ rfl (fun W => by rw [refG_7 h, cells_kind f 7 h, show (bareK (f.n 0) (f.n 2)).cells = #[.int .i64 (f.n 0), .int .i64 0, .int .i64 (f.n 2), .int .i64 0, .int .i64 0, .int .i64 0, .int .i64 0, .int .i64 0, .int .i64 0, .int .i64 0, .int .i64 0, .int .i64 0, .int .i64 0, .int .i64 0, .int .i64 0, .int .i64 0, .int .i64 0, .string ⟨#[]⟩] from rfl, h]; exact rrest_7 (f.n 1) (f.n 2) (f.n 3) (f.n 4) (f.n 5) (f.n 6) (f.n 7) (f.n 8) (f.n 9) (f.n 10) (f.n 11) (f.n 12) (f.n 13) (f.n 14) (f.n 15) (f.n 16) f.text W)
    · rw [refT_8 h]; exact rfields_hi f w (by omega) (bareK (f.n 0) (f.n 2)) (refG f) _ rfl (fun W => by rw [refG_8 h, cells_kind f 8 h, show (bareK (f.n 0) (f.n 2)).cells = #[.int .i64 (f.n 0), .int .i64 0, .int .i64 (f.n 2), .int .i64 0, .int .i64 0, .int .i64 0, .int .i64 0, .int .i64 0, .int .i64 0, .int .i64 0, .int .i64 0, .int .i64 0, .int .i64 0, .int .i64 0, .int .i64 0, .int .i64 0, .int .i64 0, .string ⟨#[]⟩] from rfl, h]; exact rrest_8 (f.n 1) (f.n 2) (f.n 3) (f.n 4) (f.n 5) (f.n 6) (f.n 7) (f.n 8) (f.n 9) (f.n 10) (f.n 11) (f.n 12) (f.n 13) (f.n 14) (f.n 15) (f.n 16) f.text W)
    · rw [refT_9 h]; exact rfields_hi f w (by omega) (bareK (f.n 0) (f.n 2)) (refG f) _ rfl (fun W => by rw [refG_9 h, cells_kind f 9 h, show (bareK (f.n 0) (f.n 2)).cells = #[.int .i64 (f.n 0), .int .i64 0, .int .i64 (f.n 2), .int .i64 0, .int .i64 0, .int .i64 0, .int .i64 0, .int .i64 0, .int .i64 0, .int .i64 0, .int .i64 0, .int .i64 0, .int .i64 0, .int .i64 0, .int .i64 0, .int .i64 0, .int .i64 0, .string ⟨#[]⟩] from rfl, h]; exact rrest_9 (f.n 1) (f.n 2) (f.n 3) (f.n 4) (f.n 5) (f.n 6) (f.n 7) (f.n 8) (f.n 9) (f.n 10) (f.n 11) (f.n 12) (f.n 13) (f.n 14) (f.n 15) (f.n 16) f.text W)
    · rw [refT_10 h]; exact rfields_hi f w (by omega) (bareK (f.n 0) (f.n 2)) (refG f) _ rfl (fun W => by rw [refG_10 h, cells_kind f 10 h, show (bareK (f.n 0) (f.n 2)).cells = #[.int .i64 (f.n 0), .int .i64 0, .int .i64 (f.n 2), .int .i64 0, .int .i64 0, .int .i64 0, .int .i64 0, .int .i64 0, .int .i64 0, .int .i64 0, .int .i64 0, .int .i64 0, .int .i64 0, .int .i64 0, .int .i64 0, .int .i64 0, .int .i64 0, .string ⟨#[]⟩] from rfl, h]; exact rrest_10 (f.n 1) (f.n 2) (f.n 3) (f.n 4) (f.n 5) (f.n 6) (f.n 7) (f.n 8) (f.n 9) (f.n 10) (f.n 11) (f.n 12) (f.n 13) (f.n 14) (f.n 15) (f.n 16) f.text W)
theorem inB_iff {n a b : Int} : inB n a b = true ↔ a ≤ n ∧ n ≤ b := by unfold inB; simp
set_option linter.unusedSimpArgs false in
/-- the reference's Valid is Valid -/
theorem valid_ref (f : FactV) (hok : FactOk f) : (refT f && (sameF (refG f) f && inB (f.n 2) 1 1000)) = validB f := by
  have hz : sameF (refG f) f = true ↔ (∀ j, j < 17 → ¬ (j = 0 ∨ j = 2 ∨ j ∈ (fieldsF f).map (·.1)) → f.n j = 0) ∧ (hasText f = false → f.text = ⟨#[]⟩) := by
    rw [sameF_iff]
    constructor
    · rintro ⟨h1, h2⟩
      refine ⟨fun j hj hn => ?_, fun ht => ?_⟩
      · have := h1 j hj
        rw [refG_drop f j hn] at this
        exact this.symm
      · unfold refG at h2
        simp only [ht, Bool.false_eq_true, if_false] at h2
        exact h2.symm
    · rintro ⟨h1, h2⟩
      refine ⟨fun j hj => ?_, ?_⟩
      · by_cases hn : j = 0 ∨ j = 2 ∨ j ∈ (fieldsF f).map (·.1)
        · exact refG_keep f j hn
        · rw [refG_drop f j hn]; exact (h1 j hj hn).symm
      · unfold refG
        cases ht : hasText f
        · simp only [Bool.false_eq_true, if_false]; exact (h2 ht).symm
        · simp only [if_true]
  have hv : validB f = true ↔ (1 ≤ f.n 0 ∧ f.n 0 ≤ 10) ∧ (1 ≤ f.n 2 ∧ f.n 2 ≤ 1000 ∧ f.text.size ≤ 2000) ∧ (∀ x ∈ fieldsF f, x.2.1 ≤ f.n x.1 ∧ f.n x.1 ≤ x.2.2) ∧ sameF (refG f) f = true := by
    constructor
    · intro h
      obtain ⟨h1, h2, h3, h4⟩ := valid_parts h
      refine ⟨h1, h2, h3, hz.2 ⟨fun j hj hn => ?_, fun ht => ?_⟩⟩
      · rw [not_or, not_or] at hn
        have := h4 j hj
        rw [zeroF_get _ _ _ _ hn.2.2] at this
        rw [this]
        show (if j = 0 then f.n 0 else if j = 2 then f.n 2 else (0 : Int)) = 0
        rw [if_neg hn.1, if_neg hn.2.1]
      · unfold validB at h
        simp only [Bool.and_eq_true] at h
        have h5 := (sameF_iff.1 h.2.2.2).2
        unfold zeroF bareK at h5
        simp only [ht, Bool.false_eq_true, if_false] at h5
        exact h5
    · rintro ⟨h1, h2, h3, h4⟩
      obtain ⟨h5, h6⟩ := hz.1 h4
      unfold validB
      simp only [Bool.and_eq_true, decide_eq_true_eq]
      refine ⟨h1, h2, List.all_eq_true.2 (fun x hx => by simpa using h3 x hx), sameF_iff.2 ⟨fun j hj => ?_, ?_⟩⟩
      · have hk := fields_apart f
        show (if j ∈ (fieldsF f).map (·.1) then (0 : Int) else f.n j) = if j = 0 then f.n 0 else if j = 2 then f.n 2 else 0
        have n0 : 0 ∉ (fieldsF f).map (·.1) ∧ 2 ∉ (fieldsF f).map (·.1) := by
          rcases (by omega : f.n 0 = 1 ∨ f.n 0 = 2 ∨ f.n 0 = 3 ∨ f.n 0 = 4 ∨ f.n 0 = 5 ∨ f.n 0 = 6 ∨ f.n 0 = 7 ∨ f.n 0 = 8 ∨ f.n 0 = 9 ∨ f.n 0 = 10) with h | h | h | h | h | h | h | h | h | h
          · rw [fieldsk_1 h]; constructor <;> simp [f_play]
          · rw [fieldsk_2 h]; constructor <;> simp [f_mark]
          · rw [fieldsk_3 h]; constructor <;> simp [f_claim]
          · rw [fieldsk_4 h]; constructor <;> simp [f_contract]
          · rw [fieldsk_5 h]; constructor <;> simp [f_revenue]
          · rw [fieldsk_6 h]; constructor <;> simp [f_subscription]
          · rw [fieldsk_7 h]; constructor <;> simp [f_rate]
          · rw [fieldsk_8 h]; constructor <;> simp [f_advance]
          · rw [fieldsk_9 h]; constructor <;> simp [f_rules]
          · rw [fieldsk_10 h]; constructor <;> simp [f_method]
        by_cases h00 : j = 0
        · subst h00; rw [if_neg n0.1, if_pos rfl]
        · by_cases h22 : j = 2
          · subst h22; rw [if_neg n0.2, if_neg h00, if_pos rfl]
          · rw [if_neg h00, if_neg h22]
            by_cases hm : j ∈ (fieldsF f).map (·.1)
            · rw [if_pos hm]
            · rw [if_neg hm]; exact h5 j hj (by rw [not_or, not_or]; exact ⟨h00, h22, hm⟩)
      · show (if hasText f = true then (⟨#[]⟩ : ByteArray) else f.text) = ⟨#[]⟩
        cases ht : hasText f
        · simp only [Bool.false_eq_true, if_false]; exact h6 ht
        · simp only [if_true]
  rw [Bool.eq_iff_iff, hv, Bool.and_eq_true, Bool.and_eq_true, inB_iff]
  by_cases hlo : f.n 0 < 1 ∨ 10 < f.n 0
  · have ht : refT f = false := by
      unfold refT
      rw [if_neg (by omega), if_neg (by omega), if_neg (by omega)]
      have : ¬ (1 ≤ f.n 0 ∧ f.n 0 ≤ 10) := by omega
      simp [this]
    rw [ht]
    constructor
    · rintro ⟨h, _⟩; cases h
    · rintro ⟨h, _⟩; omega
  · have hsz : hasText f = false → sameF (refG f) f = true → f.text.size ≤ 2000 := fun h1 h2 => by rw [(hz.1 h2).2 h1]; exact Nat.zero_le _
    rcases (by omega : f.n 0 = 1 ∨ f.n 0 = 2 ∨ f.n 0 = 3 ∨ f.n 0 = 4 ∨ f.n 0 = 5 ∨ f.n 0 = 6 ∨ f.n 0 = 7 ∨ f.n 0 = 8 ∨ f.n 0 = 9 ∨ f.n 0 = 10) with h | h | h | h | h | h | h | h | h | h
    · have hx : hasText f = false := by unfold hasText; rw [h]; rfl
      have h12 := hok 12
      rw [refT_1 h, fieldsk_1 h, h]
      simp only [f_play, Bool.and_eq_true, inB_iff, decide_eq_true_eq, List.mem_cons, List.not_mem_nil, or_false, forall_eq_or_imp, forall_eq]
      constructor
      · rintro ⟨h1, h2, h3⟩
        have hs := hsz hx h2
        refine ⟨by omega, by omega, by omega, h2⟩
      · rintro ⟨h1, h2, h3, h4⟩; refine ⟨by omega, h4, by omega⟩
    · have hx : hasText f = false := by unfold hasText; rw [h]; rfl
      have h12 := hok 12
      rw [refT_2 h, fieldsk_2 h, h]
      simp only [f_mark, Bool.and_eq_true, inB_iff, decide_eq_true_eq, List.mem_cons, List.not_mem_nil, or_false, forall_eq_or_imp, forall_eq]
      constructor
      · rintro ⟨h1, h2, h3⟩
        have hs := hsz hx h2
        refine ⟨by omega, by omega, by omega, h2⟩
      · rintro ⟨h1, h2, h3, h4⟩; refine ⟨by omega, h4, by omega⟩
    · have hx : hasText f = false := by unfold hasText; rw [h]; rfl
      have h12 := hok 12
      rw [refT_3 h, fieldsk_3 h, h]
      simp only [f_claim, Bool.and_eq_true, inB_iff, decide_eq_true_eq, List.mem_cons, List.not_mem_nil, or_false, forall_eq_or_imp, forall_eq]
      have hwrap : (f.n 12 = -9223372036854775808 ∧ IntKind.i64.wrap (f.n 12 - 1) = 9223372036854775807) ∨ IntKind.i64.wrap (f.n 12 - 1) = f.n 12 - 1 := by
        by_cases hm : f.n 12 = -9223372036854775808
        · exact .inl ⟨hm, by rw [hm]; rfl⟩
        · exact .inr (IntWalk.i64_in _ (by omega))
      constructor
      · rintro ⟨h1, h2, h3⟩
        have hs := hsz hx h2
        refine ⟨by omega, by omega, by omega, h2⟩
      · rintro ⟨h1, h2, h3, h4⟩; refine ⟨by omega, h4, by omega⟩
    · have hx : hasText f = true := by unfold hasText; rw [h]; rfl
      have h12 := hok 12
      rw [refT_4 h, fieldsk_4 h, h]
      simp only [f_contract, Bool.and_eq_true, inB_iff, decide_eq_true_eq, List.mem_cons, List.not_mem_nil, or_false, forall_eq_or_imp, forall_eq]
      constructor
      · rintro ⟨h1, h2, h3⟩; refine ⟨by omega, by omega, by omega, h2⟩
      · rintro ⟨h1, h2, h3, h4⟩; refine ⟨by omega, h4, by omega⟩
    · have hx : hasText f = false := by unfold hasText; rw [h]; rfl
      have h12 := hok 12
      rw [refT_5 h, fieldsk_5 h, h]
      simp only [f_revenue, Bool.and_eq_true, inB_iff, decide_eq_true_eq, List.mem_cons, List.not_mem_nil, or_false, forall_eq_or_imp, forall_eq]
      constructor
      · rintro ⟨h1, h2, h3⟩
        have hs := hsz hx h2
        refine ⟨by omega, by omega, by omega, h2⟩
      · rintro ⟨h1, h2, h3, h4⟩; refine ⟨by omega, h4, by omega⟩
    · have hx : hasText f = false := by unfold hasText; rw [h]; rfl
      have h12 := hok 12
      rw [refT_6 h, fieldsk_6 h, h]
      simp only [f_subscription, Bool.and_eq_true, inB_iff, decide_eq_true_eq, List.mem_cons, List.not_mem_nil, or_false, forall_eq_or_imp, forall_eq]
      constructor
      · rintro ⟨h1, h2, h3⟩
        have hs := hsz hx h2
        refine ⟨by omega, by omega, by omega, h2⟩
      · rintro ⟨h1, h2, h3, h4⟩; refine ⟨by omega, h4, by omega⟩
    · have hx : hasText f = false := by unfold hasText; rw [h]; rfl
      have h12 := hok 12
      rw [refT_7 h, fieldsk_7 h, h]
      simp only [f_rate, Bool.and_eq_true, inB_iff, decide_eq_true_eq, List.mem_cons, List.not_mem_nil, or_false, forall_eq_or_imp, forall_eq]
      constructor
      · rintro ⟨h1, h2, h3⟩
        have hs := hsz hx h2
        refine ⟨by omega, by omega, by omega, h2⟩
      · rintro ⟨h1, h2, h3, h4⟩; refine ⟨by omega, h4, by omega⟩
    · have hx : hasText f = false := by unfold hasText; rw [h]; rfl
      have h12 := hok 12
      rw [refT_8 h, fieldsk_8 h, h]
      simp only [f_advance, Bool.and_eq_true, inB_iff, decide_eq_true_eq, List.mem_cons, List.not_mem_nil, or_false, forall_eq_or_imp, forall_eq]
      constructor
      · rintro ⟨h1, h2, h3⟩
        have hs := hsz hx h2
        refine ⟨by omega, by omega, by omega, h2⟩
      · rintro ⟨h1, h2, h3, h4⟩; refine ⟨by omega, h4, by omega⟩
    · have hx : hasText f = true := by unfold hasText; rw [h]; rfl
      have h12 := hok 12
      rw [refT_9 h, fieldsk_9 h, h]
      simp only [f_rules, Bool.and_eq_true, inB_iff, decide_eq_true_eq, List.mem_cons, List.not_mem_nil, or_false, forall_eq_or_imp, forall_eq]
      constructor
      · rintro ⟨h1, h2, h3⟩; refine ⟨by omega, by omega, by omega, h2⟩
      · rintro ⟨h1, h2, h3, h4⟩; refine ⟨by omega, h4, by omega⟩
    · have hx : hasText f = false := by unfold hasText; rw [h]; rfl
      have h12 := hok 12
      rw [refT_10 h, fieldsk_10 h, h]
      simp only [f_method, Bool.and_eq_true, inB_iff, decide_eq_true_eq, List.mem_cons, List.not_mem_nil, or_false, forall_eq_or_imp, forall_eq]
      constructor
      · rintro ⟨h1, h2, h3⟩
        have hs := hsz hx h2
        refine ⟨by omega, by omega, by omega, h2⟩
      · rintro ⟨h1, h2, h3, h4⟩; refine ⟨by omega, h4, by omega⟩
set_option maxRecDepth 100000 in
set_option maxHeartbeats 4000000 in
theorem rvalid_any (f : FactV) (w : World) (hok : FactOk f) :
    Calls Tryz.prog 36 #[.agg f.cells] w fun e w' => e = .returned (.bool (validB f)) ∧ Below w.heap.size w w' := by
  have HV := Lib.hid (valid_ref f hok)
  have HF := Lib.hid (fun W => rfields_any f W)
  have HQ := Lib.hid (fun W => eq_facts (refG f) f W)
  have HCI : Hid ((Tryz.prog.info? 34).map (·.size) = some f.cells.size) := Lib.hid fact_size
  obtain ⟨g, hg⟩ : ∃ z, refG f = z := ⟨_, rfl⟩
  rw [hg] at HV
  simp only [hg] at HF HQ
  have HGI : Hid ((Tryz.prog.info? 34).map (·.size) = some g.cells.size ∧ g.cells.all (·.oneCell') = true ∧ z18c.size = g.cells.size) := Lib.hid ⟨fact_size, g.cells_one, rfl⟩
  have HW := Lib.hid (fun W => rwithin_any (f.n 2) 1 1000 W)
  have hc2 : f.cells[2]? = some (.int .i64 (f.n 2)) := rfl
  obtain ⟨b0, hb0⟩ : ∃ z, refT f = z := ⟨_, rfl⟩
  obtain ⟨b1, hb1⟩ : ∃ z, sameF g f = z := ⟨_, rfl⟩
  obtain ⟨b2, hb2⟩ : ∃ z, inB (f.n 2) 1 1000 = z := ⟨_, rfl⟩
  rw [hb0, hb1, hb2] at HV
  simp only [hb0] at HF
  simp only [hb1] at HQ
  simp only [hb2] at HW
  obtain ⟨x2, hx2⟩ : ∃ z, f.n 2 = z := ⟨_, rfl⟩
  rw [hx2] at hc2
  simp only [hx2] at HW
  obtain ⟨cf, hcf⟩ : ∃ z, f.cells = z := ⟨_, rfl⟩
  rw [hcf] at hc2 HCI ⊢
  simp only [hcf] at HF HQ
  obtain ⟨cg, hcg⟩ : ∃ z, g.cells = z := ⟨_, rfl⟩
  simp only [hcg] at HF HQ HGI
  have HC2 := Lib.hid hc2
  have HR0 := Lib.hid (RowAt.new w 34 cf)
  clear hok hg hb0 hb1 hb2 hx2 hcf hcg hc2
  go_enter Tryz.func36, Tryz.ntmps36
  go_wp2_with (first | ((with_reducible refine load_cs (o := ⟨some 6, _, _, _, _, _⟩) (.tmp 1) w.heap.size cf (fun j v h => by rw [Nat.zero_add, HR0.out.cell]; exact h) HCI.out ?_ ?_ ?_ ?_); rfl; rfl; rfl))
  refine (HF.out _).mono ?_
  rintro e W1 ⟨rfl, hb⟩
  have H1 : Hid (RowAt W1 w.heap.size 34 cf ∧ Below w.heap.size w W1) := Lib.hid ⟨HR0.out.below hb HR0.out.lt, ((Below.refl w.heap.size w).alloc (Nat.le_refl _) _).trans (hb.mono (by simp))⟩
  have H2 : Hid (RowAt (W1.alloc (.cells cg 34)) w.heap.size 34 cf ∧ RowAt (W1.alloc (.cells cg 34)) W1.heap.size 34 cg ∧ Below w.heap.size w (W1.alloc (.cells cg 34))) := Lib.hid ⟨H1.out.1.alloc _, RowAt.new _ _ _, H1.out.2.alloc H1.out.2.size _⟩
  have hc : (W1.alloc (.cells cg 34)).cell? ⟨w.heap.size, 2, none⟩ = some (.int .i64 x2) := by rw [H2.out.1.cell]; exact HC2.out
  have hq := HQ.out
  clear hb
  cases b0
  · go_wp2_with (first | ((with_reducible refine store_cs (o := ⟨none, _, _, _, _, _⟩) (.tmp 3) (.tmp 8) W1.heap.size rfl _ cg HGI.out.1 HGI.out.2.1 HGI.out.2.2 ?_ ?_ ?_ ?_ ?_); rfl; rfl; rfl; rfl))
    go_ret
    exact ⟨by rw [← HV.out]; rfl, H2.out.2.2⟩
  · cases b1
    · go_wp2_with (first | ((with_reducible refine store_cs (o := ⟨none, _, _, _, _, _⟩) (.tmp 3) (.tmp 8) W1.heap.size rfl _ cg HGI.out.1 HGI.out.2.1 HGI.out.2.2 ?_ ?_ ?_ ?_ ?_); rfl; rfl; rfl; rfl) | ((with_reducible refine load_csg (o := ⟨some 12, _, _, _, _, _⟩) (.tmp 3) W1.heap.size cg (fun j v h => by rw [Nat.zero_add, H2.out.2.1.cell]; exact h) HGI.out.1 ?_ ?_ ?_ ?_); rfl; rfl; rfl) | ((with_reducible refine load_csg (o := ⟨some 13, _, _, _, _, _⟩) (.tmp 1) w.heap.size cf (fun j v h => by rw [Nat.zero_add, H2.out.1.cell]; exact h) HCI.out ?_ ?_ ?_ ?_); rfl; rfl; rfl))
      go_ret
      exact ⟨by rw [← HV.out]; rfl, H2.out.2.2⟩
    · go_wp2_with (first | ((with_reducible refine store_cs (o := ⟨none, _, _, _, _, _⟩) (.tmp 3) (.tmp 8) W1.heap.size rfl _ cg HGI.out.1 HGI.out.2.1 HGI.out.2.2 ?_ ?_ ?_ ?_ ?_); rfl; rfl; rfl; rfl) | ((with_reducible refine load_csg (o := ⟨some 12, _, _, _, _, _⟩) (.tmp 3) W1.heap.size cg (fun j v h => by rw [Nat.zero_add, H2.out.2.1.cell]; exact h) HGI.out.1 ?_ ?_ ?_ ?_); rfl; rfl; rfl) | ((with_reducible refine load_csg (o := ⟨some 13, _, _, _, _, _⟩) (.tmp 1) w.heap.size cf (fun j v h => by rw [Nat.zero_add, H2.out.1.cell]; exact h) HCI.out ?_ ?_ ?_ ?_); rfl; rfl; rfl))
      refine (HW.out _).mono ?_
      rintro e W2 ⟨rfl, rfl⟩
      go_wp2_with fail
      go_ret
      exact ⟨by rw [← HV.out]; rfl, H2.out.2.2⟩
end Go.Proofs.YtgjajhopjcdflaaGreat
