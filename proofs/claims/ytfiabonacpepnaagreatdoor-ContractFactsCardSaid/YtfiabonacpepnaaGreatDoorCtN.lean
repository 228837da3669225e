/- The table of forms; a text divided. -/
import Derived.Test.YtfiabonacpepnaaGreatDoorCtM
import Derived.Maps.OwnSet
namespace Go.Proofs.YtfiabonacpepnaaGreatDoor
open Go Go.RowKit Go.Lib Go.Shelf Go.Maps

/-- how a function value reads -/
def fnElem (v : Value) : Option (DataW Unit × List MemPlace) :=
  match v with
  | .func (.func n) ⟨[]⟩ ⟨[]⟩ => some (.lit (.int .i64 (n : Int)), [])
  | _ => some (.lit (.int .i64 (-1)), [])
theorem fnElem_inv {v : Value} {n : Nat} {ps : List MemPlace} (h : fnElem v = some (.lit (.int .i64 (n : Int)), ps)) : v = .func (.func n) #[] #[] := by
  unfold fnElem at h
  split at h
  · simp only [Option.some.injEq, Prod.mk.injEq, DataW.lit.injEq, Lit.int.injEq, true_and] at h
    have : _ = n := Int.ofNat.inj h.1
    rw [this]
  · simp only [Option.some.injEq, Prod.mk.injEq, DataW.lit.injEq, Lit.int.injEq, true_and] at h
    omega
def sLit (l : List UInt8) : Lit := .string l
def formD : DataW Unit := (((((DataW.map []).put (sLit kPass) (.lit (.int .i64 89))).put (sLit kTax) (.lit (.int .i64 90))).put (sLit kReserve) (.lit (.int .i64 92))).put (sLit kCap) (.lit (.int .i64 93))).put (sLit kRecoup) (.lit (.int .i64 95))
/-- the function of a form's first word -/
def formF (x : List UInt8) : Option Nat :=
  if x = kPass then some 89 else if x = kTax then some 90 else if x = kReserve then some 92
  else if x = kCap then some 93 else if x = kRecoup then some 95 else none
def FormsAt (w : World) (eb : Nat) : Prop := w.ownsMap Tryz.prog 9 fnElem eb 5 formD
theorem FormsAt.kept {w w' : World} {eb : Nat} (h : FormsAt w eb) (hb : w'.heap[eb]? = w.heap[eb]?) : FormsAt w' eb := by
  obtain ⟨es, clock, hh, F, hs, hD⟩ := h
  exact ⟨es, clock, hb.trans hh, F, hs, hD⟩
theorem key_str {l : List UInt8} (h : l.length ≤ 3000) : keyOf Tryz.prog 9 (strV l) = some (sLit l) := by
  have e : (⟨l.toArray⟩ : ByteArray).size ≤ maxLen := by show l.length ≤ maxLen; unfold maxLen; omega
  unfold strV sLit
  simp [keyOf, Tryz.underlying9, mapKey, e]
set_option maxRecDepth 100000 in
set_option maxHeartbeats 2000000 in
theorem forms_any (w : World) : Calls Tryz.prog 69 #[] w fun e w' => e = .returned (.map (some w.heap.size)) ∧ FormsAt w' w.heap.size ∧ Below w.heap.size w w' := by
  have hm0 := World.ownsMap_made w Tryz.prog 9 fnElem
  obtain ⟨w1, r1, m1, g1⟩ := hm0.update (string_keyed Tryz.underlying9) Tryz.underlying112 (by decide) (key_str (l := kPass) (by decide)) (show fnElem (.func (.func 89) #[] #[]) = _ from rfl)
  obtain ⟨w2, r2, m2, g2⟩ := m1.update (string_keyed Tryz.underlying9) Tryz.underlying112 (by decide) (key_str (l := kTax) (by decide)) (show fnElem (.func (.func 90) #[] #[]) = _ from rfl)
  obtain ⟨w3, r3, m3, g3⟩ := m2.update (string_keyed Tryz.underlying9) Tryz.underlying112 (by decide) (key_str (l := kReserve) (by decide)) (show fnElem (.func (.func 92) #[] #[]) = _ from rfl)
  obtain ⟨w4, r4, m4, g4⟩ := m3.update (string_keyed Tryz.underlying9) Tryz.underlying112 (by decide) (key_str (l := kCap) (by decide)) (show fnElem (.func (.func 93) #[] #[]) = _ from rfl)
  obtain ⟨w5, r5, m5, g5⟩ := m4.update (string_keyed Tryz.underlying9) Tryz.underlying112 (by decide) (key_str (l := kRecoup) (by decide)) (show fnElem (.func (.func 95) #[] #[]) = _ from rfl)
  have b0 : Below w.heap.size w (w.alloc (.map #[] 0)) := (Below.refl _ _).alloc (Nat.le_refl _) _
  have gb : ∀ j, some w.heap.size = some j → w.heap.size ≤ j := fun j e => by cases e; exact Nat.le_refl _
  have b1 := b0.grown g1 b0.size gb
  have b2 := b1.grown g2 b1.size gb
  have b3 := b2.grown g3 b2.size gb
  have b4 := b3.grown g4 b3.size gb
  have b5 := b4.grown g5 b4.size gb
  have HM := Lib.hid (show FormsAt w5 w.heap.size from m5)
  have HB := Lib.hid b5
  have hmm := @run_makeMap Tryz.prog
  unfold strV kPass at r1
  unfold strV kTax at r2
  unfold strV kReserve at r3
  unfold strV kCap at r4
  unfold strV kRecoup at r5
  clear m1 m2 m3 m4 m5 hm0 g1 g2 g3 g4 g5 b0 b1 b2 b3 b4 gb b5
  go_enter Tryz.func69, Tryz.ntmps69
  go_wp2_with fail
  go_ret
  exact ⟨rfl, HM.out, HB.out⟩
theorem form_look {w : World} {eb : Nat} (h : FormsAt w eb) (x : List UInt8) (hx : x.length ≤ 3000) :
    ∃ v, (Instr.lookup 112 (.map (some eb)) (strV x) true).run Tryz.prog w = .ok (.tuple #[v, .bool (formF x).isSome]) w ∧ ∀ f, formF x = some f → v = .func (.func f) #[] #[] := by
  have hz : ∃ z, (∀ w, (zeroValue 110).run Tryz.prog w = .ok z w) ∧ fnElem z = some (.lit (.int .i64 (-1)), []) := ⟨.nilFunc, fun w => by kernel_rfl, by rfl⟩
  obtain ⟨z, hz1, hz2⟩ := hz
  obtain ⟨v, ps, hrun, hv⟩ := World.ownsMap.look_ok h (string_keyed Tryz.underlying9) Tryz.underlying112 (hz1 w) hz2 (key_str hx)
  have hhas : Maps.has formD (sLit x) = (formF x).isSome := by
    unfold formD formF
    by_cases h1 : x = kPass
    · subst h1; rfl
    rw [if_neg h1]
    by_cases h2 : x = kTax
    · subst h2; rfl
    rw [if_neg h2]
    by_cases h3 : x = kReserve
    · subst h3; rfl
    rw [if_neg h3]
    by_cases h4 : x = kCap
    · subst h4; rfl
    rw [if_neg h4]
    by_cases h5 : x = kRecoup
    · subst h5; rfl
    rw [if_neg h5]
    have ne : ∀ k, x ≠ k → sLit x ≠ sLit k := fun k hk e => hk (by unfold sLit at e; simpa using e)
    rw [has_put_other (ne _ h5), has_put_other (ne _ h4), has_put_other (ne _ h3), has_put_other (ne _ h2), has_put_other (ne _ h1)]
    rfl
  rw [hhas] at hrun
  refine ⟨v, hrun, fun f hf => ?_⟩
  have hat : formD.atKey (sLit x) (.lit (.int .i64 (-1))) = .lit (.int .i64 (f : Int)) := by
    unfold formF at hf
    split at hf
    · rename_i h1; subst h1; simp at hf; subst hf; rfl
    split at hf
    · rename_i h1; subst h1; simp at hf; subst hf; rfl
    split at hf
    · rename_i h1; subst h1; simp at hf; subst hf; rfl
    split at hf
    · rename_i h1; subst h1; simp at hf; subst hf; rfl
    split at hf
    · rename_i h1; subst h1; simp at hf; subst hf; rfl
    · cases hf
  rw [hat] at hv
  exact fnElem_inv hv

/-! a text divided -/
theorem split_len (c : UInt8) (l : List UInt8) : (splitL c l).length ≤ l.length + 1 ∧ ∀ x ∈ splitL c l, x.length ≤ l.length := by
  induction l with
  | nil => simp [splitL]
  | cons b l ih =>
    unfold splitL
    split
    · refine ⟨by simp; omega, fun x hx => ?_⟩
      rcases List.mem_cons.1 hx with e | e
      · subst e; simp
      · have := ih.2 x e; simp; omega
    · split
      · exact ⟨by simp, fun x hx => by simp at hx; subst hx; simp⟩
      · rename_i y r he
        rw [he] at ih
        refine ⟨by have := ih.1; simp at this ⊢; omega, fun x hx => ?_⟩
        rcases List.mem_cons.1 hx with e | e
        · subst e
          have := ih.2 y (by simp)
          simp; omega
        · have := ih.2 x (by simp [e]); simp; omega
/-- the block of a text's parts -/
def partsC (ls : List (List UInt8)) : Array Value := (ls.map strV).toArray
theorem split_any (c : UInt8) (s : List UInt8) (w : World) (hK : KAt w) (hl : s.length ≤ 3000) :
    Calls Tryz.prog 41 #[strV s, .string ⟨#[c]⟩] w fun e w' => e = .returned (.slice (some ⟨w.heap.size, 0, none⟩) (splitL c s).length (splitL c s).length) ∧ w' = w.alloc (.cells (partsC (splitL c s)) 9) := by
  obtain ⟨m, hm⟩ := hK.max
  have h := Tryz.strings_Split ⟨s.toArray⟩ ⟨#[c]⟩ m w (by show s.length < _; omega) hm (Nat.le_refl 1)
  have e1 := splitB_one c ⟨s.toArray⟩
  have e2 := splitB_all ⟨#[c]⟩ (Nat.le_refl 1) 0 (countB ⟨s.toArray⟩ ⟨#[c]⟩) ⟨s.toArray⟩ rfl
  have e3 : countB ⟨s.toArray⟩ ⟨#[c]⟩ + 1 = (splitL c s).length := by
    have := congrArg List.length e1
    rw [List.length_map, e2] at this
    exact this
  have e4 : ((splitB ⟨#[c]⟩ 0 (countB ⟨s.toArray⟩ ⟨#[c]⟩) ⟨s.toArray⟩).map Value.string).toArray = partsC (splitL c s) := by
    unfold partsC
    rw [show splitL c s = (splitB ⟨#[c]⟩ 0 (countB ⟨s.toArray⟩ ⟨#[c]⟩) ⟨s.toArray⟩).map (·.data.toList) from e1.symm, List.map_map]
    congr 1
  rw [e3, e4] at h
  exact h
theorem parts_cell {W : World} {b : Nat} {ls : List (List UInt8)} (h : RowAt W b 9 (partsC ls)) (j : Nat) (x : List UInt8) (hj : ls[j]? = some x) : W.cell? ⟨b, j, none⟩ = some (strV x) := by
  rw [h.cell j]
  unfold partsC
  rw [List.getElem?_toArray, List.getElem?_map, hj]
  rfl
theorem acc_bd : ∀ ws : List (List UInt8), (accV ws).1.length ≤ ws.length ∧ ∀ a ∈ (accV ws).1, 0 ≤ a ∧ a ≤ 9223372036854775807
  | [] => by simp [accV]
  | w :: t => by
    have ih := acc_bd t
    have hb := digV_bd w
    unfold accV
    by_cases hd : (digV w).2 = true
    · rw [if_pos hd]
      refine ⟨by simp; exact ih.1, fun a ha => ?_⟩
      rcases List.mem_cons.1 ha with e | e
      · rw [e]; exact hb
      · exact ih.2 a e
    · rw [if_neg hd]
      exact ⟨by simp, fun a ha => by simp at ha; rw [ha]; exact hb⟩
theorem form_bd {x : List UInt8} {t : List (List UInt8)} {p : TermV × Rd} (h : formV x t = some p) : p.1.acc.length ≤ t.length ∧ ∀ a ∈ p.1.acc, 0 ≤ a ∧ a ≤ 9223372036854775807 := by
  unfold formV at h
  split at h
  · simp only [Option.some.injEq] at h
    subst h
    unfold passV
    dsimp only
    split <;> simp
  split at h
  · simp only [Option.some.injEq] at h; subst h; simp [taxV]
  split at h
  · simp only [Option.some.injEq] at h; subst h; simp [reserveV]
  split at h
  · simp only [Option.some.injEq] at h; subst h; simp [capV]
  split at h
  · simp only [Option.some.injEq] at h; subst h; exact acc_bd t
  · cases h
end Go.Proofs.YtfiabonacpepnaaGreatDoor
