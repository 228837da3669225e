/- Texts of contracts: what Parse and Print return, and what follows for them. No program in sight. -/
import Derived.Test.YtfiabonacpepnaaGreatDoorCtC
namespace Go.Proofs.YtfiabonacpepnaaGreatDoor
open Go Go.Lib

def ignoredL (l : List UInt8) : Bool := l.isEmpty || l.head? == some 35
def keepL (ls : List (List UInt8)) : List (List UInt8) := ls.filter fun l => !ignoredL l
/-- terms, number of the line, success: lines from the i-th on, the terms so far -/
def parseGo : List (List UInt8) → Nat → List TermV → List TermV × Nat × Bool
  | [], _, out => (out, 0, true)
  | l :: r, i, out =>
    if ignoredL l = true then parseGo r (i + 1) out
    else if (termV l).2 = true ∧ out.length ≠ 20 then parseGo r (i + 1) (out ++ [(termV l).1])
    else ([], i + 1, false)
def parseV (s : List UInt8) : List TermV × Nat × Bool := if s.length ≤ 2000 then parseGo (splitL 10 s) 0 [] else ([], 0, false)
def textT (l : List TermV) : List UInt8 := l.flatMap fun t => lineT t ++ [10]
def goodL (l : List TermV) : Bool := decide (l.length ≤ 20) && l.all validT
/-- what Print returns -/
def printV (l : List TermV) : List UInt8 := if goodL l = true then textT l else []

theorem parse_mk : ∀ (ls : List (List UInt8)) (i : Nat) (out ts : List TermV), keepL ls = ts.map lineT → (∀ t ∈ ts, validT t = true) → out.length + ts.length ≤ 20 → parseGo ls i out = (out ++ ts, 0, true)
  | [], i, out, ts, h, _, _ => by
    have : ts = [] := by simpa [keepL] using h.symm
    subst this
    simp [parseGo]
  | l :: r, i, out, ts, h, hv, hl => by
    unfold parseGo
    by_cases hi : ignoredL l = true
    · rw [if_pos hi]
      refine parse_mk r (i + 1) out ts ?_ hv hl
      rw [← h]; unfold keepL; rw [List.filter_cons_of_neg (by simp [hi])]
    · rw [if_neg hi]
      have hk : keepL (l :: r) = l :: keepL r := by unfold keepL; rw [List.filter_cons_of_pos (by simp [hi])]
      rw [hk] at h
      cases ts with
      | nil => simp at h
      | cons t ts =>
        simp only [List.map_cons, List.cons.injEq] at h
        have ht := (termV_iff l t).2 ⟨hv t (by simp), h.1.symm⟩
        rw [List.length_cons] at hl
        rw [ht, if_pos ⟨rfl, by omega⟩]
        have := parse_mk r (i + 1) (out ++ [t]) ts h.2 (fun u hu => hv u (by simp [hu])) (by simp; omega)
        rw [this]
        simp
theorem parse_ok : ∀ (ls : List (List UInt8)) (i : Nat) (out : List TermV), (parseGo ls i out).2.2 = true → out.length ≤ 20 → ∃ ts, parseGo ls i out = (out ++ ts, 0, true) ∧ keepL ls = ts.map lineT ∧ (∀ t ∈ ts, validT t = true) ∧ out.length + ts.length ≤ 20
  | [], i, out, _, hl => ⟨[], by simp [parseGo], rfl, by simp, by simpa using hl⟩
  | l :: r, i, out, h, hl => by
    unfold parseGo at h ⊢
    by_cases hi : ignoredL l = true
    · rw [if_pos hi] at h ⊢
      obtain ⟨ts, h1, h2, h3, h4⟩ := parse_ok r (i + 1) out h hl
      refine ⟨ts, h1, ?_, h3, h4⟩
      rw [← h2]; unfold keepL; rw [List.filter_cons_of_neg (by simp [hi])]
    · rw [if_neg hi] at h ⊢
      by_cases ho : (termV l).2 = true ∧ out.length ≠ 20
      · rw [if_pos ho] at h ⊢
        obtain ⟨ts, h1, h2, h3, h4⟩ := parse_ok r (i + 1) _ h (by simp; omega)
        obtain ⟨hv, hln⟩ := (termV_iff l (termV l).1).1 (by rw [← ho.1])
        refine ⟨(termV l).1 :: ts, ?_, ?_, ?_, ?_⟩
        · rw [h1]; simp
        · have hk : keepL (l :: r) = l :: keepL r := by unfold keepL; rw [List.filter_cons_of_pos (by simp [hi])]
          rw [hk, h2, List.map_cons, hln]
        · intro t ht
          rcases List.mem_cons.1 ht with e | e
          · rw [e]; exact hv
          · exact h3 t e
        · simp at h4 ⊢; omega
      · rw [if_neg ho] at h; cases h
theorem parse_bad : ∀ (ls : List (List UInt8)) (i : Nat) (out : List TermV), (parseGo ls i out).2.2 = false → ∃ j, j < ls.length ∧ parseGo ls i out = ([], i + j + 1, false) ∧ (parseGo (ls.take j) i out).2.2 = true ∧ ∀ r, parseGo (ls.take (j + 1) ++ r) i out = ([], i + j + 1, false)
  | [], i, out, h => by simp [parseGo] at h
  | l :: r, i, out, h => by
    unfold parseGo at h
    by_cases hi : ignoredL l = true
    · rw [if_pos hi] at h
      obtain ⟨j, h1, h2, h3, h4⟩ := parse_bad r (i + 1) out h
      refine ⟨j + 1, by simpa using h1, ?_, ?_, fun q => ?_⟩
      · rw [parseGo, if_pos hi, h2]; congr 2; omega
      · rw [List.take_succ_cons, parseGo, if_pos hi]; exact h3
      · rw [List.take_succ_cons, List.cons_append, parseGo, if_pos hi, h4 q]; congr 2; omega
    · rw [if_neg hi] at h
      by_cases ho : (termV l).2 = true ∧ out.length ≠ 20
      · rw [if_pos ho] at h
        obtain ⟨j, h1, h2, h3, h4⟩ := parse_bad r (i + 1) _ h
        refine ⟨j + 1, by simpa using h1, ?_, ?_, fun q => ?_⟩
        · rw [parseGo, if_neg hi, if_pos ho, h2]; congr 2; omega
        · rw [List.take_succ_cons, parseGo, if_neg hi, if_pos ho]; exact h3
        · rw [List.take_succ_cons, List.cons_append, parseGo, if_neg hi, if_pos ho, h4 q]; congr 2; omega
      · refine ⟨0, by simp, ?_, rfl, fun q => ?_⟩
        · rw [parseGo, if_neg hi, if_neg ho]
        · rw [List.take_succ_cons, List.cons_append, parseGo, if_neg hi, if_neg ho]
theorem parse_len (ls : List (List UInt8)) (i : Nat) (out : List TermV) (h : out.length ≤ 20) : (parseGo ls i out).1.length ≤ 20 := by
  cases hb : (parseGo ls i out).2.2 with
  | true =>
    obtain ⟨ts, h1, _, _, h4⟩ := parse_ok ls i out hb h
    rw [h1]; simp; omega
  | false =>
    obtain ⟨j, _, h2, _⟩ := parse_bad ls i out hb
    rw [h2]; simp
theorem keep_app (a b : List (List UInt8)) : keepL (a ++ b) = keepL a ++ keepL b := by unfold keepL; rw [List.filter_append]
theorem keep_lines (ts : List TermV) : keepL (ts.map lineT) = ts.map lineT := by
  unfold keepL
  rw [List.filter_eq_self]
  intro l hl
  obtain ⟨t, _, rfl⟩ := List.mem_map.1 hl
  have := line_hd t
  simp [ignoredL, this.1, this.2]
theorem split_text (ts : List TermV) (s : List UInt8) : splitL 10 (textT ts ++ s) = ts.map lineT ++ splitL 10 s := by
  induction ts with
  | nil => rfl
  | cons t ts ih =>
    unfold textT at ih ⊢
    rw [List.flatMap_cons, List.append_assoc, List.append_assoc, List.singleton_append, split_app _ _ (line_nl t), ih]
    rfl
theorem dec_len : ∀ (k n : Nat), n < 10 ^ (k + 1) → (decDigits n).length ≤ k + 1
  | 0, n, h => by rw [dec_small (by simpa using h)]; simp
  | k + 1, n, h => by
    by_cases h0 : n < 10
    · rw [dec_small h0]; simp
    · have := dec_len k (n / 10) (by rw [Nat.pow_succ] at h; omega)
      rw [dec_big h0, List.length_append]; simp; omega
theorem pct_len {n : Nat} (h : n ≤ 1000000) : (pctL n).length ≤ 8 ∧ 2 ≤ (pctL n).length := by
  have h1 := dec_len 2 (n / 10000) (by omega)
  have h2 := List.length_pos_iff.2 (dec_ne (n / 10000))
  unfold pctL
  rw [List.length_append, List.length_append]
  by_cases h0 : n % 10000 = 0
  · rw [if_pos h0]; simp; omega
  · rw [if_neg h0]
    obtain ⟨j, _, h3, _⟩ := frac_spec (r := n % 10000) (by omega) (by omega)
    have h4 := dec_len 1 (n / 10000) 
    have h5 : n < 1000000 := by omega
    have h6 := h4 (by omega)
    rw [List.length_cons]
    simp; omega
theorem line_len {t : TermV} (h : validT t = true) : (lineT t).length ≤ 60 := by
  have key : ∀ ws : List (List UInt8), (join ws [32]).length ≤ (ws.map (·.length + 1)).sum := by
    intro ws
    induction ws with
    | nil => simp [join_nil]
    | cons x r ih =>
      cases r with
      | nil => rw [join_one]; simp
      | cons y r => rw [join2]; simp at ih ⊢; omega
  have hk := key (wordsT t)
  refine Nat.le_trans hk ?_
  obtain ⟨k, n, m, ab, acc⟩ := t
  rcases validT_cases h with ⟨rfl, h2, h3, rfl, h5, h6, h7, h8⟩ | ⟨rfl, h2, h3, rfl, rfl, rfl⟩ | ⟨rfl, h2, h3, rfl, h5, h6, rfl⟩ | ⟨rfl, h2, h3, rfl, rfl, rfl⟩ | ⟨rfl, rfl, rfl, rfl, h5, h6, h7, h8⟩
  all_goals simp only at *
  · have a := (pct_len (n := n.toNat) (by omega)).1
    have b := dec_len 6 m.toNat (by omega)
    have c := dec_len 15 ab.toNat (by omega)
    unfold wordsT
    simp only [if_true]
    split <;> simp [kPass, kTo, kAbove, pctI, decI] <;> omega
  · have a := (pct_len (n := n.toNat) (by omega)).1
    unfold wordsT
    simp [kTax, pctI]; omega
  · have a := (pct_len (n := n.toNat) (by omega)).1
    have b := dec_len 1 m.toNat (by omega)
    unfold wordsT
    simp [kReserve, kFor, pctI, decI]; omega
  · have b := dec_len 15 n.toNat (by omega)
    unfold wordsT
    simp [kCap, decI]; omega
  · have key2 : ∀ l : List Int, (∀ a ∈ l, 1 ≤ a ∧ a ≤ 1000) → ((l.map decI).map (·.length + 1)).sum ≤ l.length * 5 := by
      intro l
      induction l with
      | nil => intro _; simp
      | cons a l ih =>
        intro hl
        have h1 := ih fun b hb => hl b (by simp [hb])
        have h2 := hl a (by simp)
        have h3 := dec_len 3 a.toNat (by omega)
        simp only [List.map_cons, List.sum_cons, List.length_cons, decI] at h1 ⊢
        omega
    have h9 := key2 acc h7
    unfold wordsT
    simp only [if_neg (show ¬ (5 : Int) = 1 by decide), if_neg (show ¬ (5 : Int) = 2 by decide), if_neg (show ¬ (5 : Int) = 3 by decide), if_neg (show ¬ (5 : Int) = 4 by decide), List.map_cons, List.sum_cons]
    have : kRecoup.length = 6 := rfl
    omega
theorem text_len {l : List TermV} (hv : ∀ t ∈ l, validT t = true) : (textT l).length ≤ l.length * 61 := by
  induction l with
  | nil => simp [textT]
  | cons t l ih =>
    have h1 := ih fun u hu => hv u (by simp [hu])
    have h2 := line_len (hv t (by simp))
    unfold textT at h1 ⊢
    rw [List.flatMap_cons, List.length_append, List.length_append, List.length_cons]
    simp at h1 ⊢; omega
theorem good_iff (l : List TermV) : goodL l = true ↔ l.length ≤ 20 ∧ ∀ t ∈ l, validT t = true := by
  unfold goodL; simp
theorem ofSplit_ok {s : List UInt8} (hs : s.length ≤ 2000) (h : (parseV s).2.2 = true) : ∃ ts, parseV s = (ts, 0, true) ∧ keepL (splitL 10 s) = ts.map lineT ∧ (∀ t ∈ ts, validT t = true) ∧ ts.length ≤ 20 := by
  unfold parseV at h ⊢
  rw [if_pos hs] at h ⊢
  obtain ⟨ts, h1, h2, h3, h4⟩ := parse_ok _ 0 [] h (by simp)
  exact ⟨ts, by rw [h1]; rfl, h2, h3, by simpa using h4⟩
theorem ofSplit_mk {s : List UInt8} (hs : s.length ≤ 2000) {ts : List TermV} (h : keepL (splitL 10 s) = ts.map lineT) (hv : ∀ t ∈ ts, validT t = true) (hl : ts.length ≤ 20) : parseV s = (ts, 0, true) := by
  unfold parseV
  rw [if_pos hs, parse_mk _ 0 [] ts h hv (by simpa using hl)]
  rfl
/-- P14.2: parsing what is printed -/
theorem round_trip {l : List TermV} (h : goodL l = true) : parseV (printV l) = (l, 0, true) := by
  obtain ⟨h1, h2⟩ := (good_iff l).1 h
  have hl := text_len h2
  unfold printV
  rw [if_pos h]
  refine ofSplit_mk (by omega) ?_ h2 h1
  have := split_text l []
  rw [List.append_nil] at this
  rw [this, keep_app, keep_lines]
  simp [splitL, keepL, ignoredL]
/-- P14.2: printing what is parsed -/
theorem parsed_again {s : List UInt8} (hs : s.length ≤ 2000) (h : (parseV s).2.2 = true) : goodL (parseV s).1 = true ∧ printV (parseV s).1 = (keepL (splitL 10 s)).flatMap (fun l => l ++ [10]) ∧ (parseV s).2.1 = 0 := by
  obtain ⟨ts, h1, h2, h3, h4⟩ := ofSplit_ok hs h
  rw [h1]
  have hg := (good_iff ts).2 ⟨h4, h3⟩
  refine ⟨hg, ?_, rfl⟩
  unfold printV
  rw [if_pos hg, h2]
  unfold textT
  rw [List.flatMap_map]
theorem parse_false {s : List UInt8} (h : (parseV s).2.2 = false) : (parseV s).1 = [] ∧ (1 ≤ (parseV s).2.1 ∨ 2000 < s.length) := by
  unfold parseV at h ⊢
  by_cases hs : s.length ≤ 2000
  · rw [if_pos hs] at h ⊢
    obtain ⟨j, _, h2, _⟩ := parse_bad _ 0 [] h
    rw [h2]
    exact ⟨rfl, .inl (by simp)⟩
  · rw [if_neg hs]; exact ⟨rfl, .inr (by omega)⟩
def kAnd : List UInt8 := [10, 35, 32, 97, 110, 100, 10, 10]
/-- P14.3 -/
theorem joined {s t : List UInt8} (hs : s.length ≤ 1000) (ht : t.length ≤ 900) :
    if (parseV s).2.2 = true ∧ (parseV t).2.2 = true ∧ (parseV s).1.length + (parseV t).1.length ≤ 20 then parseV (s ++ kAnd ++ t) = ((parseV s).1 ++ (parseV t).1, 0, true) else (parseV (s ++ kAnd ++ t)).2.2 = false := by
  have hsp : keepL (splitL 10 (s ++ kAnd ++ t)) = keepL (splitL 10 s) ++ keepL (splitL 10 t) := by
    have e : s ++ kAnd ++ t = s ++ 10 :: ([35, 32, 97, 110, 100] ++ 10 :: ([] ++ 10 :: t)) := by simp [kAnd]
    rw [e, split_two, split_two, split_two, keep_app, keep_app, keep_app]
    have e1 : keepL (splitL 10 [35, 32, 97, 110, 100]) = [] := by decide
    have e2 : keepL (splitL 10 []) = [] := by decide
    rw [e1, e2]
    rfl
  have hl : (s ++ kAnd ++ t).length ≤ 2000 := by
    have : kAnd.length = 8 := rfl
    simp only [List.length_append]; omega
  split
  · rename_i h
    obtain ⟨h1, h2, h3⟩ := h
    obtain ⟨a, ha, ka, va, la⟩ := ofSplit_ok (by omega) h1
    obtain ⟨b, hb, kb, vb, lb⟩ := ofSplit_ok (by omega) h2
    rw [ha, hb] at h3 ⊢
    refine ofSplit_mk hl ?_ ?_ ?_
    · rw [hsp, ka, kb, List.map_append]
    · intro x hx
      rcases List.mem_append.1 hx with e | e
      · exact va x e
      · exact vb x e
    · simpa using h3
  · rename_i h
    cases hb : (parseV (s ++ kAnd ++ t)).2.2 with
    | false => rfl
    | true =>
      exfalso
      obtain ⟨ts, _, kc, vc, lc⟩ := ofSplit_ok hl hb
      rw [hsp] at kc
      obtain ⟨a, b, rfl, e1, e2⟩ := List.map_eq_append_iff.1 kc.symm
      have pa := ofSplit_mk (s := s) (by omega) e1.symm (fun x hx => vc x (by simp [hx])) (by simp at lc; omega)
      have pb := ofSplit_mk (s := t) (by omega) e2.symm (fun x hx => vc x (by simp [hx])) (by simp at lc; omega)
      rw [pa, pb] at h
      exact h ⟨rfl, rfl, by simpa using lc⟩
/-- lines, each with a newline behind it -/
def linesL (ls : List (List UInt8)) : List UInt8 := ls.flatMap fun l => l ++ [10]
theorem split_lines (ls : List (List UInt8)) (h : ∀ l ∈ ls, (10 : UInt8) ∉ l) (s : List UInt8) : splitL 10 (linesL ls ++ s) = ls ++ splitL 10 s := by
  induction ls with
  | nil => rfl
  | cons l ls ih =>
    unfold linesL at ih ⊢
    rw [List.flatMap_cons, List.append_assoc, List.append_assoc, List.singleton_append, split_app _ _ (h l (by simp)), ih fun x hx => h x (by simp [hx])]
    rfl
theorem join_lines (ls : List (List UInt8)) (x : List UInt8) : join (ls ++ [x]) [10] = linesL ls ++ x := by
  induction ls with
  | nil => rw [List.nil_append, join_one]; rfl
  | cons l ls ih =>
    obtain ⟨y, r, hy⟩ : ∃ y r, ls ++ [x] = y :: r := by
      cases ls with
      | nil => exact ⟨_, _, rfl⟩
      | cons z t => exact ⟨_, _, rfl⟩
    rw [List.cons_append, hy, join2, ← hy, ih]
    unfold linesL
    rw [List.flatMap_cons]
    simp
theorem join_len (ls : List (List UInt8)) (r : List (List UInt8)) (h : ls ≠ []) : (join ls [10]).length ≤ (join (ls ++ r) [10]).length := by
  cases ls with
  | nil => exact absurd rfl h
  | cons x t =>
    rw [List.cons_append, join_cons, join_cons]
    simp [joinTail]
/-- P14.4: the lines before the one that is complained of are a contract, and with it they are none -/
theorem first_error {s : List UInt8} (hs : s.length ≤ 2000) (h : (parseV s).2.2 = false) : ∃ j l, (parseV s) = ([], j + 1, false) ∧ (splitL 10 s)[j]? = some l ∧ (parseV (linesL ((splitL 10 s).take j))).2.2 = true ∧ parseV (linesL ((splitL 10 s).take j) ++ l) = ([], j + 1, false) := by
  have h' := h
  unfold parseV at h'
  rw [if_pos hs] at h'
  obtain ⟨j, hj, h2, h3, h4⟩ := parse_bad _ 0 [] h'
  obtain ⟨l, hl⟩ : ∃ l, (splitL 10 s)[j]? = some l := ⟨_, List.getElem?_eq_getElem hj⟩
  have hno : ∀ x ∈ (splitL 10 s).take j, (10 : UInt8) ∉ x := fun x hx => split_mem (List.mem_of_mem_take hx)
  have hnl : (10 : UInt8) ∉ l := split_mem (List.mem_of_getElem? hl)
  have htk : (splitL 10 s).take (j + 1) = (splitL 10 s).take j ++ [l] := by rw [List.take_add_one, hl]; rfl
  have hlen : (linesL ((splitL 10 s).take j) ++ l).length ≤ 2000 := by
    rw [← join_lines, ← htk]
    have h5 := join_len ((splitL 10 s).take (j + 1)) ((splitL 10 s).drop (j + 1)) (by rw [htk]; simp)
    rw [List.take_append_drop, join_split] at h5
    omega
  have e1 := split_lines _ hno []
  rw [List.append_nil] at e1
  have e2 := split_lines _ hno l
  rw [split_word hnl] at e2
  rw [Nat.zero_add] at h2 h4
  refine ⟨j, l, ?_, hl, ?_, ?_⟩
  · unfold parseV; rw [if_pos hs, h2]
  · unfold parseV
    rw [if_pos (by simp only [List.length_append] at hlen; omega), e1]
    obtain ⟨ts, _, k1, v1, l1⟩ := parse_ok _ 0 [] h3 (by simp)
    have : keepL ((splitL 10 s).take j ++ splitL 10 []) = ts.map lineT := by
      rw [keep_app, k1]; simp [splitL, keepL, ignoredL]
    rw [parse_mk _ 0 [] ts this v1 (by simpa using l1)]
  · unfold parseV
    rw [if_pos hlen, e2, ← htk]
    have := h4 []
    rw [List.append_nil] at this
    exact this
end Go.Proofs.YtfiabonacpepnaaGreatDoor
