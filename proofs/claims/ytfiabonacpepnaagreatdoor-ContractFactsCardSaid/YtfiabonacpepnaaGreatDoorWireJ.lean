/- PutInt for every integer; PutString. -/
import Derived.Test.YtfiabonacpepnaaGreatDoorWireI
namespace Go.Proofs.YtfiabonacpepnaaGreatDoor.Fb
open Go Go.RowKit

def putSpec (k : Int) : List UInt8 × Int := if k < -4611686018427387903 ∨ 4611686018427387903 < k then ([], 10) else (WireP.enc (WireP.zz k), 0)
def V2s (r : List UInt8 × Int) : Value := .tuple #[.string ⟨r.1.toArray⟩, .int .i64 r.2]

set_option maxRecDepth 100000 in
set_option maxHeartbeats 400000 in
theorem putInt_any (k : Int) (w : World) (h1 : -9223372036854775808 ≤ k) (h2 : k ≤ 9223372036854775807) :
    Calls Tryz.prog 46 #[.int .i64 k] w fun e w' => e = .returned (V2s (putSpec k)) ∧ Below w.heap.size w w' := by
  by_cases h : k < -4611686018427387903 ∨ 4611686018427387903 < k
  · have H := Lib.hid (show putSpec k = ([], 10) by unfold putSpec; rw [if_pos h])
    rcases h with h | h
    · go_enter Tryz.func46, Tryz.ntmps46
      go_wp2
      go_ret2
      exact ⟨by rw [H.out]; rfl, Below.refl _ _⟩
    · have d1 : ¬ k < -4611686018427387903 := by omega
      go_enter Tryz.func46, Tryz.ntmps46
      go_wp2
      go_ret2
      exact ⟨by rw [H.out]; rfl, Below.refl _ _⟩
  · have e : putSpec k = (WireP.enc (WireP.zz k), 0) := by unfold putSpec; rw [if_neg h]
    rw [e]
    exact callsIn_wide.1 (putInt_in k w (by omega) (by omega))

theorem putSpec_len (k : Int) : (putSpec k).1.length ≤ 9 := by
  unfold putSpec
  split
  · simp
  · exact WireP.encF_len 8 _

def putStrSpec (l : List UInt8) : List UInt8 × Int := if 65536 < l.length then ([], 10) else (WireP.enc (WireP.zz l.length) ++ l, 0)

set_option maxRecDepth 100000 in
set_option maxHeartbeats 400000 in
theorem putString_any (s : ByteArray) (w : World) (hs : s.size ≤ 140737488351232) :
    Calls Tryz.prog 47 #[.string s] w fun e w' => e = .returned (V2s (putStrSpec s.data.toList)) ∧ Below w.heap.size w w' := by
  by_cases h : 65536 < s.size
  · have H := Lib.hid (show putStrSpec s.data.toList = ([], 10) by unfold putStrSpec; rw [if_pos (by simpa using h)])
    go_enter Tryz.func47, Tryz.ntmps47
    go_wp2
    go_ret2
    exact ⟨by rw [H.out]; rfl, Below.refl _ _⟩
  · have e1 : putStrSpec s.data.toList = ((putSpec (s.size : Int)).1 ++ s.data.toList, 0) := by
      unfold putStrSpec putSpec
      rw [if_neg (by simpa using h), if_neg (by omega)]
      simp
    have hl := putSpec_len (s.size : Int)
    have hc := putInt_any (s.size : Int)
    obtain ⟨p, hp⟩ : ∃ p, putSpec (s.size : Int) = p := ⟨_, rfl⟩
    obtain ⟨q, x⟩ := p
    rw [hp] at e1 hl hc
    clear hp
    have H := Lib.hid e1; clear e1
    have HC := Lib.hid hc; clear hc
    dsimp only at hl
    go_enter Tryz.func47, Tryz.ntmps47
    go_wp2_with fail
    refine (HC.out _ (by omega) (by omega)).mono ?_
    rintro e w' ⟨rfl, hb⟩
    unfold V2s
    go_wp2
    go_ret2
    refine ⟨?_, hb⟩
    rw [H.out]
    exact congrArg (fun v => Ending.returned (.tuple #[.string v, .int .i64 0])) (append_right q s)
end Go.Proofs.YtfiabonacpepnaaGreatDoor.Fb
