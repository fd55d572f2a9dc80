/- NatReads: what is read is as the reference says, walked -/
import Derived.Test.YtfciebajiihcfaaDoorSteps
import Derived.Test.YtfciebajiihcfaaDoorDigJ
namespace Go.Proofs.YtfciebajiihcfaaDoor
open Go.RowKit
set_option linter.unusedVariables false
set_option linter.unusedSimpArgs false
set_option maxRecDepth 100000
set_option maxHeartbeats 4000000

theorem read_pair (l : List UInt8) : ∃ (p : Nat) (e1 : Int), vNRead l = .tuple #[vN p, .int .i64 e1] := by
  unfold vNRead
  split
  · exact ⟨_, _, rfl⟩
  · split <;> exact ⟨_, _, rfl⟩

theorem bel1D {w a : World} {o : Obj} (h : Below w.heap.size w a) : Below w.heap.size w (a.alloc o) := h.alloc h.size o

theorem reads_any (s : ByteArray) (w : World) (hs : s.size ≤ 9223372036854775807) :
    Calls Tryd.prog 12 #[.string s] w fun e w' => e = .returned (.bool true) ∧ Below w.heap.size w w' := by
  by_cases h : 80 < s.size
  · go_enter Tryd.func12, Tryd.ntmps12
    go_wp2_with fail
    go_ret
    exact ⟨rfl, Below.refl _ _⟩
  · obtain ⟨p, e1, hv⟩ := read_pair s.data.toList
    have H := Lib.hid hv
    have h80 : s.size ≤ 80 := by omega
    have hB := Below.refl w.heap.size w
    clear hv h
    go_enter Tryd.func12, Tryd.ntmps12
    go_wp2_with (go_at_call 25; refine stopD_of ?_)
    unfold StopD
    refine (NRead_any s _ hs).mono ?_
    rintro e w1 ⟨rfl, hb⟩
    rw [H.out]
    replace hB := call0 hB hb
    clear hb
    go_wp2_with (go_at_call 29; refine stopD_of ?_)
    unfold StopD
    refine (rRead_any s _ (by omega)).mono ?_
    rintro e w2 ⟨rfl, hb⟩
    rw [H.out]
    have RP := new1 hb
    replace hB := call1 hB hb
    clear hb
    obtain ⟨c0, c1, c2, c3, -⟩ := row4 RP
    have z0 := RP.lt
    go_wp2_with fail
    go_ret
    exact ⟨by simp, bel1D hB⟩

theorem NatReads_walk (s : ByteArray) (w : World) (hs : s.size ≤ maxLen) :
    Calls Tryd.prog 3 #[.string s] w fun e w' => e = .returned (.bool true) ∧ Below w.heap.size w w' := by
  unfold maxLen at hs
  go_enter Tryd.func3, Tryd.ntmps3
  go_wp2_with (go_at_call 12; refine stopD_of ?_)
  unfold StopD
  refine (reads_any s _ (by omega)).mono ?_
  rintro e w1 ⟨rfl, hb⟩
  have hB := call0 (Below.refl _ w) hb
  clear hb
  go_wp2_with (go_at_call 13; refine stopD_of ?_)
  unfold StopD
  refine (nawake_true _).mono ?_
  rintro e w2 ⟨rfl, hb⟩
  replace hB := call0 hB hb
  clear hb
  go_wp2_with fail
  go_ret
  exact ⟨rfl, hB⟩

end Go.Proofs.YtfciebajiihcfaaDoor
