/- finesseref02: of, mul -/
import Derived.Test.YtfciebajiihcfaaDoorDigB
namespace Go.Proofs.YtfciebajiihcfaaDoor
open Go.RowKit
set_option linter.unusedVariables false
set_option linter.unusedSimpArgs false
set_option maxRecDepth 100000
set_option maxHeartbeats 2000000

theorem of_dg (n : Nat) (w : World) (hn : n < 9223372036854775808) :
    Calls Tryd.prog 51 #[.int .i64 (n : Int)] w (SomeD w n) := by
  obtain ⟨D, hD⟩ : ∃ D, dgs n = D := ⟨_, rfl⟩
  have hlen : D.length ≤ 19 := by rw [← hD]; exact dgs_len_le (by omega)
  have HD := Lib.hid hD
  clear hD
  go_enter Tryd.func51, Tryd.ntmps51
  go_wp2_with fail
  go_loopw [0, 3] (fun m o wr => ∃ (k : Nat) (L : List Nat) (z : Nat), m = .int .i64 (k : Int) ∧ k < 9223372036854775808 ∧ z ≤ 19 ∧ wr.ownsRow w.heap.size 3 1 o z (nts L) ∧ Below w.heap.size w wr ∧ Hid (L ++ dgs k = D ∧ L.length = z)) (fun m _ _ => (intOf m).toNat)
  case atStart => exact ⟨n, [], 0, rfl, hn, by omega, ownNil _ _ _, Below.refl _ _, Lib.hid ⟨HD.out, rfl⟩⟩
  case round =>
    obtain ⟨k, L, z, rfl, hk, hz, hown, hB, hG⟩ := hrel
    obtain ⟨a3, c3, rfl⟩ := own_shape hown
    have HO := Lib.hid (And.intro hown hB)
    have hsz := hB.size
    clear hown hB
    by_cases h0 : 0 < k
    · go_wp2_with (at_builtin; refine stopD_of ?_)
      unfold StopD
      refine append_int (by rfl) _ _ (by rfl) w.heap.size w.heap.size _ z (nts L) _ (by rfl) (by rfl) HO.out.1 (by omega) hsz HO.out.2 (Nat.le_refl _) ?_
      intro v' w8 hown1 hB8
      obtain ⟨a', c', rfl⟩ := own_shape hown1
      have HO8 := Lib.hid (And.intro hown1 hB8)
      clear hown1 hB8
      go_wp2_with fail
      go_roundw
      case rel =>
        have hg := hG.out
        have e1 : (L ++ [k % 10]) ++ dgs (k / 10) = D := by
          rw [← hg.1, dgs_pos h0, List.append_assoc]
          rfl
        have hzz : z + 1 ≤ 19 := by
          have := congrArg List.length hg.1
          rw [dgs_pos h0] at this
          simp at this
          omega
        refine ⟨k / 10, L ++ [k % 10], z + 1, by go_num, by omega, hzz, ?_, HO8.out.2, Lib.hid ⟨e1, by simp; exact hg.2⟩⟩
        rw [nts_append]
        exact HO8.out.1
      case measure => simp [intOf]; omega
    · obtain rfl : k = 0 := by omega
      go_wp2_with fail
      go_ret
      refine ⟨_, rfl, ?_, HO.out.2⟩
      obtain ⟨e, hz2⟩ := hG.out
      rw [dgs_zero, List.append_nil] at e
      have h9 := Rd.of_own HO.out.1
      unfold Dg Ns
      rw [HD.out, ← e, hz2]
      exact h9

end Go.Proofs.YtfciebajiihcfaaDoor
