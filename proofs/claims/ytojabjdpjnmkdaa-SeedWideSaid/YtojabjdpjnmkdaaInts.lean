/- finessekit's functions on []int -/
import Derived.Test.YtojabjdpjnmkdaaProg
import Derived.Test.YtojabjdpjnmkdaaBase
namespace Go.Proofs.Ytojabjdpjnmkdaa
open Go.RowKit
set_option linter.unusedVariables false
set_option maxRecDepth 100000

/-- a slice of ints with an element -/
theorem Rd.some {B : Nat} {w : World} {v : Value} {l : List Int} (h : Rd B w 1 v l.length (ints l)) (hn : 0 < l.length) :
    ∃ b off c, v = .slice (some ⟨b, off, none⟩) l.length c ∧ b < B ∧ l.length ≤ c ∧ c ≤ maxLen ∧ ∀ j, j < l.length → w.cell? ⟨b, off + j, none⟩ = some (.int .i64 (l.getD j 0)) := by
  obtain ⟨b, off, c, rfl, hb, _, h1, h2, hc⟩ := h.pos hn
  exact ⟨b, off, c, rfl, hb, h1, h2, fun j hj => (hc j (by omega)).trans (ints_get l j hj)⟩

theorem SameInts_yes (va vb : Value) (l : List Int) (w : World) (ha : Rd w.heap.size w 1 va l.length (ints l)) (hb : Rd w.heap.size w 1 vb l.length (ints l)) :
    Calls Try.prog 28 #[va, vb] w fun e w' => e = .returned (.bool true) ∧ ∃ k, w' = w.drewN k := by
  have hlen := ha.len
  unfold maxLen at hlen
  by_cases hn : l.length = 0
  · obtain ⟨a1, c1, rfl⟩ := ha.shape
    obtain ⟨a2, c2, rfl⟩ := hb.shape
    obtain rfl : l = [] := List.eq_nil_of_length_eq_zero hn
    clear ha hb hn hlen
    go_enter Try.func28, Try.ntmps28
    go_wp2_with fail
    go_loopw [5] (fun i wr => i = .int .i64 0 ∧ wr = w) (fun _ _ => 0)
    case atStart => exact ⟨rfl, rfl⟩
    case round =>
      obtain ⟨rfl, rfl⟩ := hrel
      go_wp2_with fail
      go_ret
      exact ⟨rfl, 0, rfl⟩
  · obtain ⟨b1, o1, c1, rfl, -, -, -, hc1⟩ := ha.some (by omega)
    obtain ⟨b2, o2, c2, rfl, -, -, -, hc2⟩ := hb.some (by omega)
    have H1 := Lib.hid hc1
    have H2 := Lib.hid hc2
    clear hc1 hc2 ha hb hn
    go_enter Try.func28, Try.ntmps28
    go_wp2_with fail
    go_loopw [5] (fun i wr => ∃ k : Nat, i = .int .i64 k ∧ k ≤ l.length ∧ ∃ m, wr = w.drewN m) (fun i _ => l.length - (intOf i).toNat)
    case atStart => exact ⟨0, rfl, by omega, 0, rfl⟩
    case round =>
      obtain ⟨k, rfl, hk, m, rfl⟩ := hrel
      by_cases hk' : k < l.length
      · have e1 := H1.out k hk'
        have e2 := H2.out k hk'
        obtain ⟨x, hx⟩ : ∃ x, l.getD k 0 = x := ⟨_, rfl⟩
        rw [hx] at e1 e2
        clear hx
        go_wp2_with fail
        go_quiet (fail)
        go_wp2_with fail
        go_roundw
        case rel => exact ⟨k + 1, by go_num, by omega, _, rfl⟩
        case measure => simp [intOf]; omega
      · go_wp2_with fail
        go_ret
        exact ⟨rfl, _, rfl⟩

end Go.Proofs.Ytojabjdpjnmkdaa
