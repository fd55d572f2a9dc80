/- finessekit's functions on []byte -/
import Derived.Test.YtbgiiijdabpbcaaDoorBytes
namespace Go.Proofs.YtbgiiijdabpbcaaDoor
open Go.RowKit
set_option linter.unusedVariables false
set_option linter.unusedSimpArgs false
set_option maxRecDepth 100000
set_option maxHeartbeats 2000000

theorem Rd.bytes {B : Nat} {w : World} {v : Value} {l : List Nat} (h : Rd B w 1 v l.length (bys l)) (hn : 0 < l.length) :
    ∃ b off c, v = .slice (some ⟨b, off, none⟩) l.length c ∧ b < B ∧ l.length ≤ c ∧ c ≤ maxLen ∧ ∀ j, j < l.length → w.cell? ⟨b, off + j, none⟩ = some (.int .u8 ((l.getD j 0 : Nat) : Int)) := by
  obtain ⟨b, off, c, rfl, hb, _, h1, h2, hc⟩ := h.pos hn
  refine ⟨b, off, c, rfl, hb, h1, h2, fun j hj => (hc j (by omega)).trans (bys_get ?_)⟩
  rw [List.getD_eq_getElem?_getD, List.getElem?_eq_getElem hj]
  rfl

theorem SameBytes_yes (va vb : Value) (l : List Nat) (w : World) (ha : Rd w.heap.size w 1 va l.length (bys l)) (hb : Rd w.heap.size w 1 vb l.length (bys l)) :
    Calls Tryd.prog 24 #[va, vb] w fun e w' => e = .returned (.bool true) ∧ ∃ k, w' = w.drewN k := by
  have hlen := ha.len
  unfold maxLen at hlen
  by_cases hn : l.length = 0
  · obtain ⟨a1, c1, rfl⟩ := ha.shape
    obtain ⟨a2, c2, rfl⟩ := hb.shape
    obtain rfl : l = [] := List.eq_nil_of_length_eq_zero hn
    clear ha hb hn hlen
    go_enter Tryd.func24, Tryd.ntmps24
    go_wp2_with fail
    go_loopw [5] (fun i wr => i = .int .i64 0 ∧ wr = w) (fun _ _ => 0)
    case atStart => exact ⟨rfl, rfl⟩
    case round =>
      obtain ⟨rfl, rfl⟩ := hrel
      go_wp2_with fail
      go_ret
      exact ⟨rfl, 0, rfl⟩
  · obtain ⟨b1, o1, c1, rfl, -, -, -, hc1⟩ := ha.bytes (by omega)
    obtain ⟨b2, o2, c2, rfl, -, -, -, hc2⟩ := hb.bytes (by omega)
    have H1 := Lib.hid hc1
    have H2 := Lib.hid hc2
    clear hc1 hc2 ha hb hn
    go_enter Tryd.func24, Tryd.ntmps24
    go_wp2_with fail
    go_loopw [5] (fun i wr => ∃ k : Nat, i = .int .i64 k ∧ k ≤ l.length ∧ ∃ m, wr = w.drewN m) (fun i _ => l.length - (intOf i).toNat)
    case atStart => exact ⟨0, rfl, by omega, 0, rfl⟩
    case round =>
      obtain ⟨k, rfl, hk, m, rfl⟩ := hrel
      by_cases hk' : k < l.length
      · have e1 := H1.out k hk'
        have e2 := H2.out k hk'
        obtain ⟨x, hx⟩ : ∃ x, l.getD k 0 = x := ⟨_, rfl⟩
        rw [hx] at e1 e2
        clear hx
        go_wp2_with fail
        go_quiet (fail)
        go_wp2_with fail
        go_roundw
        case rel => exact ⟨k + 1, by go_num, by omega, _, rfl⟩
        case measure => simp [intOf]; omega
      · go_wp2_with fail
        go_ret
        exact ⟨rfl, _, rfl⟩

theorem mark_any (k i : Nat) (w : World) (hk : k ≤ 2) (hi : i ≤ 1000000) :
    Calls Tryd.prog 63 #[.int .i64 (k : Int), .int .i64 (i : Int)] w fun e w' => e = .returned (.int .i64 ((1000003 * (k + 7) + i : Nat) : Int)) ∧ w = w' := by
  have e1 : (1000003 : Int) * ((k : Int) + 7) + (i : Int) = ((1000003 * (k + 7) + i : Nat) : Int) := by omega
  obtain ⟨M, hM⟩ : ∃ M, 1000003 * (k + 7) + i = M := ⟨_, rfl⟩
  rw [hM] at e1 ⊢
  clear hM
  go_enter Tryd.func63, Tryd.ntmps63
  go_wp2
  go_ret
  exact ⟨rfl, rfl⟩

def mb (k i : Nat) : Nat := (1000003 * (k + 7) + i) * 11400714819323198485 % 18446744073709551616 / 72057594037927936 % 256

theorem mb_int (k i M : Nat) (h : 1000003 * (k + 7) + i = M) : ((mb k i : Nat) : Int) = IntKind.u64.wrap ((M : Int) * 11400714819323198485) / 72057594037927936 % 256 := by
  rw [IntKind.wrap_u64]
  unfold mb
  rw [h]
  rw [Int.natCast_emod, Int.natCast_ediv, Int.natCast_emod, Int.natCast_mul]
  rfl

theorem markByte_any (k i : Nat) (w : World) (hk : k ≤ 2) (hi : i ≤ 1000000) :
    Calls Tryd.prog 51 #[.int .i64 (k : Int), .int .i64 (i : Int)] w fun e w' => e = .returned (.int .u8 (mb k i : Nat)) ∧ w = w' := by
  obtain ⟨M, hM⟩ : ∃ M, 1000003 * (k + 7) + i = M := ⟨_, rfl⟩
  have hMb : M ≤ 20000000 := by omega
  have HM := Lib.hid hM
  clear hM
  go_enter Tryd.func51, Tryd.ntmps51
  go_wp2_with (go_at_call 63; refine (mark_any k i _ hk hi).mono ?_; rintro e w' ⟨rfl, rfl⟩; rw [HM.out])
  go_ret
  refine ⟨?_, rfl⟩
  rw [mb_int k i M HM.out]
  rfl

end Go.Proofs.YtbgiiijdabpbcaaDoor
