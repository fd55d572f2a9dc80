/- card: Mask -/
import Derived.Test.YtbjehiagaikhoaaProg
import Derived.Test.YtbjehiagaikhoaaCardS
namespace Go.Proofs.Ytbjehiagaikhoaa
open Go.RowKit
set_option linter.unusedVariables false
set_option maxRecDepth 100000

/-- what Mask answers -/
def mgo : Nat → List Nat → Nat × Nat
  | m, [] => (m, 0)
  | m, c :: l => if c < 52 then (if bt m c then (0, 42) else mgo (m ||| 2 ^ c) l) else (0, 41)

def vMask (p : Nat × Nat) : Value := .tuple #[.int .u64 p.1, .int .i64 p.2]

theorem Mask_any (v : Value) (l : List Nat) (w : World) (hrd : Rd w.heap.size w 1 v l.length (bys l)) (hl : ∀ c ∈ l, c < 256) :
    Calls Try.prog 26 #[v] w fun e w' => e = .returned (vMask (mgo 0 l)) ∧ w = w' := by
  obtain ⟨a, c, rfl⟩ := hrd.shape
  have hlen := hrd.len
  obtain ⟨R, hR⟩ : ∃ R, mgo 0 l = R := ⟨_, rfl⟩
  have HR := Lib.hid hR
  rw [hR]
  clear hR
  have hml : (l.length : Int) ≤ 9223372036854775807 := by unfold maxLen at hlen; omega
  clear hlen
  go_enter Try.func26, Try.ntmps26
  go_wp2
  go_loopw [4, 9] (fun m i wr => ∃ (m' i' : Nat), m = .int .u64 m' ∧ i = .int .i64 i' ∧ i' ≤ l.length ∧ m' < 4503599627370496 ∧ Hid (mgo m' (l.drop i') = R) ∧ w = wr) (fun _ i _ => l.length - (intOf i).toNat)
  case atStart => exact ⟨0, 0, rfl, rfl, by omega, by omega, HR, rfl⟩
  case round =>
    obtain ⟨m, i, rfl, rfl, hi, hm, hG, rfl⟩ := hrel
    by_cases h : i < l.length
    · obtain ⟨b, off, cp, hv, hb, -, -, -, hcells⟩ := hrd.pos (by omega)
      cases hv
      obtain ⟨x, hx⟩ : ∃ x, l[i] = x := ⟨_, rfl⟩
      have hx256 : x < 256 := by rw [← hx]; exact hl _ (List.getElem_mem h)
      have hc : w.cell? ⟨b, off + i, none⟩ = some (.int .u8 (x : Int)) := by
        rw [hcells i (by omega)]
        exact bys_get (by rw [List.getElem?_eq_getElem h, hx])
      have hG' := hG.out
      rw [List.drop_eq_getElem_cons h, hx] at hG'
      unfold mgo at hG'
      have hm64 : m < 18446744073709551616 := by omega
      by_cases h52 : x < 52
      · have hd : decide (x < 52) = true := by simpa using h52
        rw [if_pos h52] at hG'
        have hbits := bt_bits m x hm64
        cases hbt : bt m x with
        | true =>
          rw [hbt] at hG' hbits
          rw [if_pos rfl] at hG'
          clear hcells hbt
          have HG2 := Lib.hid hG'
          clear hG'
          go_wp2_with (go_at_call 20; refine (Right_any x _ hx256).mono ?_; rintro e w' ⟨rfl, rfl⟩; rw [hd])
          exact bodyPost_ret (results_tmp2 rfl _ _ _) rfl ⟨by rw [← HG2.out]; rfl, rfl⟩
        | false =>
          rw [hbt] at hG' hbits
          rw [if_neg (by decide)] at hG'
          obtain ⟨o1, o2⟩ := or_bit m x hm h52
          clear hcells hbt
          have HG2 := Lib.hid hG'
          clear hG'
          go_wp2_with (go_at_call 20; refine (Right_any x _ hx256).mono ?_; rintro e w' ⟨rfl, rfl⟩; rw [hd])
          go_roundw
          case rel => exact ⟨m ||| 2 ^ x, i + 1, by first | rfl | rw [o1], by go_num, by omega, o2, HG2, by trivial⟩
          case measure => simp [intOf]; omega
      · have hd : decide (x < 52) = false := by simpa using h52
        rw [if_neg h52] at hG'
        clear hcells
        have HG2 := Lib.hid hG'
        clear hG'
        go_wp2_with (go_at_call 20; refine (Right_any x _ hx256).mono ?_; rintro e w' ⟨rfl, rfl⟩; rw [hd])
        exact bodyPost_ret (results_tmp2 rfl _ _ _) rfl ⟨by rw [← HG2.out]; rfl, rfl⟩
    · obtain rfl : i = l.length := by omega
      have hG' := hG.out
      rw [List.drop_of_length_le (by omega)] at hG'
      have HG2 := Lib.hid hG'
      clear hG'
      go_wp2
      exact bodyPost_ret (results_tmp2 rfl _ _ _) rfl ⟨by rw [← HG2.out]; rfl, rfl⟩

end Go.Proofs.Ytbjehiagaikhoaa
