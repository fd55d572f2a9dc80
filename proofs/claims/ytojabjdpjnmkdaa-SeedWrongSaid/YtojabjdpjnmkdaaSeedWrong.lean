/- SeedWrong, walked -/
import Derived.Test.YtojabjdpjnmkdaaSeedBN
import Derived.Test.YtojabjdpjnmkdaaArr4
namespace Go.Proofs.Ytojabjdpjnmkdaa
open Go.RowKit
set_option linter.unusedVariables false
set_option linter.unusedSimpArgs false
set_option maxRecDepth 100000
set_option maxHeartbeats 4000000

def Stop' (p : Prop) : Prop := p
theorem stop_of' {p : Prop} (h : Stop' p) : p := h

theorem or_u32 (a : Nat) (ha : a < 4294967296) : ∃ v : Nat, bits .or .u32 (a : Int) 2147483648 = (v : Int) ∧ 2147483648 ≤ v ∧ v < 4294967296 := by
  refine ⟨a ||| 2147483648, ?_, Nat.right_le_or, Nat.or_lt_two_pow (n := 32) ha (by decide)⟩
  have hx : a ||| 2147483648 < 2 ^ 32 := Nat.or_lt_two_pow (n := 32) ha (by decide)
  show IntKind.u32.wrap ((BitVec.ofInt 32 (a : Int) ||| BitVec.ofInt 32 2147483648).toNat : Int) = _
  have e1 : (BitVec.ofInt 32 (a : Int)).toNat = a := by rw [BitVec.ofInt_natCast, BitVec.toNat_ofNat]; exact Nat.mod_eq_of_lt (by omega)
  have e2 : (BitVec.ofInt 32 2147483648).toNat = 2147483648 := by decide
  rw [BitVec.toNat_or, e1, e2, IntKind.wrap_u32]
  omega

theorem callA {w a b : World} {o : Obj} (h : Below w.heap.size w a) (hb : Below (a.alloc o).heap.size (a.alloc o) b) : Below w.heap.size w b :=
  (h.alloc h.size o).trans (hb.mono (h.alloc h.size o).size)
theorem rowA {a b : World} {o : Obj} {k : Nat} {t : TypeId} {vs : Array Value} (r : Row a k t vs) (hb : Below (a.alloc o).heap.size (a.alloc o) b) : Row b k t vs :=
  (r.alloc o).below hb (by have := r.lt; simp; omega)
theorem callZ {w a b : World} (h : Below w.heap.size w a) (hb : Below a.heap.size a b) : Below w.heap.size w b := h.trans (hb.mono h.size)
theorem rowZ {a b : World} {k : Nat} {t : TypeId} {vs : Array Value} (r : Row a k t vs) (hb : Below a.heap.size a b) : Row b k t vs := r.below hb r.lt

theorem nine_get (i : Nat) (h : i < 9) : (#[.int .i64 2, .int .i64 2, .int .i64 2, .int .i64 2, .int .i64 2, .int .i64 2, .int .i64 2, .int .i64 2, .int .i64 2] : Array Value)[i]? = some (.int .i64 2) := by
  have h9 : i = 0 ∨ i = 1 ∨ i = 2 ∨ i = 3 ∨ i = 4 ∨ i = 5 ∨ i = 6 ∨ i = 7 ∨ i = 8 := by omega
  rcases h9 with rfl | rfl | rfl | rfl | rfl | rfl | rfl | rfl | rfl <;> rfl

theorem more_big (a0 a1 a2 v : Int) (h0 : 0 ≤ a0 ∧ a0 ≤ 4294967295) (h1 : 0 ≤ a1 ∧ a1 ≤ 4294967295) (h2 : 0 ≤ a2 ∧ a2 ≤ 4294967295) (hv1 : 2147483648 ≤ v) (hv2 : v ≤ 4294967295) :
    ∃ y : Nat, y < big ∧ 1329227995784915872903807060280344576 < y ∧ Value.agg #[.int .u32 a0, .int .u32 a1, .int .u32 a2, .int .u32 v] = vN y := by
  refine ⟨(num4 a0 a1 a2 v).toNat, ?_, ?_, vN_shut a0 a1 a2 v _ ⟨h0.1, h0.2, h1.1, h1.2, h2.1, h2.2, by omega, hv2⟩ ?_⟩
  · unfold num4 big; omega
  · unfold num4; omega
  · unfold num4; omega

theorem SeedWrong_nat (s n a0 a1 a2 : Int) (u : Nat) (w : World) (hs1 : -9223372036854775808 ≤ s) (hs2 : s ≤ 9223372036854775807) (hn1 : -9223372036854775808 ≤ n) (hn2 : n ≤ 9223372036854775807) (h0 : 0 ≤ a0 ∧ a0 ≤ 4294967295) (h1 : 0 ≤ a1 ∧ a1 ≤ 4294967295) (h2 : 0 ≤ a2 ∧ a2 ≤ 4294967295) (hub : u < 4294967296) :
    Calls Try.prog 8 #[.int .i64 s, .int .i64 n, .agg #[.int .u32 a0, .int .u32 a1, .int .u32 a2, .int .u32 (u : Int)]] w fun e w' => e = .returned (.bool true) ∧ Below w.heap.size w w' := by
  obtain ⟨v, hor, hv1, hv2⟩ := or_u32 u hub
  obtain ⟨y, hy1, hy2, hyv⟩ := more_big a0 a1 a2 v h0 h1 h2 (by omega) (by omega)
  have hcb : ∀ w9, Calls Try.prog 20 #[.int .i64 1, .agg #[.int .u32 a0, .int .u32 a1, .int .u32 a2, .int .u32 (v : Int)]] w9 fun e w' => e = .returned (.tuple #[.int .i64 0, lit4 0 0 0 0, .int .i64 2]) ∧ Below w9.heap.size w9 w' := fun w9 => by
    rw [hyv]
    exact BN_big y w9 hy1 hy2
  have HC := Lib.hid hcb
  clear hcb hyv hy1 hy2 h0 h1 h2
  obtain ⟨q, hq⟩ : ∃ q, 1 + n % 2147483646 = q := ⟨_, rfl⟩
  have hq1 : 1 ≤ q := by omega
  have hq2 : q ≤ 2147483646 := by omega
  have HQ := Lib.hid hq
  clear hq
  go_enter Try.func8, Try.ntmps8
  go_wp2_with (go_at_call 11; refine stop_of' ?_)
  unfold Stop'
  refine (awake_true _).mono ?_
  rintro e w1 ⟨rfl, hb⟩
  obtain ⟨R, hB, -⟩ := rows1 hb
  clear hb
  by_cases hs : 1 ≤ s ∧ s ≤ 2147483646
  · obtain ⟨h1, h2⟩ := hs
    go_wp2_with (go_at_call 15; refine stop_of' ?_)
    unfold Stop'
    refine (Right_yes s _ h1 h2).mono ?_
    rintro e w' ⟨rfl, rfl⟩
    have hn3 : n < 0 ∨ (0 < n ∧ n < 2147483647) ∨ (0 < n ∧ 2147483647 < n) ∨ (0 ≤ n ∧ n ≤ 0) ∨ (2147483647 ≤ n ∧ n ≤ 2147483647) := by omega
    rcases hn3 with hn3 | ⟨hn3, hn4⟩ | ⟨hn3, hn4⟩ | ⟨hn3, hn4⟩ | ⟨hn3, hn4⟩
    · skip
      have hbad : (-s) < 1 ∨ 2147483646 < (-s) := by omega
      go_wp2_with (go_at_call 14; refine stop_of' ?_)
      unfold Stop'
      refine (Next_no (-s) _ hbad).mono ?_
      rintro e w' ⟨rfl, rfl⟩
      go_wp2_with (go_at_call 13; refine stop_of' ?_)
      unfold Stop'
      refine (Jump_bad (-s) n _ hbad).mono ?_
      rintro e w2 ⟨rfl, hb⟩
      replace R := rowZ R hb
      replace hB := callZ hB hb
      clear hb
      go_wp2_with (go_at_call 17; refine stop_of' ?_)
      unfold Stop'
      refine (Below_no (-s) 5 _ (by omega)).mono ?_
      rintro e w3 ⟨rfl, hb⟩
      replace R := rowZ R hb
      replace hB := callZ hB hb
      clear hb
      go_wp2_with (go_at_call 20; refine stop_of' ?_)
      unfold Stop'
      refine (BN_state (-s) 5 0 0 0 _ hbad).mono ?_
      rintro e w4 ⟨rfl, hb⟩
      replace R := rowZ R hb
      replace hB := callZ hB hb
      clear hb
      go_wp2_with (go_at_call 18; refine stop_of' ?_)
      unfold Stop'
      refine (Shuffle_bad (-s) _ _ _ _ hbad).mono ?_
      rintro e w5 ⟨rfl, hb⟩
      replace R := rowA (R.alloc _) hb
      replace hB := callA (hB.alloc hB.size _) hb
      clear hb
      go_wp2_with (go_at_call 17; refine stop_of' ?_)
      unfold Stop'
      refine (Below_no 1 _ _ (by omega)).mono ?_
      rintro e w6 ⟨rfl, hb⟩
      replace R := rowZ R hb
      replace hB := callZ hB hb
      clear hb
      go_wp2_with (go_at_call 17; refine stop_of' ?_)
      unfold Stop'
      refine (Below_no 1 _ _ (by omega)).mono ?_
      rintro e w7 ⟨rfl, hb⟩
      replace R := rowZ R hb
      replace hB := callZ hB hb
      clear hb
      go_wp2_with (go_at_call 20; refine stop_of' ?_)
      unfold Stop'
      refine (BN_zero _).mono ?_
      rintro e w8 ⟨rfl, hb⟩
      replace R := rowZ R hb
      replace hB := callZ hB hb
      clear hb
      obtain ⟨c0, c1, c2, c3, f0, f1, f2, f3⟩ := row4 R
      have z0 := R.lt
      go_wp2_with (go_at_call 20; refine stop_of' ?_)
      unfold Stop'
      refine (HC.out _).mono ?_
      rintro e w9 ⟨rfl, hb⟩
      first
        | (have hB9 : Below w.heap.size w w9 := (by with_reducible exact callA (hB.setCell (p := ⟨w.heap.size, 3, none⟩) (Nat.le_refl _) _) hb))
        | (have hB9 : Below w.heap.size w w9 := (by with_reducible exact callZ ((hB.alloc hB.size _).setCell (p := ⟨w.heap.size, 3, none⟩) (Nat.le_refl _) _) hb))
        | (have hB9 : Below w.heap.size w w9 := callA (hB.setCell (p := ⟨w.heap.size, 3, none⟩) (Nat.le_refl _) _) hb)
      clear hb hB R c0 c1 c2 c3 f0 f1 f2 f3 z0
      go_wp2_with fail
      have hR9 := Row.new (w9.alloc (.cells #[.int .u32 0, .int .u32 0, .int .u32 0, .int .u32 0] 42)) 27 #[.int .i64 2, .int .i64 2, .int .i64 2, .int .i64 2, .int .i64 2, .int .i64 2, .int .i64 2, .int .i64 2, .int .i64 2]
      rw [World.size_alloc] at hR9
      have hA9 := hB9.alloc hB9.size (.cells #[.int .u32 0, .int .u32 0, .int .u32 0, .int .u32 0] 42)
      have hBY := hA9.alloc hA9.size (.cells #[.int .i64 2, .int .i64 2, .int .i64 2, .int .i64 2, .int .i64 2, .int .i64 2, .int .i64 2, .int .i64 2, .int .i64 2] 27)
      obtain ⟨Y, hY⟩ : ∃ Y, (w9.alloc (.cells #[.int .u32 0, .int .u32 0, .int .u32 0, .int .u32 0] 42)).alloc (.cells #[.int .i64 2, .int .i64 2, .int .i64 2, .int .i64 2, .int .i64 2, .int .i64 2, .int .i64 2, .int .i64 2, .int .i64 2] 27) = Y := ⟨_, rfl⟩
      rw [hY] at hR9 hBY ⊢
      clear hY hA9
      have tok1 : True := trivial
      go_loopw [115] (fun i wr => ∃ k : Nat, i = .int .i64 k ∧ k ≤ 9 ∧ Y = wr) (fun i _ => 9 - (intOf i).toNat)
      case atStart => exact ⟨0, rfl, by omega, rfl⟩
      case round =>
        obtain ⟨k, rfl, hk, rfl⟩ := hrel
        by_cases hk9 : k < 9
        · have hcell : Y.cell? ⟨w9.heap.size + 1, k, none⟩ = some (.int .i64 2) := by rw [hR9.cell]; exact nine_get k hk9
          have hk9i : (k : Int) < 9 := by omega
          go_wp2_with fail
          go_roundw
          case rel => exact ⟨k + 1, by go_num, by omega, by trivial⟩
          case measure => simp [intOf]; omega
        · have hk9i : ¬ (k : Int) < 9 := by omega
          clear hk9 hk
          go_wp2_with (first
            | (go_at_call 12; refine (Of_any n _ hn1 hn2).mono ?_; rintro e w' ⟨rfl, rfl⟩; rw [HQ.out])
            | (go_at_call 15; have _t := tok1; clear tok1; refine (Right_no (-s) _ hbad).mono ?_; rintro e w' ⟨rfl, rfl⟩)
            | (go_at_call 15; refine (Right_yes q _ hq1 hq2).mono ?_; rintro e w' ⟨rfl, rfl⟩))
          go_ret
          exact ⟨rfl, hBY⟩
    · skip
      have hbad : (-s) < 1 ∨ 2147483646 < (-s) := by omega
      go_wp2_with (go_at_call 14; refine stop_of' ?_)
      unfold Stop'
      refine (Next_no (-s) _ hbad).mono ?_
      rintro e w' ⟨rfl, rfl⟩
      go_wp2_with (go_at_call 13; refine stop_of' ?_)
      unfold Stop'
      refine (Jump_bad (-s) n _ hbad).mono ?_
      rintro e w2 ⟨rfl, hb⟩
      replace R := rowZ R hb
      replace hB := callZ hB hb
      clear hb
      go_wp2_with (go_at_call 17; refine stop_of' ?_)
      unfold Stop'
      refine (Below_no (-s) 5 _ (by omega)).mono ?_
      rintro e w3 ⟨rfl, hb⟩
      replace R := rowZ R hb
      replace hB := callZ hB hb
      clear hb
      go_wp2_with (go_at_call 20; refine stop_of' ?_)
      unfold Stop'
      refine (BN_state (-s) 5 0 0 0 _ hbad).mono ?_
      rintro e w4 ⟨rfl, hb⟩
      replace R := rowZ R hb
      replace hB := callZ hB hb
      clear hb
      go_wp2_with (go_at_call 18; refine stop_of' ?_)
      unfold Stop'
      refine (Shuffle_bad (-s) _ _ _ _ hbad).mono ?_
      rintro e w5 ⟨rfl, hb⟩
      replace R := rowA (R.alloc _) hb
      replace hB := callA (hB.alloc hB.size _) hb
      clear hb
      go_wp2_with (go_at_call 17; refine stop_of' ?_)
      unfold Stop'
      refine (Below_no 1 _ _ (by omega)).mono ?_
      rintro e w6 ⟨rfl, hb⟩
      replace R := rowZ R hb
      replace hB := callZ hB hb
      clear hb
      go_wp2_with (go_at_call 17; refine stop_of' ?_)
      unfold Stop'
      refine (Below_no 1 _ _ (by omega)).mono ?_
      rintro e w7 ⟨rfl, hb⟩
      replace R := rowZ R hb
      replace hB := callZ hB hb
      clear hb
      go_wp2_with (go_at_call 20; refine stop_of' ?_)
      unfold Stop'
      refine (BN_zero _).mono ?_
      rintro e w8 ⟨rfl, hb⟩
      replace R := rowZ R hb
      replace hB := callZ hB hb
      clear hb
      obtain ⟨c0, c1, c2, c3, f0, f1, f2, f3⟩ := row4 R
      have z0 := R.lt
      go_wp2_with (go_at_call 20; refine stop_of' ?_)
      unfold Stop'
      refine (HC.out _).mono ?_
      rintro e w9 ⟨rfl, hb⟩
      first
        | (have hB9 : Below w.heap.size w w9 := (by with_reducible exact callA (hB.setCell (p := ⟨w.heap.size, 3, none⟩) (Nat.le_refl _) _) hb))
        | (have hB9 : Below w.heap.size w w9 := (by with_reducible exact callZ ((hB.alloc hB.size _).setCell (p := ⟨w.heap.size, 3, none⟩) (Nat.le_refl _) _) hb))
        | (have hB9 : Below w.heap.size w w9 := callA (hB.setCell (p := ⟨w.heap.size, 3, none⟩) (Nat.le_refl _) _) hb)
      clear hb hB R c0 c1 c2 c3 f0 f1 f2 f3 z0
      go_wp2_with fail
      have hR9 := Row.new (w9.alloc (.cells #[.int .u32 0, .int .u32 0, .int .u32 0, .int .u32 0] 42)) 27 #[.int .i64 2, .int .i64 2, .int .i64 2, .int .i64 2, .int .i64 2, .int .i64 2, .int .i64 2, .int .i64 2, .int .i64 2]
      rw [World.size_alloc] at hR9
      have hA9 := hB9.alloc hB9.size (.cells #[.int .u32 0, .int .u32 0, .int .u32 0, .int .u32 0] 42)
      have hBY := hA9.alloc hA9.size (.cells #[.int .i64 2, .int .i64 2, .int .i64 2, .int .i64 2, .int .i64 2, .int .i64 2, .int .i64 2, .int .i64 2, .int .i64 2] 27)
      obtain ⟨Y, hY⟩ : ∃ Y, (w9.alloc (.cells #[.int .u32 0, .int .u32 0, .int .u32 0, .int .u32 0] 42)).alloc (.cells #[.int .i64 2, .int .i64 2, .int .i64 2, .int .i64 2, .int .i64 2, .int .i64 2, .int .i64 2, .int .i64 2, .int .i64 2] 27) = Y := ⟨_, rfl⟩
      rw [hY] at hR9 hBY ⊢
      clear hY hA9
      have tok1 : True := trivial
      go_loopw [115] (fun i wr => ∃ k : Nat, i = .int .i64 k ∧ k ≤ 9 ∧ Y = wr) (fun i _ => 9 - (intOf i).toNat)
      case atStart => exact ⟨0, rfl, by omega, rfl⟩
      case round =>
        obtain ⟨k, rfl, hk, rfl⟩ := hrel
        by_cases hk9 : k < 9
        · have hcell : Y.cell? ⟨w9.heap.size + 1, k, none⟩ = some (.int .i64 2) := by rw [hR9.cell]; exact nine_get k hk9
          have hk9i : (k : Int) < 9 := by omega
          go_wp2_with fail
          go_roundw
          case rel => exact ⟨k + 1, by go_num, by omega, by trivial⟩
          case measure => simp [intOf]; omega
        · have hk9i : ¬ (k : Int) < 9 := by omega
          clear hk9 hk
          go_wp2_with (first
            | (go_at_call 12; refine (Of_any n _ hn1 hn2).mono ?_; rintro e w' ⟨rfl, rfl⟩; rw [HQ.out])
            | (go_at_call 15; have _t := tok1; clear tok1; refine (Right_no (-s) _ hbad).mono ?_; rintro e w' ⟨rfl, rfl⟩)
            | (go_at_call 15; refine (Right_yes q _ hq1 hq2).mono ?_; rintro e w' ⟨rfl, rfl⟩))
          go_ret
          exact ⟨rfl, hBY⟩
    · skip
      have hbad : (-s) < 1 ∨ 2147483646 < (-s) := by omega
      go_wp2_with (go_at_call 14; refine stop_of' ?_)
      unfold Stop'
      refine (Next_no (-s) _ hbad).mono ?_
      rintro e w' ⟨rfl, rfl⟩
      go_wp2_with (go_at_call 13; refine stop_of' ?_)
      unfold Stop'
      refine (Jump_bad (-s) n _ hbad).mono ?_
      rintro e w2 ⟨rfl, hb⟩
      replace R := rowZ R hb
      replace hB := callZ hB hb
      clear hb
      go_wp2_with (go_at_call 17; refine stop_of' ?_)
      unfold Stop'
      refine (Below_no (-s) 5 _ (by omega)).mono ?_
      rintro e w3 ⟨rfl, hb⟩
      replace R := rowZ R hb
      replace hB := callZ hB hb
      clear hb
      go_wp2_with (go_at_call 20; refine stop_of' ?_)
      unfold Stop'
      refine (BN_state (-s) 5 0 0 0 _ hbad).mono ?_
      rintro e w4 ⟨rfl, hb⟩
      replace R := rowZ R hb
      replace hB := callZ hB hb
      clear hb
      go_wp2_with (go_at_call 18; refine stop_of' ?_)
      unfold Stop'
      refine (Shuffle_bad (-s) _ _ _ _ hbad).mono ?_
      rintro e w5 ⟨rfl, hb⟩
      replace R := rowA (R.alloc _) hb
      replace hB := callA (hB.alloc hB.size _) hb
      clear hb
      go_wp2_with (go_at_call 17; refine stop_of' ?_)
      unfold Stop'
      refine (Below_no 1 _ _ (by omega)).mono ?_
      rintro e w6 ⟨rfl, hb⟩
      replace R := rowZ R hb
      replace hB := callZ hB hb
      clear hb
      go_wp2_with (go_at_call 17; refine stop_of' ?_)
      unfold Stop'
      refine (Below_no 1 _ _ (by omega)).mono ?_
      rintro e w7 ⟨rfl, hb⟩
      replace R := rowZ R hb
      replace hB := callZ hB hb
      clear hb
      go_wp2_with (go_at_call 20; refine stop_of' ?_)
      unfold Stop'
      refine (BN_zero _).mono ?_
      rintro e w8 ⟨rfl, hb⟩
      replace R := rowZ R hb
      replace hB := callZ hB hb
      clear hb
      obtain ⟨c0, c1, c2, c3, f0, f1, f2, f3⟩ := row4 R
      have z0 := R.lt
      go_wp2_with (go_at_call 20; refine stop_of' ?_)
      unfold Stop'
      refine (HC.out _).mono ?_
      rintro e w9 ⟨rfl, hb⟩
      first
        | (have hB9 : Below w.heap.size w w9 := (by with_reducible exact callA (hB.setCell (p := ⟨w.heap.size, 3, none⟩) (Nat.le_refl _) _) hb))
        | (have hB9 : Below w.heap.size w w9 := (by with_reducible exact callZ ((hB.alloc hB.size _).setCell (p := ⟨w.heap.size, 3, none⟩) (Nat.le_refl _) _) hb))
        | (have hB9 : Below w.heap.size w w9 := callA (hB.setCell (p := ⟨w.heap.size, 3, none⟩) (Nat.le_refl _) _) hb)
      clear hb hB R c0 c1 c2 c3 f0 f1 f2 f3 z0
      go_wp2_with fail
      have hR9 := Row.new (w9.alloc (.cells #[.int .u32 0, .int .u32 0, .int .u32 0, .int .u32 0] 42)) 27 #[.int .i64 2, .int .i64 2, .int .i64 2, .int .i64 2, .int .i64 2, .int .i64 2, .int .i64 2, .int .i64 2, .int .i64 2]
      rw [World.size_alloc] at hR9
      have hA9 := hB9.alloc hB9.size (.cells #[.int .u32 0, .int .u32 0, .int .u32 0, .int .u32 0] 42)
      have hBY := hA9.alloc hA9.size (.cells #[.int .i64 2, .int .i64 2, .int .i64 2, .int .i64 2, .int .i64 2, .int .i64 2, .int .i64 2, .int .i64 2, .int .i64 2] 27)
      obtain ⟨Y, hY⟩ : ∃ Y, (w9.alloc (.cells #[.int .u32 0, .int .u32 0, .int .u32 0, .int .u32 0] 42)).alloc (.cells #[.int .i64 2, .int .i64 2, .int .i64 2, .int .i64 2, .int .i64 2, .int .i64 2, .int .i64 2, .int .i64 2, .int .i64 2] 27) = Y := ⟨_, rfl⟩
      rw [hY] at hR9 hBY ⊢
      clear hY hA9
      have tok1 : True := trivial
      go_loopw [115] (fun i wr => ∃ k : Nat, i = .int .i64 k ∧ k ≤ 9 ∧ Y = wr) (fun i _ => 9 - (intOf i).toNat)
      case atStart => exact ⟨0, rfl, by omega, rfl⟩
      case round =>
        obtain ⟨k, rfl, hk, rfl⟩ := hrel
        by_cases hk9 : k < 9
        · have hcell : Y.cell? ⟨w9.heap.size + 1, k, none⟩ = some (.int .i64 2) := by rw [hR9.cell]; exact nine_get k hk9
          have hk9i : (k : Int) < 9 := by omega
          go_wp2_with fail
          go_roundw
          case rel => exact ⟨k + 1, by go_num, by omega, by trivial⟩
          case measure => simp [intOf]; omega
        · have hk9i : ¬ (k : Int) < 9 := by omega
          clear hk9 hk
          go_wp2_with (first
            | (go_at_call 12; refine (Of_any n _ hn1 hn2).mono ?_; rintro e w' ⟨rfl, rfl⟩; rw [HQ.out])
            | (go_at_call 15; have _t := tok1; clear tok1; refine (Right_no (-s) _ hbad).mono ?_; rintro e w' ⟨rfl, rfl⟩)
            | (go_at_call 15; refine (Right_yes q _ hq1 hq2).mono ?_; rintro e w' ⟨rfl, rfl⟩))
          go_ret
          exact ⟨rfl, hBY⟩
    · skip
      have hbad : (-s) < 1 ∨ 2147483646 < (-s) := by omega
      go_wp2_with (go_at_call 14; refine stop_of' ?_)
      unfold Stop'
      refine (Next_no (-s) _ hbad).mono ?_
      rintro e w' ⟨rfl, rfl⟩
      go_wp2_with (go_at_call 13; refine stop_of' ?_)
      unfold Stop'
      refine (Jump_bad (-s) n _ hbad).mono ?_
      rintro e w2 ⟨rfl, hb⟩
      replace R := rowZ R hb
      replace hB := callZ hB hb
      clear hb
      go_wp2_with (go_at_call 17; refine stop_of' ?_)
      unfold Stop'
      refine (Below_no (-s) 5 _ (by omega)).mono ?_
      rintro e w3 ⟨rfl, hb⟩
      replace R := rowZ R hb
      replace hB := callZ hB hb
      clear hb
      go_wp2_with (go_at_call 20; refine stop_of' ?_)
      unfold Stop'
      refine (BN_state (-s) 5 0 0 0 _ hbad).mono ?_
      rintro e w4 ⟨rfl, hb⟩
      replace R := rowZ R hb
      replace hB := callZ hB hb
      clear hb
      go_wp2_with (go_at_call 18; refine stop_of' ?_)
      unfold Stop'
      refine (Shuffle_bad (-s) _ _ _ _ hbad).mono ?_
      rintro e w5 ⟨rfl, hb⟩
      replace R := rowA (R.alloc _) hb
      replace hB := callA (hB.alloc hB.size _) hb
      clear hb
      go_wp2_with (go_at_call 17; refine stop_of' ?_)
      unfold Stop'
      refine (Below_no 1 _ _ (by omega)).mono ?_
      rintro e w6 ⟨rfl, hb⟩
      replace R := rowZ R hb
      replace hB := callZ hB hb
      clear hb
      go_wp2_with (go_at_call 17; refine stop_of' ?_)
      unfold Stop'
      refine (Below_no 1 _ _ (by omega)).mono ?_
      rintro e w7 ⟨rfl, hb⟩
      replace R := rowZ R hb
      replace hB := callZ hB hb
      clear hb
      go_wp2_with (go_at_call 20; refine stop_of' ?_)
      unfold Stop'
      refine (BN_zero _).mono ?_
      rintro e w8 ⟨rfl, hb⟩
      replace R := rowZ R hb
      replace hB := callZ hB hb
      clear hb
      obtain ⟨c0, c1, c2, c3, f0, f1, f2, f3⟩ := row4 R
      have z0 := R.lt
      go_wp2_with (go_at_call 20; refine stop_of' ?_)
      unfold Stop'
      refine (HC.out _).mono ?_
      rintro e w9 ⟨rfl, hb⟩
      first
        | (have hB9 : Below w.heap.size w w9 := (by with_reducible exact callA (hB.setCell (p := ⟨w.heap.size, 3, none⟩) (Nat.le_refl _) _) hb))
        | (have hB9 : Below w.heap.size w w9 := (by with_reducible exact callZ ((hB.alloc hB.size _).setCell (p := ⟨w.heap.size, 3, none⟩) (Nat.le_refl _) _) hb))
        | (have hB9 : Below w.heap.size w w9 := callA (hB.setCell (p := ⟨w.heap.size, 3, none⟩) (Nat.le_refl _) _) hb)
      clear hb hB R c0 c1 c2 c3 f0 f1 f2 f3 z0
      go_wp2_with fail
      have hR9 := Row.new (w9.alloc (.cells #[.int .u32 0, .int .u32 0, .int .u32 0, .int .u32 0] 42)) 27 #[.int .i64 2, .int .i64 2, .int .i64 2, .int .i64 2, .int .i64 2, .int .i64 2, .int .i64 2, .int .i64 2, .int .i64 2]
      rw [World.size_alloc] at hR9
      have hA9 := hB9.alloc hB9.size (.cells #[.int .u32 0, .int .u32 0, .int .u32 0, .int .u32 0] 42)
      have hBY := hA9.alloc hA9.size (.cells #[.int .i64 2, .int .i64 2, .int .i64 2, .int .i64 2, .int .i64 2, .int .i64 2, .int .i64 2, .int .i64 2, .int .i64 2] 27)
      obtain ⟨Y, hY⟩ : ∃ Y, (w9.alloc (.cells #[.int .u32 0, .int .u32 0, .int .u32 0, .int .u32 0] 42)).alloc (.cells #[.int .i64 2, .int .i64 2, .int .i64 2, .int .i64 2, .int .i64 2, .int .i64 2, .int .i64 2, .int .i64 2, .int .i64 2] 27) = Y := ⟨_, rfl⟩
      rw [hY] at hR9 hBY ⊢
      clear hY hA9
      have tok1 : True := trivial
      go_loopw [115] (fun i wr => ∃ k : Nat, i = .int .i64 k ∧ k ≤ 9 ∧ Y = wr) (fun i _ => 9 - (intOf i).toNat)
      case atStart => exact ⟨0, rfl, by omega, rfl⟩
      case round =>
        obtain ⟨k, rfl, hk, rfl⟩ := hrel
        by_cases hk9 : k < 9
        · have hcell : Y.cell? ⟨w9.heap.size + 1, k, none⟩ = some (.int .i64 2) := by rw [hR9.cell]; exact nine_get k hk9
          have hk9i : (k : Int) < 9 := by omega
          go_wp2_with fail
          go_roundw
          case rel => exact ⟨k + 1, by go_num, by omega, by trivial⟩
          case measure => simp [intOf]; omega
        · have hk9i : ¬ (k : Int) < 9 := by omega
          clear hk9 hk
          go_wp2_with (first
            | (go_at_call 12; refine (Of_any n _ hn1 hn2).mono ?_; rintro e w' ⟨rfl, rfl⟩; rw [HQ.out])
            | (go_at_call 15; have _t := tok1; clear tok1; refine (Right_no (-s) _ hbad).mono ?_; rintro e w' ⟨rfl, rfl⟩)
            | (go_at_call 15; refine (Right_yes q _ hq1 hq2).mono ?_; rintro e w' ⟨rfl, rfl⟩))
          go_ret
          exact ⟨rfl, hBY⟩
    · skip
      have hbad : (-s) < 1 ∨ 2147483646 < (-s) := by omega
      go_wp2_with (go_at_call 14; refine stop_of' ?_)
      unfold Stop'
      refine (Next_no (-s) _ hbad).mono ?_
      rintro e w' ⟨rfl, rfl⟩
      go_wp2_with (go_at_call 13; refine stop_of' ?_)
      unfold Stop'
      refine (Jump_bad (-s) n _ hbad).mono ?_
      rintro e w2 ⟨rfl, hb⟩
      replace R := rowZ R hb
      replace hB := callZ hB hb
      clear hb
      go_wp2_with (go_at_call 17; refine stop_of' ?_)
      unfold Stop'
      refine (Below_no (-s) 5 _ (by omega)).mono ?_
      rintro e w3 ⟨rfl, hb⟩
      replace R := rowZ R hb
      replace hB := callZ hB hb
      clear hb
      go_wp2_with (go_at_call 20; refine stop_of' ?_)
      unfold Stop'
      refine (BN_state (-s) 5 0 0 0 _ hbad).mono ?_
      rintro e w4 ⟨rfl, hb⟩
      replace R := rowZ R hb
      replace hB := callZ hB hb
      clear hb
      go_wp2_with (go_at_call 18; refine stop_of' ?_)
      unfold Stop'
      refine (Shuffle_bad (-s) _ _ _ _ hbad).mono ?_
      rintro e w5 ⟨rfl, hb⟩
      replace R := rowA (R.alloc _) hb
      replace hB := callA (hB.alloc hB.size _) hb
      clear hb
      go_wp2_with (go_at_call 17; refine stop_of' ?_)
      unfold Stop'
      refine (Below_no 1 _ _ (by omega)).mono ?_
      rintro e w6 ⟨rfl, hb⟩
      replace R := rowZ R hb
      replace hB := callZ hB hb
      clear hb
      go_wp2_with (go_at_call 17; refine stop_of' ?_)
      unfold Stop'
      refine (Below_no 1 _ _ (by omega)).mono ?_
      rintro e w7 ⟨rfl, hb⟩
      replace R := rowZ R hb
      replace hB := callZ hB hb
      clear hb
      go_wp2_with (go_at_call 20; refine stop_of' ?_)
      unfold Stop'
      refine (BN_zero _).mono ?_
      rintro e w8 ⟨rfl, hb⟩
      replace R := rowZ R hb
      replace hB := callZ hB hb
      clear hb
      obtain ⟨c0, c1, c2, c3, f0, f1, f2, f3⟩ := row4 R
      have z0 := R.lt
      go_wp2_with (go_at_call 20; refine stop_of' ?_)
      unfold Stop'
      refine (HC.out _).mono ?_
      rintro e w9 ⟨rfl, hb⟩
      first
        | (have hB9 : Below w.heap.size w w9 := (by with_reducible exact callA (hB.setCell (p := ⟨w.heap.size, 3, none⟩) (Nat.le_refl _) _) hb))
        | (have hB9 : Below w.heap.size w w9 := (by with_reducible exact callZ ((hB.alloc hB.size _).setCell (p := ⟨w.heap.size, 3, none⟩) (Nat.le_refl _) _) hb))
        | (have hB9 : Below w.heap.size w w9 := callA (hB.setCell (p := ⟨w.heap.size, 3, none⟩) (Nat.le_refl _) _) hb)
      clear hb hB R c0 c1 c2 c3 f0 f1 f2 f3 z0
      go_wp2_with fail
      have hR9 := Row.new (w9.alloc (.cells #[.int .u32 0, .int .u32 0, .int .u32 0, .int .u32 0] 42)) 27 #[.int .i64 2, .int .i64 2, .int .i64 2, .int .i64 2, .int .i64 2, .int .i64 2, .int .i64 2, .int .i64 2, .int .i64 2]
      rw [World.size_alloc] at hR9
      have hA9 := hB9.alloc hB9.size (.cells #[.int .u32 0, .int .u32 0, .int .u32 0, .int .u32 0] 42)
      have hBY := hA9.alloc hA9.size (.cells #[.int .i64 2, .int .i64 2, .int .i64 2, .int .i64 2, .int .i64 2, .int .i64 2, .int .i64 2, .int .i64 2, .int .i64 2] 27)
      obtain ⟨Y, hY⟩ : ∃ Y, (w9.alloc (.cells #[.int .u32 0, .int .u32 0, .int .u32 0, .int .u32 0] 42)).alloc (.cells #[.int .i64 2, .int .i64 2, .int .i64 2, .int .i64 2, .int .i64 2, .int .i64 2, .int .i64 2, .int .i64 2, .int .i64 2] 27) = Y := ⟨_, rfl⟩
      rw [hY] at hR9 hBY ⊢
      clear hY hA9
      have tok1 : True := trivial
      go_loopw [115] (fun i wr => ∃ k : Nat, i = .int .i64 k ∧ k ≤ 9 ∧ Y = wr) (fun i _ => 9 - (intOf i).toNat)
      case atStart => exact ⟨0, rfl, by omega, rfl⟩
      case round =>
        obtain ⟨k, rfl, hk, rfl⟩ := hrel
        by_cases hk9 : k < 9
        · have hcell : Y.cell? ⟨w9.heap.size + 1, k, none⟩ = some (.int .i64 2) := by rw [hR9.cell]; exact nine_get k hk9
          have hk9i : (k : Int) < 9 := by omega
          go_wp2_with fail
          go_roundw
          case rel => exact ⟨k + 1, by go_num, by omega, by trivial⟩
          case measure => simp [intOf]; omega
        · have hk9i : ¬ (k : Int) < 9 := by omega
          clear hk9 hk
          go_wp2_with (first
            | (go_at_call 12; refine (Of_any n _ hn1 hn2).mono ?_; rintro e w' ⟨rfl, rfl⟩; rw [HQ.out])
            | (go_at_call 15; have _t := tok1; clear tok1; refine (Right_no (-s) _ hbad).mono ?_; rintro e w' ⟨rfl, rfl⟩)
            | (go_at_call 15; refine (Right_yes q _ hq1 hq2).mono ?_; rintro e w' ⟨rfl, rfl⟩))
          go_ret
          exact ⟨rfl, hBY⟩
  · have hbad0 : s < 1 ∨ 2147483646 < s := by omega
    clear hs
    go_wp2_with (go_at_call 15; refine stop_of' ?_)
    unfold Stop'
    refine (Right_no s _ hbad0).mono ?_
    rintro e w' ⟨rfl, rfl⟩
    have hn3 : n < 0 ∨ (0 < n ∧ n < 2147483647) ∨ (0 < n ∧ 2147483647 < n) ∨ (0 ≤ n ∧ n ≤ 0) ∨ (2147483647 ≤ n ∧ n ≤ 2147483647) := by omega
    rcases hn3 with hn3 | ⟨hn3, hn4⟩ | ⟨hn3, hn4⟩ | ⟨hn3, hn4⟩ | ⟨hn3, hn4⟩
    · skip
      have hbad : s < 1 ∨ 2147483646 < s := by omega
      go_wp2_with (go_at_call 14; refine stop_of' ?_)
      unfold Stop'
      refine (Next_no s _ hbad).mono ?_
      rintro e w' ⟨rfl, rfl⟩
      go_wp2_with (go_at_call 13; refine stop_of' ?_)
      unfold Stop'
      refine (Jump_bad s n _ hbad).mono ?_
      rintro e w2 ⟨rfl, hb⟩
      replace R := rowZ R hb
      replace hB := callZ hB hb
      clear hb
      go_wp2_with (go_at_call 17; refine stop_of' ?_)
      unfold Stop'
      refine (Below_no s 5 _ (by omega)).mono ?_
      rintro e w3 ⟨rfl, hb⟩
      replace R := rowZ R hb
      replace hB := callZ hB hb
      clear hb
      go_wp2_with (go_at_call 20; refine stop_of' ?_)
      unfold Stop'
      refine (BN_state s 5 0 0 0 _ hbad).mono ?_
      rintro e w4 ⟨rfl, hb⟩
      replace R := rowZ R hb
      replace hB := callZ hB hb
      clear hb
      go_wp2_with (go_at_call 18; refine stop_of' ?_)
      unfold Stop'
      refine (Shuffle_bad s _ _ _ _ hbad).mono ?_
      rintro e w5 ⟨rfl, hb⟩
      replace R := rowA (R.alloc _) hb
      replace hB := callA (hB.alloc hB.size _) hb
      clear hb
      go_wp2_with (go_at_call 17; refine stop_of' ?_)
      unfold Stop'
      refine (Below_no 1 _ _ (by omega)).mono ?_
      rintro e w6 ⟨rfl, hb⟩
      replace R := rowZ R hb
      replace hB := callZ hB hb
      clear hb
      go_wp2_with (go_at_call 17; refine stop_of' ?_)
      unfold Stop'
      refine (Below_no 1 _ _ (by omega)).mono ?_
      rintro e w7 ⟨rfl, hb⟩
      replace R := rowZ R hb
      replace hB := callZ hB hb
      clear hb
      go_wp2_with (go_at_call 20; refine stop_of' ?_)
      unfold Stop'
      refine (BN_zero _).mono ?_
      rintro e w8 ⟨rfl, hb⟩
      replace R := rowZ R hb
      replace hB := callZ hB hb
      clear hb
      obtain ⟨c0, c1, c2, c3, f0, f1, f2, f3⟩ := row4 R
      have z0 := R.lt
      go_wp2_with (go_at_call 20; refine stop_of' ?_)
      unfold Stop'
      refine (HC.out _).mono ?_
      rintro e w9 ⟨rfl, hb⟩
      first
        | (have hB9 : Below w.heap.size w w9 := (by with_reducible exact callA (hB.setCell (p := ⟨w.heap.size, 3, none⟩) (Nat.le_refl _) _) hb))
        | (have hB9 : Below w.heap.size w w9 := (by with_reducible exact callZ ((hB.alloc hB.size _).setCell (p := ⟨w.heap.size, 3, none⟩) (Nat.le_refl _) _) hb))
        | (have hB9 : Below w.heap.size w w9 := callA (hB.setCell (p := ⟨w.heap.size, 3, none⟩) (Nat.le_refl _) _) hb)
      clear hb hB R c0 c1 c2 c3 f0 f1 f2 f3 z0
      go_wp2_with fail
      have hR9 := Row.new (w9.alloc (.cells #[.int .u32 0, .int .u32 0, .int .u32 0, .int .u32 0] 42)) 27 #[.int .i64 2, .int .i64 2, .int .i64 2, .int .i64 2, .int .i64 2, .int .i64 2, .int .i64 2, .int .i64 2, .int .i64 2]
      rw [World.size_alloc] at hR9
      have hA9 := hB9.alloc hB9.size (.cells #[.int .u32 0, .int .u32 0, .int .u32 0, .int .u32 0] 42)
      have hBY := hA9.alloc hA9.size (.cells #[.int .i64 2, .int .i64 2, .int .i64 2, .int .i64 2, .int .i64 2, .int .i64 2, .int .i64 2, .int .i64 2, .int .i64 2] 27)
      obtain ⟨Y, hY⟩ : ∃ Y, (w9.alloc (.cells #[.int .u32 0, .int .u32 0, .int .u32 0, .int .u32 0] 42)).alloc (.cells #[.int .i64 2, .int .i64 2, .int .i64 2, .int .i64 2, .int .i64 2, .int .i64 2, .int .i64 2, .int .i64 2, .int .i64 2] 27) = Y := ⟨_, rfl⟩
      rw [hY] at hR9 hBY ⊢
      clear hY hA9
      have tok1 : True := trivial
      go_loopw [115] (fun i wr => ∃ k : Nat, i = .int .i64 k ∧ k ≤ 9 ∧ Y = wr) (fun i _ => 9 - (intOf i).toNat)
      case atStart => exact ⟨0, rfl, by omega, rfl⟩
      case round =>
        obtain ⟨k, rfl, hk, rfl⟩ := hrel
        by_cases hk9 : k < 9
        · have hcell : Y.cell? ⟨w9.heap.size + 1, k, none⟩ = some (.int .i64 2) := by rw [hR9.cell]; exact nine_get k hk9
          have hk9i : (k : Int) < 9 := by omega
          go_wp2_with fail
          go_roundw
          case rel => exact ⟨k + 1, by go_num, by omega, by trivial⟩
          case measure => simp [intOf]; omega
        · have hk9i : ¬ (k : Int) < 9 := by omega
          clear hk9 hk
          go_wp2_with (first
            | (go_at_call 12; refine (Of_any n _ hn1 hn2).mono ?_; rintro e w' ⟨rfl, rfl⟩; rw [HQ.out])
            | (go_at_call 15; have _t := tok1; clear tok1; refine (Right_no s _ hbad).mono ?_; rintro e w' ⟨rfl, rfl⟩)
            | (go_at_call 15; refine (Right_yes q _ hq1 hq2).mono ?_; rintro e w' ⟨rfl, rfl⟩))
          go_ret
          exact ⟨rfl, hBY⟩
    · skip
      have hbad : s < 1 ∨ 2147483646 < s := by omega
      go_wp2_with (go_at_call 14; refine stop_of' ?_)
      unfold Stop'
      refine (Next_no s _ hbad).mono ?_
      rintro e w' ⟨rfl, rfl⟩
      go_wp2_with (go_at_call 13; refine stop_of' ?_)
      unfold Stop'
      refine (Jump_bad s n _ hbad).mono ?_
      rintro e w2 ⟨rfl, hb⟩
      replace R := rowZ R hb
      replace hB := callZ hB hb
      clear hb
      go_wp2_with (go_at_call 17; refine stop_of' ?_)
      unfold Stop'
      refine (Below_no s 5 _ (by omega)).mono ?_
      rintro e w3 ⟨rfl, hb⟩
      replace R := rowZ R hb
      replace hB := callZ hB hb
      clear hb
      go_wp2_with (go_at_call 20; refine stop_of' ?_)
      unfold Stop'
      refine (BN_state s 5 0 0 0 _ hbad).mono ?_
      rintro e w4 ⟨rfl, hb⟩
      replace R := rowZ R hb
      replace hB := callZ hB hb
      clear hb
      go_wp2_with (go_at_call 18; refine stop_of' ?_)
      unfold Stop'
      refine (Shuffle_bad s _ _ _ _ hbad).mono ?_
      rintro e w5 ⟨rfl, hb⟩
      replace R := rowA (R.alloc _) hb
      replace hB := callA (hB.alloc hB.size _) hb
      clear hb
      go_wp2_with (go_at_call 17; refine stop_of' ?_)
      unfold Stop'
      refine (Below_no 1 _ _ (by omega)).mono ?_
      rintro e w6 ⟨rfl, hb⟩
      replace R := rowZ R hb
      replace hB := callZ hB hb
      clear hb
      go_wp2_with (go_at_call 17; refine stop_of' ?_)
      unfold Stop'
      refine (Below_no 1 _ _ (by omega)).mono ?_
      rintro e w7 ⟨rfl, hb⟩
      replace R := rowZ R hb
      replace hB := callZ hB hb
      clear hb
      go_wp2_with (go_at_call 20; refine stop_of' ?_)
      unfold Stop'
      refine (BN_zero _).mono ?_
      rintro e w8 ⟨rfl, hb⟩
      replace R := rowZ R hb
      replace hB := callZ hB hb
      clear hb
      obtain ⟨c0, c1, c2, c3, f0, f1, f2, f3⟩ := row4 R
      have z0 := R.lt
      go_wp2_with (go_at_call 20; refine stop_of' ?_)
      unfold Stop'
      refine (HC.out _).mono ?_
      rintro e w9 ⟨rfl, hb⟩
      first
        | (have hB9 : Below w.heap.size w w9 := (by with_reducible exact callA (hB.setCell (p := ⟨w.heap.size, 3, none⟩) (Nat.le_refl _) _) hb))
        | (have hB9 : Below w.heap.size w w9 := (by with_reducible exact callZ ((hB.alloc hB.size _).setCell (p := ⟨w.heap.size, 3, none⟩) (Nat.le_refl _) _) hb))
        | (have hB9 : Below w.heap.size w w9 := callA (hB.setCell (p := ⟨w.heap.size, 3, none⟩) (Nat.le_refl _) _) hb)
      clear hb hB R c0 c1 c2 c3 f0 f1 f2 f3 z0
      go_wp2_with fail
      have hR9 := Row.new (w9.alloc (.cells #[.int .u32 0, .int .u32 0, .int .u32 0, .int .u32 0] 42)) 27 #[.int .i64 2, .int .i64 2, .int .i64 2, .int .i64 2, .int .i64 2, .int .i64 2, .int .i64 2, .int .i64 2, .int .i64 2]
      rw [World.size_alloc] at hR9
      have hA9 := hB9.alloc hB9.size (.cells #[.int .u32 0, .int .u32 0, .int .u32 0, .int .u32 0] 42)
      have hBY := hA9.alloc hA9.size (.cells #[.int .i64 2, .int .i64 2, .int .i64 2, .int .i64 2, .int .i64 2, .int .i64 2, .int .i64 2, .int .i64 2, .int .i64 2] 27)
      obtain ⟨Y, hY⟩ : ∃ Y, (w9.alloc (.cells #[.int .u32 0, .int .u32 0, .int .u32 0, .int .u32 0] 42)).alloc (.cells #[.int .i64 2, .int .i64 2, .int .i64 2, .int .i64 2, .int .i64 2, .int .i64 2, .int .i64 2, .int .i64 2, .int .i64 2] 27) = Y := ⟨_, rfl⟩
      rw [hY] at hR9 hBY ⊢
      clear hY hA9
      have tok1 : True := trivial
      go_loopw [115] (fun i wr => ∃ k : Nat, i = .int .i64 k ∧ k ≤ 9 ∧ Y = wr) (fun i _ => 9 - (intOf i).toNat)
      case atStart => exact ⟨0, rfl, by omega, rfl⟩
      case round =>
        obtain ⟨k, rfl, hk, rfl⟩ := hrel
        by_cases hk9 : k < 9
        · have hcell : Y.cell? ⟨w9.heap.size + 1, k, none⟩ = some (.int .i64 2) := by rw [hR9.cell]; exact nine_get k hk9
          have hk9i : (k : Int) < 9 := by omega
          go_wp2_with fail
          go_roundw
          case rel => exact ⟨k + 1, by go_num, by omega, by trivial⟩
          case measure => simp [intOf]; omega
        · have hk9i : ¬ (k : Int) < 9 := by omega
          clear hk9 hk
          go_wp2_with (first
            | (go_at_call 12; refine (Of_any n _ hn1 hn2).mono ?_; rintro e w' ⟨rfl, rfl⟩; rw [HQ.out])
            | (go_at_call 15; have _t := tok1; clear tok1; refine (Right_no s _ hbad).mono ?_; rintro e w' ⟨rfl, rfl⟩)
            | (go_at_call 15; refine (Right_yes q _ hq1 hq2).mono ?_; rintro e w' ⟨rfl, rfl⟩))
          go_ret
          exact ⟨rfl, hBY⟩
    · skip
      have hbad : s < 1 ∨ 2147483646 < s := by omega
      go_wp2_with (go_at_call 14; refine stop_of' ?_)
      unfold Stop'
      refine (Next_no s _ hbad).mono ?_
      rintro e w' ⟨rfl, rfl⟩
      go_wp2_with (go_at_call 13; refine stop_of' ?_)
      unfold Stop'
      refine (Jump_bad s n _ hbad).mono ?_
      rintro e w2 ⟨rfl, hb⟩
      replace R := rowZ R hb
      replace hB := callZ hB hb
      clear hb
      go_wp2_with (go_at_call 17; refine stop_of' ?_)
      unfold Stop'
      refine (Below_no s 5 _ (by omega)).mono ?_
      rintro e w3 ⟨rfl, hb⟩
      replace R := rowZ R hb
      replace hB := callZ hB hb
      clear hb
      go_wp2_with (go_at_call 20; refine stop_of' ?_)
      unfold Stop'
      refine (BN_state s 5 0 0 0 _ hbad).mono ?_
      rintro e w4 ⟨rfl, hb⟩
      replace R := rowZ R hb
      replace hB := callZ hB hb
      clear hb
      go_wp2_with (go_at_call 18; refine stop_of' ?_)
      unfold Stop'
      refine (Shuffle_bad s _ _ _ _ hbad).mono ?_
      rintro e w5 ⟨rfl, hb⟩
      replace R := rowA (R.alloc _) hb
      replace hB := callA (hB.alloc hB.size _) hb
      clear hb
      go_wp2_with (go_at_call 17; refine stop_of' ?_)
      unfold Stop'
      refine (Below_no 1 _ _ (by omega)).mono ?_
      rintro e w6 ⟨rfl, hb⟩
      replace R := rowZ R hb
      replace hB := callZ hB hb
      clear hb
      go_wp2_with (go_at_call 17; refine stop_of' ?_)
      unfold Stop'
      refine (Below_no 1 _ _ (by omega)).mono ?_
      rintro e w7 ⟨rfl, hb⟩
      replace R := rowZ R hb
      replace hB := callZ hB hb
      clear hb
      go_wp2_with (go_at_call 20; refine stop_of' ?_)
      unfold Stop'
      refine (BN_zero _).mono ?_
      rintro e w8 ⟨rfl, hb⟩
      replace R := rowZ R hb
      replace hB := callZ hB hb
      clear hb
      obtain ⟨c0, c1, c2, c3, f0, f1, f2, f3⟩ := row4 R
      have z0 := R.lt
      go_wp2_with (go_at_call 20; refine stop_of' ?_)
      unfold Stop'
      refine (HC.out _).mono ?_
      rintro e w9 ⟨rfl, hb⟩
      first
        | (have hB9 : Below w.heap.size w w9 := (by with_reducible exact callA (hB.setCell (p := ⟨w.heap.size, 3, none⟩) (Nat.le_refl _) _) hb))
        | (have hB9 : Below w.heap.size w w9 := (by with_reducible exact callZ ((hB.alloc hB.size _).setCell (p := ⟨w.heap.size, 3, none⟩) (Nat.le_refl _) _) hb))
        | (have hB9 : Below w.heap.size w w9 := callA (hB.setCell (p := ⟨w.heap.size, 3, none⟩) (Nat.le_refl _) _) hb)
      clear hb hB R c0 c1 c2 c3 f0 f1 f2 f3 z0
      go_wp2_with fail
      have hR9 := Row.new (w9.alloc (.cells #[.int .u32 0, .int .u32 0, .int .u32 0, .int .u32 0] 42)) 27 #[.int .i64 2, .int .i64 2, .int .i64 2, .int .i64 2, .int .i64 2, .int .i64 2, .int .i64 2, .int .i64 2, .int .i64 2]
      rw [World.size_alloc] at hR9
      have hA9 := hB9.alloc hB9.size (.cells #[.int .u32 0, .int .u32 0, .int .u32 0, .int .u32 0] 42)
      have hBY := hA9.alloc hA9.size (.cells #[.int .i64 2, .int .i64 2, .int .i64 2, .int .i64 2, .int .i64 2, .int .i64 2, .int .i64 2, .int .i64 2, .int .i64 2] 27)
      obtain ⟨Y, hY⟩ : ∃ Y, (w9.alloc (.cells #[.int .u32 0, .int .u32 0, .int .u32 0, .int .u32 0] 42)).alloc (.cells #[.int .i64 2, .int .i64 2, .int .i64 2, .int .i64 2, .int .i64 2, .int .i64 2, .int .i64 2, .int .i64 2, .int .i64 2] 27) = Y := ⟨_, rfl⟩
      rw [hY] at hR9 hBY ⊢
      clear hY hA9
      have tok1 : True := trivial
      go_loopw [115] (fun i wr => ∃ k : Nat, i = .int .i64 k ∧ k ≤ 9 ∧ Y = wr) (fun i _ => 9 - (intOf i).toNat)
      case atStart => exact ⟨0, rfl, by omega, rfl⟩
      case round =>
        obtain ⟨k, rfl, hk, rfl⟩ := hrel
        by_cases hk9 : k < 9
        · have hcell : Y.cell? ⟨w9.heap.size + 1, k, none⟩ = some (.int .i64 2) := by rw [hR9.cell]; exact nine_get k hk9
          have hk9i : (k : Int) < 9 := by omega
          go_wp2_with fail
          go_roundw
          case rel => exact ⟨k + 1, by go_num, by omega, by trivial⟩
          case measure => simp [intOf]; omega
        · have hk9i : ¬ (k : Int) < 9 := by omega
          clear hk9 hk
          go_wp2_with (first
            | (go_at_call 12; refine (Of_any n _ hn1 hn2).mono ?_; rintro e w' ⟨rfl, rfl⟩; rw [HQ.out])
            | (go_at_call 15; have _t := tok1; clear tok1; refine (Right_no s _ hbad).mono ?_; rintro e w' ⟨rfl, rfl⟩)
            | (go_at_call 15; refine (Right_yes q _ hq1 hq2).mono ?_; rintro e w' ⟨rfl, rfl⟩))
          go_ret
          exact ⟨rfl, hBY⟩
    · skip
      have hbad : s < 1 ∨ 2147483646 < s := by omega
      go_wp2_with (go_at_call 14; refine stop_of' ?_)
      unfold Stop'
      refine (Next_no s _ hbad).mono ?_
      rintro e w' ⟨rfl, rfl⟩
      go_wp2_with (go_at_call 13; refine stop_of' ?_)
      unfold Stop'
      refine (Jump_bad s n _ hbad).mono ?_
      rintro e w2 ⟨rfl, hb⟩
      replace R := rowZ R hb
      replace hB := callZ hB hb
      clear hb
      go_wp2_with (go_at_call 17; refine stop_of' ?_)
      unfold Stop'
      refine (Below_no s 5 _ (by omega)).mono ?_
      rintro e w3 ⟨rfl, hb⟩
      replace R := rowZ R hb
      replace hB := callZ hB hb
      clear hb
      go_wp2_with (go_at_call 20; refine stop_of' ?_)
      unfold Stop'
      refine (BN_state s 5 0 0 0 _ hbad).mono ?_
      rintro e w4 ⟨rfl, hb⟩
      replace R := rowZ R hb
      replace hB := callZ hB hb
      clear hb
      go_wp2_with (go_at_call 18; refine stop_of' ?_)
      unfold Stop'
      refine (Shuffle_bad s _ _ _ _ hbad).mono ?_
      rintro e w5 ⟨rfl, hb⟩
      replace R := rowA (R.alloc _) hb
      replace hB := callA (hB.alloc hB.size _) hb
      clear hb
      go_wp2_with (go_at_call 17; refine stop_of' ?_)
      unfold Stop'
      refine (Below_no 1 _ _ (by omega)).mono ?_
      rintro e w6 ⟨rfl, hb⟩
      replace R := rowZ R hb
      replace hB := callZ hB hb
      clear hb
      go_wp2_with (go_at_call 17; refine stop_of' ?_)
      unfold Stop'
      refine (Below_no 1 _ _ (by omega)).mono ?_
      rintro e w7 ⟨rfl, hb⟩
      replace R := rowZ R hb
      replace hB := callZ hB hb
      clear hb
      go_wp2_with (go_at_call 20; refine stop_of' ?_)
      unfold Stop'
      refine (BN_zero _).mono ?_
      rintro e w8 ⟨rfl, hb⟩
      replace R := rowZ R hb
      replace hB := callZ hB hb
      clear hb
      obtain ⟨c0, c1, c2, c3, f0, f1, f2, f3⟩ := row4 R
      have z0 := R.lt
      go_wp2_with (go_at_call 20; refine stop_of' ?_)
      unfold Stop'
      refine (HC.out _).mono ?_
      rintro e w9 ⟨rfl, hb⟩
      first
        | (have hB9 : Below w.heap.size w w9 := (by with_reducible exact callA (hB.setCell (p := ⟨w.heap.size, 3, none⟩) (Nat.le_refl _) _) hb))
        | (have hB9 : Below w.heap.size w w9 := (by with_reducible exact callZ ((hB.alloc hB.size _).setCell (p := ⟨w.heap.size, 3, none⟩) (Nat.le_refl _) _) hb))
        | (have hB9 : Below w.heap.size w w9 := callA (hB.setCell (p := ⟨w.heap.size, 3, none⟩) (Nat.le_refl _) _) hb)
      clear hb hB R c0 c1 c2 c3 f0 f1 f2 f3 z0
      go_wp2_with fail
      have hR9 := Row.new (w9.alloc (.cells #[.int .u32 0, .int .u32 0, .int .u32 0, .int .u32 0] 42)) 27 #[.int .i64 2, .int .i64 2, .int .i64 2, .int .i64 2, .int .i64 2, .int .i64 2, .int .i64 2, .int .i64 2, .int .i64 2]
      rw [World.size_alloc] at hR9
      have hA9 := hB9.alloc hB9.size (.cells #[.int .u32 0, .int .u32 0, .int .u32 0, .int .u32 0] 42)
      have hBY := hA9.alloc hA9.size (.cells #[.int .i64 2, .int .i64 2, .int .i64 2, .int .i64 2, .int .i64 2, .int .i64 2, .int .i64 2, .int .i64 2, .int .i64 2] 27)
      obtain ⟨Y, hY⟩ : ∃ Y, (w9.alloc (.cells #[.int .u32 0, .int .u32 0, .int .u32 0, .int .u32 0] 42)).alloc (.cells #[.int .i64 2, .int .i64 2, .int .i64 2, .int .i64 2, .int .i64 2, .int .i64 2, .int .i64 2, .int .i64 2, .int .i64 2] 27) = Y := ⟨_, rfl⟩
      rw [hY] at hR9 hBY ⊢
      clear hY hA9
      have tok1 : True := trivial
      go_loopw [115] (fun i wr => ∃ k : Nat, i = .int .i64 k ∧ k ≤ 9 ∧ Y = wr) (fun i _ => 9 - (intOf i).toNat)
      case atStart => exact ⟨0, rfl, by omega, rfl⟩
      case round =>
        obtain ⟨k, rfl, hk, rfl⟩ := hrel
        by_cases hk9 : k < 9
        · have hcell : Y.cell? ⟨w9.heap.size + 1, k, none⟩ = some (.int .i64 2) := by rw [hR9.cell]; exact nine_get k hk9
          have hk9i : (k : Int) < 9 := by omega
          go_wp2_with fail
          go_roundw
          case rel => exact ⟨k + 1, by go_num, by omega, by trivial⟩
          case measure => simp [intOf]; omega
        · have hk9i : ¬ (k : Int) < 9 := by omega
          clear hk9 hk
          go_wp2_with (first
            | (go_at_call 12; refine (Of_any n _ hn1 hn2).mono ?_; rintro e w' ⟨rfl, rfl⟩; rw [HQ.out])
            | (go_at_call 15; have _t := tok1; clear tok1; refine (Right_no s _ hbad).mono ?_; rintro e w' ⟨rfl, rfl⟩)
            | (go_at_call 15; refine (Right_yes q _ hq1 hq2).mono ?_; rintro e w' ⟨rfl, rfl⟩))
          go_ret
          exact ⟨rfl, hBY⟩
    · skip
      have hbad : s < 1 ∨ 2147483646 < s := by omega
      go_wp2_with (go_at_call 14; refine stop_of' ?_)
      unfold Stop'
      refine (Next_no s _ hbad).mono ?_
      rintro e w' ⟨rfl, rfl⟩
      go_wp2_with (go_at_call 13; refine stop_of' ?_)
      unfold Stop'
      refine (Jump_bad s n _ hbad).mono ?_
      rintro e w2 ⟨rfl, hb⟩
      replace R := rowZ R hb
      replace hB := callZ hB hb
      clear hb
      go_wp2_with (go_at_call 17; refine stop_of' ?_)
      unfold Stop'
      refine (Below_no s 5 _ (by omega)).mono ?_
      rintro e w3 ⟨rfl, hb⟩
      replace R := rowZ R hb
      replace hB := callZ hB hb
      clear hb
      go_wp2_with (go_at_call 20; refine stop_of' ?_)
      unfold Stop'
      refine (BN_state s 5 0 0 0 _ hbad).mono ?_
      rintro e w4 ⟨rfl, hb⟩
      replace R := rowZ R hb
      replace hB := callZ hB hb
      clear hb
      go_wp2_with (go_at_call 18; refine stop_of' ?_)
      unfold Stop'
      refine (Shuffle_bad s _ _ _ _ hbad).mono ?_
      rintro e w5 ⟨rfl, hb⟩
      replace R := rowA (R.alloc _) hb
      replace hB := callA (hB.alloc hB.size _) hb
      clear hb
      go_wp2_with (go_at_call 17; refine stop_of' ?_)
      unfold Stop'
      refine (Below_no 1 _ _ (by omega)).mono ?_
      rintro e w6 ⟨rfl, hb⟩
      replace R := rowZ R hb
      replace hB := callZ hB hb
      clear hb
      go_wp2_with (go_at_call 17; refine stop_of' ?_)
      unfold Stop'
      refine (Below_no 1 _ _ (by omega)).mono ?_
      rintro e w7 ⟨rfl, hb⟩
      replace R := rowZ R hb
      replace hB := callZ hB hb
      clear hb
      go_wp2_with (go_at_call 20; refine stop_of' ?_)
      unfold Stop'
      refine (BN_zero _).mono ?_
      rintro e w8 ⟨rfl, hb⟩
      replace R := rowZ R hb
      replace hB := callZ hB hb
      clear hb
      obtain ⟨c0, c1, c2, c3, f0, f1, f2, f3⟩ := row4 R
      have z0 := R.lt
      go_wp2_with (go_at_call 20; refine stop_of' ?_)
      unfold Stop'
      refine (HC.out _).mono ?_
      rintro e w9 ⟨rfl, hb⟩
      first
        | (have hB9 : Below w.heap.size w w9 := (by with_reducible exact callA (hB.setCell (p := ⟨w.heap.size, 3, none⟩) (Nat.le_refl _) _) hb))
        | (have hB9 : Below w.heap.size w w9 := (by with_reducible exact callZ ((hB.alloc hB.size _).setCell (p := ⟨w.heap.size, 3, none⟩) (Nat.le_refl _) _) hb))
        | (have hB9 : Below w.heap.size w w9 := callA (hB.setCell (p := ⟨w.heap.size, 3, none⟩) (Nat.le_refl _) _) hb)
      clear hb hB R c0 c1 c2 c3 f0 f1 f2 f3 z0
      go_wp2_with fail
      have hR9 := Row.new (w9.alloc (.cells #[.int .u32 0, .int .u32 0, .int .u32 0, .int .u32 0] 42)) 27 #[.int .i64 2, .int .i64 2, .int .i64 2, .int .i64 2, .int .i64 2, .int .i64 2, .int .i64 2, .int .i64 2, .int .i64 2]
      rw [World.size_alloc] at hR9
      have hA9 := hB9.alloc hB9.size (.cells #[.int .u32 0, .int .u32 0, .int .u32 0, .int .u32 0] 42)
      have hBY := hA9.alloc hA9.size (.cells #[.int .i64 2, .int .i64 2, .int .i64 2, .int .i64 2, .int .i64 2, .int .i64 2, .int .i64 2, .int .i64 2, .int .i64 2] 27)
      obtain ⟨Y, hY⟩ : ∃ Y, (w9.alloc (.cells #[.int .u32 0, .int .u32 0, .int .u32 0, .int .u32 0] 42)).alloc (.cells #[.int .i64 2, .int .i64 2, .int .i64 2, .int .i64 2, .int .i64 2, .int .i64 2, .int .i64 2, .int .i64 2, .int .i64 2] 27) = Y := ⟨_, rfl⟩
      rw [hY] at hR9 hBY ⊢
      clear hY hA9
      have tok1 : True := trivial
      go_loopw [115] (fun i wr => ∃ k : Nat, i = .int .i64 k ∧ k ≤ 9 ∧ Y = wr) (fun i _ => 9 - (intOf i).toNat)
      case atStart => exact ⟨0, rfl, by omega, rfl⟩
      case round =>
        obtain ⟨k, rfl, hk, rfl⟩ := hrel
        by_cases hk9 : k < 9
        · have hcell : Y.cell? ⟨w9.heap.size + 1, k, none⟩ = some (.int .i64 2) := by rw [hR9.cell]; exact nine_get k hk9
          have hk9i : (k : Int) < 9 := by omega
          go_wp2_with fail
          go_roundw
          case rel => exact ⟨k + 1, by go_num, by omega, by trivial⟩
          case measure => simp [intOf]; omega
        · have hk9i : ¬ (k : Int) < 9 := by omega
          clear hk9 hk
          go_wp2_with (first
            | (go_at_call 12; refine (Of_any n _ hn1 hn2).mono ?_; rintro e w' ⟨rfl, rfl⟩; rw [HQ.out])
            | (go_at_call 15; have _t := tok1; clear tok1; refine (Right_no s _ hbad).mono ?_; rintro e w' ⟨rfl, rfl⟩)
            | (go_at_call 15; refine (Right_yes q _ hq1 hq2).mono ?_; rintro e w' ⟨rfl, rfl⟩))
          go_ret
          exact ⟨rfl, hBY⟩

theorem SeedWrong_walk (s n a0 a1 a2 a3 : Int) (w : World) (hs : -9223372036854775808 ≤ s ∧ s ≤ 9223372036854775807) (hn : -9223372036854775808 ≤ n ∧ n ≤ 9223372036854775807) (ha : (0 ≤ a0 ∧ a0 ≤ 4294967295) ∧ (0 ≤ a1 ∧ a1 ≤ 4294967295) ∧ (0 ≤ a2 ∧ a2 ≤ 4294967295) ∧ (0 ≤ a3 ∧ a3 ≤ 4294967295)) :
    Calls Try.prog 8 #[.int .i64 s, .int .i64 n, .agg #[.int .u32 a0, .int .u32 a1, .int .u32 a2, .int .u32 a3]] w fun e w' => e = .returned (.bool true) ∧ Below w.heap.size w w' := by
  obtain ⟨h0, h1, h2, h3⟩ := ha
  obtain ⟨u, rfl⟩ : ∃ u : Nat, a3 = u := ⟨a3.toNat, by omega⟩
  exact SeedWrong_nat s n a0 a1 a2 u w hs.1 hs.2 hn.1 hn.2 h0 h1 h2 (by omega)

end Go.Proofs.Ytojabjdpjnmkdaa
