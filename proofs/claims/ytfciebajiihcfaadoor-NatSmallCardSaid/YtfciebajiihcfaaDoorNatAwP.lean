/- the examples of the chapter, plain; what the choices are -/
import Derived.Test.YtfciebajiihcfaaDoorNatR
namespace Go.Proofs.YtfciebajiihcfaaDoor
open Go.RowKit
set_option linter.unusedVariables false
set_option linter.unusedSimpArgs false
set_option maxRecDepth 100000

theorem ch_mul (n k : Nat) (h : k ≤ n) : ch n (k + 1) * (k + 1) = ch n k * (n - k) := by
  induction n generalizing k with
  | zero =>
    obtain rfl : k = 0 := by omega
    rfl
  | succ n ih =>
    have h1 : ∀ j, j ≤ n → ch (n + 1) (j + 1) * (j + 1) = (n + 1) * ch n j := by
      intro j hj
      obtain ⟨d, rfl⟩ : ∃ d, n = j + d := ⟨n - j, by omega⟩
      have h2 := ih j hj
      rw [show j + d - j = d by omega] at h2
      rw [ch_succ, Nat.add_mul, h2, ← Nat.mul_add, Nat.mul_comm, show j + 1 + d = j + d + 1 by omega]
    rcases Nat.lt_or_ge n k with hk | hk
    · obtain rfl : k = n + 1 := by omega
      rw [ch_over (n + 1) (n + 1 + 1) (by omega), Nat.zero_mul, Nat.sub_self, Nat.mul_zero]
    · rw [h1 k hk]
      cases k with
      | zero => rw [ch_zero, ch_zero, Nat.mul_one, Nat.one_mul, Nat.sub_zero]
      | succ j =>
        obtain ⟨d, rfl⟩ : ∃ d, n = j + d := ⟨n - j, by omega⟩
        have h2 := ih j (by omega)
        rw [show j + d - j = d by omega] at h2
        rw [ch_succ, show j + d + 1 - (j + 1) = d by omega, Nat.add_mul (ch (j + d) j) (ch (j + d) (j + 1)) d, ← h2, ← Nat.mul_add, Nat.mul_comm, show j + 1 + d = j + d + 1 by omega]

theorem chain_52 (f : Nat → Nat) (hz : f 0 = 1) (hm : ∀ k, k ≤ 52 → f (k + 1) * (k + 1) = f k * (52 - k)) : f 13 = 635013559600 := by
  have e1 : f 1 = 52 := by
    have h : f 1 * 1 = f 0 * 52 := hm 0 (by decide)
    rw [hz] at h
    omega
  have e2 : f 2 = 1326 := by
    have h : f 2 * 2 = f 1 * 51 := hm 1 (by decide)
    rw [e1] at h
    omega
  have e3 : f 3 = 22100 := by
    have h : f 3 * 3 = f 2 * 50 := hm 2 (by decide)
    rw [e2] at h
    omega
  have e4 : f 4 = 270725 := by
    have h : f 4 * 4 = f 3 * 49 := hm 3 (by decide)
    rw [e3] at h
    omega
  have e5 : f 5 = 2598960 := by
    have h : f 5 * 5 = f 4 * 48 := hm 4 (by decide)
    rw [e4] at h
    omega
  have e6 : f 6 = 20358520 := by
    have h : f 6 * 6 = f 5 * 47 := hm 5 (by decide)
    rw [e5] at h
    omega
  have e7 : f 7 = 133784560 := by
    have h : f 7 * 7 = f 6 * 46 := hm 6 (by decide)
    rw [e6] at h
    omega
  have e8 : f 8 = 752538150 := by
    have h : f 8 * 8 = f 7 * 45 := hm 7 (by decide)
    rw [e7] at h
    omega
  have e9 : f 9 = 3679075400 := by
    have h : f 9 * 9 = f 8 * 44 := hm 8 (by decide)
    rw [e8] at h
    omega
  have e10 : f 10 = 15820024220 := by
    have h : f 10 * 10 = f 9 * 43 := hm 9 (by decide)
    rw [e9] at h
    omega
  have e11 : f 11 = 60403728840 := by
    have h : f 11 * 11 = f 10 * 42 := hm 10 (by decide)
    rw [e10] at h
    omega
  have e12 : f 12 = 206379406870 := by
    have h : f 12 * 12 = f 11 * 41 := hm 11 (by decide)
    rw [e11] at h
    omega
  have e13 : f 13 = 635013559600 := by
    have h : f 13 * 13 = f 12 * 40 := hm 12 (by decide)
    rw [e12] at h
    omega
  exact e13

theorem ch_52_13 : ch 52 13 = 635013559600 := chain_52 (ch 52) (ch_zero 52) (fun k hk => ch_mul 52 k hk)

theorem txF_dig (f n : Nat) (h : n < 10 ^ f) (hf : 0 < f) : txF f n = txt n := by
  induction f generalizing n with
  | zero => omega
  | succ f ih =>
    by_cases hn : n < 10
    · rw [txt_small hn]
      unfold txF
      rw [if_pos hn]
    · rw [txt_step (by omega)]
      unfold txF
      rw [if_neg hn]
      rcases Nat.eq_zero_or_pos f with rfl | hf
      · rw [Nat.pow_succ, Nat.pow_zero] at h; omega
      · rw [ih (n / 10) (by rw [Nat.pow_succ] at h; omega) hf]

abbrev lit4 (a b c d : Int) : Value := .agg #[.int .u32 a, .int .u32 b, .int .u32 c, .int .u32 d]
abbrev ones : Value := lit4 4294967295 4294967295 4294967295 4294967295
abbrev qLit : Value := lit4 2576980377 2576980377 429496729 0
abbrev cLit : Value := lit4 3653367088 147 0 0

theorem lit_rows (w : World) (c : Array Value) (l : List Nat) (n : Nat) (hn : l.length = n) (hl : l.length ≤ 100) (hc : c = (nls l).toArray) : Rd (w.alloc (.cells c 28)).heap.size (w.alloc (.cells c 28)) 4 (.slice (some ⟨w.heap.size, 0, none⟩) n n) l.length (nls l) := by
  subst hn
  exact Rd.of_own (own_lit4 w w.heap.size (Nat.le_refl _) l hl c hc)

theorem aw_mul1 (w : World) (b : Nat) (hb : w.heap.size = b) : Calls Tryd.prog 17 #[.slice (some ⟨b, 0, none⟩) 2 2] (w.alloc (.cells #[vU 0, vU 0, vU 1, vU 0, vU 0, vU 0, vU 1, vU 0] 28)) fun e w' => e = .returned (.tuple #[lit4 0 0 0 0, .int .i64 3]) ∧ Below (w.alloc (.cells #[vU 0, vU 0, vU 1, vU 0, vU 0, vU 0, vU 1, vU 0] 28)).heap.size (w.alloc (.cells #[vU 0, vU 0, vU 1, vU 0, vU 0, vU 0, vU 1, vU 0] 28)) w' := by
  subst hb
  have h := Mul_any _ [18446744073709551616, 18446744073709551616] _ (lit_rows w #[vU 0, vU 0, vU 1, vU 0, vU 0, vU 0, vU 1, vU 0] [18446744073709551616, 18446744073709551616] 2 rfl (by decide) (by kernel_rfl)) (by decide) (by decide)
  rw [show vMul [18446744073709551616, 18446744073709551616] = .tuple #[lit4 0 0 0 0, .int .i64 3] by kernel_rfl] at h
  exact h

theorem aw_mul2 (w : World) (b : Nat) (hb : w.heap.size = b) : Calls Tryd.prog 17 #[.slice (some ⟨b, 0, none⟩) 2 2] (w.alloc (.cells #[vU 4294967295, vU 4294967295, vU 0, vU 0, vU 1, vU 0, vU 1, vU 0] 28)) fun e w' => e = .returned (.tuple #[ones, .int .i64 0]) ∧ Below (w.alloc (.cells #[vU 4294967295, vU 4294967295, vU 0, vU 0, vU 1, vU 0, vU 1, vU 0] 28)).heap.size (w.alloc (.cells #[vU 4294967295, vU 4294967295, vU 0, vU 0, vU 1, vU 0, vU 1, vU 0] 28)) w' := by
  subst hb
  have h := Mul_any _ [18446744073709551615, 18446744073709551617] _ (lit_rows w #[vU 4294967295, vU 4294967295, vU 0, vU 0, vU 1, vU 0, vU 1, vU 0] [18446744073709551615, 18446744073709551617] 2 rfl (by decide) (by kernel_rfl)) (by decide) (by decide)
  rw [show vMul [18446744073709551615, 18446744073709551617] = .tuple #[ones, .int .i64 0] by kernel_rfl] at h
  exact h

theorem lit_5 : vN 5 = lit4 5 0 0 0 := by kernel_rfl
theorem lit_7 : vN 7 = lit4 7 0 0 0 := by kernel_rfl
theorem lit_0 : vN 0 = lit4 0 0 0 0 := by kernel_rfl
theorem lit_10 : vN 10 = lit4 10 0 0 0 := by kernel_rfl
theorem lit_12 : vN 12 = lit4 12 0 0 0 := by kernel_rfl
theorem lit_18 : vN 18 = lit4 18 0 0 0 := by kernel_rfl
theorem lit_6 : vN 6 = lit4 6 0 0 0 := by kernel_rfl
theorem lit_96 : vN 79228162514264337593543950336 = lit4 0 0 0 1 := by kernel_rfl
theorem lit_q : vN 7922816251426433759354395033 = qLit := by kernel_rfl
theorem lit_c : vN 635013559600 = cLit := by kernel_rfl
theorem lit_ones : vN 340282366920938463463374607431768211455 = ones := by kernel_rfl

theorem aw_sub (w : World) : Calls Tryd.prog 21 #[lit4 5 0 0 0, lit4 7 0 0 0] w fun e w' => e = .returned (.tuple #[lit4 0 0 0 0, .int .i64 21]) ∧ Below w.heap.size w w' := by
  have h := Sub_no 5 7 w (by decide) (by decide) (by decide)
  rw [lit_5, lit_7, lit_0] at h
  exact h

theorem aw_div (w : World) : Calls Tryd.prog 19 #[lit4 0 0 0 1, lit4 10 0 0 0] w fun e w' => e = .returned (.tuple #[qLit, lit4 6 0 0 0, .int .i64 0]) ∧ Below w.heap.size w w' := by
  have h := Div_yes 79228162514264337593543950336 10 w (by decide) (by decide) (by decide)
  rw [show 79228162514264337593543950336 / 10 = 7922816251426433759354395033 by decide, show 79228162514264337593543950336 % 10 = 6 by decide, lit_96, lit_10, lit_q, lit_6] at h
  exact h

theorem aw_ch1 (w : World) : Calls Tryd.prog 22 #[.int .i64 52, .int .i64 13] w fun e w' => e = .returned (.tuple #[cLit, .int .i64 0]) ∧ Below w.heap.size w w' := by
  have h := Choose_any 52 13 w (by decide) (by decide)
  have e : vChoose 52 13 = .tuple #[cLit, .int .i64 0] := by
    unfold vChoose
    rw [if_neg (by decide), if_neg (by decide), if_neg (by decide)]
    rw [show ch (52 : Int).toNat (13 : Int).toNat = 635013559600 from ch_52_13, lit_c]
  rw [e] at h
  exact h

theorem aw_ch2 (w : World) : Calls Tryd.prog 22 #[.int .i64 5, .int .i64 6] w fun e w' => e = .returned (.tuple #[lit4 0 0 0 0, .int .i64 0]) ∧ Below w.heap.size w w' := by
  have h := Choose_any 5 6 w (by decide) (by decide)
  rw [show vChoose 5 6 = .tuple #[lit4 0 0 0 0, .int .i64 0] by kernel_rfl] at h
  exact h

theorem aw_ch3 (w : World) : Calls Tryd.prog 22 #[.int .i64 129, .int .i64 1] w fun e w' => e = .returned (.tuple #[lit4 0 0 0 0, .int .i64 5]) ∧ Below w.heap.size w w' := by
  have h := Choose_any 129 1 w (by decide) (by decide)
  rw [show vChoose 129 1 = .tuple #[lit4 0 0 0 0, .int .i64 5] by kernel_rfl] at h
  exact h

abbrev longS : List UInt8 := [51, 52, 48, 50, 56, 50, 51, 54, 54, 57, 50, 48, 57, 51, 56, 52, 54, 51, 52, 54, 51, 51, 55, 52, 54, 48, 55, 52, 51, 49, 55, 54, 56, 50, 49, 49, 52, 53, 54]
abbrev onesS : List UInt8 := [51, 52, 48, 50, 56, 50, 51, 54, 54, 57, 50, 48, 57, 51, 56, 52, 54, 51, 52, 54, 51, 51, 55, 52, 54, 48, 55, 52, 51, 49, 55, 54, 56, 50, 49, 49, 52, 53, 53]
abbrev qS : List UInt8 := [55, 57, 50, 50, 56, 49, 54, 50, 53, 49, 52, 50, 54, 52, 51, 51, 55, 53, 57, 51, 53, 52, 51, 57, 53, 48, 51, 51]
abbrev cS : List UInt8 := [54, 51, 53, 48, 49, 51, 53, 53, 57, 54, 48, 48]

theorem aw_read1 (w : World) : Calls Tryd.prog 25 #[.string ⟨longS.toArray⟩] w fun e w' => e = .returned (.tuple #[lit4 0 0 0 0, .int .i64 3]) ∧ Below w.heap.size w w' := by
  have h := NRead_any ⟨longS.toArray⟩ w (by decide)
  have e : vNRead longS = .tuple #[lit4 0 0 0 0, .int .i64 3] := by
    unfold vNRead
    rw [if_neg (by decide +kernel), if_neg (by decide +kernel), lit_0]
  rw [show (⟨longS.toArray⟩ : ByteArray).data.toList = longS from rfl, e] at h
  exact h

theorem aw_read2 (w : World) : Calls Tryd.prog 25 #[.string ⟨#[48, 49]⟩] w fun e w' => e = .returned (.tuple #[lit4 0 0 0 0, .int .i64 20]) ∧ Below w.heap.size w w' := by
  have h := NRead_any ⟨#[48, 49]⟩ w (by decide)
  have e : vNRead [48, 49] = .tuple #[lit4 0 0 0 0, .int .i64 20] := by
    unfold vNRead
    rw [if_pos (by decide +kernel), lit_0]
  rw [show (⟨#[48, 49]⟩ : ByteArray).data.toList = [48, 49] from rfl, e] at h
  exact h

theorem txt_ones : txt 340282366920938463463374607431768211455 = onesS := by
  rw [← txF_dig 40 _ (by decide +kernel) (by decide)]
  decide +kernel
theorem txt_q : txt 7922816251426433759354395033 = qS := by
  rw [← txF_dig 40 _ (by decide +kernel) (by decide)]
  decide +kernel
theorem txt_c : txt 635013559600 = cS := by
  rw [← txF_dig 40 _ (by decide +kernel) (by decide)]
  decide +kernel

theorem aw_text1 (w : World) : Calls Tryd.prog 24 #[ones] w fun e w' => e = .returned (.string ⟨onesS.toArray⟩) ∧ Below w.heap.size w w' := by
  have h := NText_any 340282366920938463463374607431768211455 w (by decide)
  rw [txt_ones, lit_ones] at h
  exact h
theorem aw_text2 (w : World) : Calls Tryd.prog 24 #[qLit] w fun e w' => e = .returned (.string ⟨qS.toArray⟩) ∧ Below w.heap.size w w' := by
  have h := NText_any 7922816251426433759354395033 w (by decide)
  rw [txt_q, lit_q] at h
  exact h
theorem aw_text3 (w : World) : Calls Tryd.prog 24 #[cLit] w fun e w' => e = .returned (.string ⟨cS.toArray⟩) ∧ Below w.heap.size w w' := by
  have h := NText_any 635013559600 w (by decide)
  rw [txt_c, lit_c] at h
  exact h
theorem aw_gcd (w : World) : Calls Tryd.prog 18 #[lit4 12 0 0 0, lit4 18 0 0 0] w fun e w' => e = .returned (lit4 6 0 0 0) ∧ Below w.heap.size w w' := by
  have h := Gcd_any 12 18 w (by decide) (by decide)
  rw [show Nat.gcd 12 18 = 6 by decide +kernel, lit_12, lit_18, lit_6] at h
  exact h

end Go.Proofs.YtfciebajiihcfaaDoor
