/- nat: bit, div, Div, Gcd -/
import Derived.Test.YtfciebajiihcfaaDoorNatB
import Derived.Deep.RegionHeld3
import Derived.Deep.DeepCutAuto
namespace Go.Proofs.YtfciebajiihcfaaDoor
open Go.RowKit
set_option linter.unusedVariables false
set_option maxRecDepth 100000

theorem dg_cell {w : World} {b : Nat} {t : TypeId} {x : Nat} (h : Row w b t (pN x)) (i : Nat) (hi : i < 4) : w.cell? ⟨b, i, none⟩ = some (vU (dg i x)) := by
  rw [h.cell]
  match i, hi with
  | 0, _ => rfl
  | 1, _ => rfl
  | 2, _ => rfl
  | 3, _ => rfl

theorem bit_fin (x i : Nat) (hi : i < 128) : bits .and .u32 (dg (i / 32) x / 2 ^ (i % 32)) 1 = ((x / 2 ^ i % 2 : Nat) : Int) := by
  have e : dg (i / 32) x / 2 ^ (i % 32) = ((x / 4294967296 ^ (i / 32) % 4294967296 / 2 ^ (i % 32) : Nat) : Int) := by
    unfold dg
    rw [Int.natCast_ediv, Int.natCast_pow]
    rfl
  have hlt : x / 4294967296 ^ (i / 32) % 4294967296 / 2 ^ (i % 32) < 4294967296 := Nat.lt_of_le_of_lt (Nat.div_le_self _ _) (Nat.mod_lt _ (by decide))
  rw [e, show (1 : Int) = ((1 : Nat) : Int) from rfl, u32_and_nat _ _ hlt (by decide), nat_mask1]
  congr 1
  have h32 : (4294967296 : Nat) ^ (i / 32) = 2 ^ (32 * (i / 32)) := by rw [Nat.pow_mul]
  have hi2 : i = 32 * (i / 32) + i % 32 := by omega
  have h1 : x / 2 ^ i = x / 4294967296 ^ (i / 32) / 2 ^ (i % 32) := by
    conv => lhs; rw [hi2, Nat.pow_add]
    rw [h32, Nat.div_div_eq_div_mul]
  rw [h1]
  obtain ⟨z, hz⟩ : ∃ z, x / 4294967296 ^ (i / 32) = z := ⟨_, rfl⟩
  rw [hz]
  have hk : i % 32 < 32 := Nat.mod_lt _ (by decide)
  have : (4294967296 : Nat) = 2 ^ (i % 32) * (2 * 2 ^ (31 - i % 32)) := by
    rw [← Nat.pow_succ', ← Nat.pow_add]
    have : i % 32 + (31 - i % 32).succ = 32 := by omega
    rw [this]
  rw [this, Nat.mod_mul_right_div_self, Nat.mod_mul_right_mod]

theorem bit_any (x i : Nat) (w : World) (hi : i < 128) :
    Calls Tryd.prog 53 #[vN x, .int .i64 (i : Int)] w fun e w' => e = .returned (.int .u32 ((x / 2 ^ i % 2 : Nat) : Int)) ∧ Below w.heap.size w w' := by
  have r := Row.new w 28 (pN x)
  have hc := dg_cell r (i / 32) (by omega)
  obtain ⟨d0, d1⟩ := dg_bd (i / 32) x
  have hi' : (i : Int) < 128 := by omega
  go_enter Tryd.func53, Tryd.ntmps53
  go_wp2_with fail
  go_ret
  rw [← bit_fin x i hi]
  exact ⟨rfl, (Below.refl _ _).alloc (Nat.le_refl _) _⟩

/-- double with the next bit in it -/
theorem dbl_parts (r b : Nat) (hb : b < 2) : bits .or .u32 (dg 0 ((r + r) % big)) ((b : Nat) : Int) = dg 0 ((r + r + b) % big) ∧ dg 1 ((r + r) % big) = dg 1 ((r + r + b) % big) ∧ dg 2 ((r + r) % big) = dg 2 ((r + r + b) % big) ∧ dg 3 ((r + r) % big) = dg 3 ((r + r + b) % big) := by
  have hm : (r + r) % big % 4294967296 < 4294967296 := Nat.mod_lt _ (by decide)
  refine ⟨?_, ?_, ?_, ?_⟩
  · rw [dg0, dg0, u32_or_nat _ _ hm (by omega), nat_join 1 _ b (by unfold big; omega) (by omega)]
    unfold big
    omega
  · rw [dg1, dg1]; unfold big; omega
  · rw [dg2, dg2]; unfold big; omega
  · rw [dg3, dg3]; unfold big; omega

theorem div_step (x y i r q bt : Nat) (h0 : 0 < y) (hb : x / 2 ^ i % 2 = bt) (hr : r = x / 2 ^ (i + 1) % y) (hq : q = x / 2 ^ (i + 1) / y * 2 ^ (i + 1)) :
    (r + r + bt < y → r + r + bt = x / 2 ^ i % y ∧ q = x / 2 ^ i / y * 2 ^ i) ∧ (y ≤ r + r + bt → r < y → r + r + bt - y = x / 2 ^ i % y ∧ q + 2 ^ i = x / 2 ^ i / y * 2 ^ i) := by
  obtain ⟨A, hA⟩ : ∃ A, x / 2 ^ (i + 1) = A := ⟨_, rfl⟩
  obtain ⟨B, hB⟩ : ∃ B, x / 2 ^ i = B := ⟨_, rfl⟩
  have hAB : A = B / 2 := by rw [← hA, ← hB, Nat.pow_succ, Nat.div_div_eq_div_mul]
  rw [hA] at hr hq
  rw [hB] at hb ⊢
  have hB2 : B = 2 * A + bt := by omega
  obtain ⟨t, ht⟩ : ∃ t, A / y = t := ⟨_, rfl⟩
  have hAt : A = y * t + r := by rw [hr, ← ht]; exact (Nat.div_add_mod A y).symm
  rw [ht] at hq
  have hbt : bt < 2 := by rw [← hb]; exact Nat.mod_lt _ (by decide)
  constructor
  · intro h
    have hB3 : B = y * (2 * t) + (r + r + bt) := by rw [hB2, hAt, Nat.mul_add, Nat.mul_left_comm]; omega
    rw [hB3, Nat.mul_add_mod, Nat.mod_eq_of_lt h, Nat.mul_add_div h0, Nat.div_eq_of_lt h]
    refine ⟨rfl, ?_⟩
    rw [hq, Nat.pow_succ, Nat.add_zero, Nat.mul_comm (2 ^ i) 2, ← Nat.mul_assoc, Nat.mul_comm t 2]
  · intro h hry
    have hB3 : B = y * (2 * t + 1) + (r + r + bt - y) := by
      rw [hB2, hAt, Nat.mul_add, Nat.mul_add, Nat.mul_left_comm]; omega
    have h' : r + r + bt - y < y := by omega
    rw [hB3, Nat.mul_add_mod, Nat.mod_eq_of_lt h', Nat.mul_add_div h0, Nat.div_eq_of_lt h']
    refine ⟨rfl, ?_⟩
    rw [hq, Nat.pow_succ, Nat.add_zero, Nat.add_mul, Nat.one_mul, Nat.mul_comm (2 ^ i) 2, ← Nat.mul_assoc, Nat.mul_comm t 2]

/-- a part of a number that ends in zeros ends in zeros -/
theorem part_low (q k m : Nat) (hm : m < 32) (hq : q % 2 ^ (32 * k + m + 1) = 0) : (q / 4294967296 ^ k % 4294967296) % 2 ^ (m + 1) = 0 := by
  have e1 : (4294967296 : Nat) ^ k = 2 ^ (32 * k) := by rw [Nat.pow_mul]
  have e2 : (4294967296 : Nat) = 2 ^ (m + 1) * 2 ^ (31 - m) := by
    rw [← Nat.pow_add, show m + 1 + (31 - m) = 32 from by omega]
  rw [e1]
  conv => lhs; lhs; rw [e2]
  rw [Nat.mod_mul_right_mod, ← Nat.mod_mul_right_div_self, ← Nat.pow_add, show 32 * k + (m + 1) = 32 * k + m + 1 from rfl, hq, Nat.zero_div]

theorem or_val (q k m : Nat) (hm : m < 32) (hq : q % 2 ^ (32 * k + m + 1) = 0) : bits .or .u32 (dg k q) (2 ^ m % 4294967296) = dg k q + 2 ^ m ∧ dg k q + 2 ^ m ≤ 4294967295 := by
  have hl := part_low q k m hm hq
  obtain ⟨z, hz⟩ : ∃ z, q / 4294967296 ^ k % 4294967296 = z := ⟨_, rfl⟩
  have hz2 : z < 4294967296 := by rw [← hz]; exact Nat.mod_lt _ (by decide)
  rw [hz] at hl
  have hd : dg k q = (z : Int) := by unfold dg; rw [hz]
  have hp : 2 ^ m < 4294967296 := by
    have : 2 ^ m < 2 ^ 32 := Nat.pow_lt_pow_right (by decide) hm
    simpa using this
  have hc : ((2 : Int) ^ m % 4294967296) = ((2 ^ m : Nat) : Int) := by
    rw [Int.natCast_pow]
    have : ((2 : Int) ^ m) = ((2 ^ m : Nat) : Int) := by rw [Int.natCast_pow]; rfl
    rw [this]
    omega
  have hc2 : ((2 : Int) ^ m) = ((2 ^ m : Nat) : Int) := by rw [Int.natCast_pow]; rfl
  rw [hd, hc, hc2, u32_or_nat _ _ hz2 hp, nat_join (m + 1) z (2 ^ m) hl (Nat.pow_lt_pow_right (by decide) (by omega))]
  refine ⟨by omega, ?_⟩
  -- z is a multiple of 2^(m+1), as 2^32 is
  have e2 : (4294967296 : Nat) = 2 ^ (m + 1) * 2 ^ (31 - m) := by
    rw [← Nat.pow_add, show m + 1 + (31 - m) = 32 from by omega]
  have h3 : z + 2 ^ (m + 1) ≤ 4294967296 := by
    obtain ⟨t, ht⟩ := Nat.dvd_of_mod_eq_zero hl
    rw [ht, e2] at hz2
    have : t < 2 ^ (31 - m) := Nat.lt_of_mul_lt_mul_left hz2
    have h4 : 2 ^ (m + 1) * (t + 1) ≤ 2 ^ (m + 1) * 2 ^ (31 - m) := Nat.mul_le_mul_left _ this
    rw [← e2, Nat.mul_add, ← ht, Nat.mul_one] at h4
    exact h4
  have h5 : 2 ^ (m + 1) = 2 ^ m * 2 := Nat.pow_succ ..
  have h6 : 1 ≤ 2 ^ m := Nat.one_le_two_pow
  omega

/-- a bit is put into a number that has none from there down -/
theorem or_part (q i : Nat) (hi : i < 128) (hqb : q < big) (hq : q % 2 ^ (i + 1) = 0) : (pN q).setIfInBounds (i / 32) (.int .u32 (bits .or .u32 (dg (i / 32) q) (2 ^ (i % 32) % 4294967296))) = pN (q + 2 ^ i) := by
  obtain ⟨m, hm⟩ : ∃ m, i % 32 = m := ⟨_, rfl⟩
  have hm2 : m < 32 := by omega
  rw [hm]
  have hb := vN_open q hqb
  obtain ⟨b0, b0'⟩ := dg_bd 0 q
  obtain ⟨b1, b1'⟩ := dg_bd 1 q
  obtain ⟨b2, b2'⟩ := dg_bd 2 q
  obtain ⟨b3, b3'⟩ := dg_bd 3 q
  have hn : (q : Int) = num4 (dg 0 q) (dg 1 q) (dg 2 q) (dg 3 q) := by
    unfold big at hqb
    unfold num4
    rw [dg0, dg1, dg2, dg3]
    omega
  have hpos : (0 : Int) < 2 ^ m := Int.pow_pos (by decide)
  have key : ∀ v : Array Value, Value.agg v = vN (q + 2 ^ i) → v = pN (q + 2 ^ i) := fun v h => by injection h
  have h2i : ∀ k, i / 32 = k → ((2 ^ i : Nat) : Int) = ((4294967296 ^ k : Nat) : Int) * 2 ^ m := by
    intro k hk
    have : i = 32 * k + m := by omega
    rw [this, Nat.pow_add, Nat.pow_mul, Int.natCast_mul]
    congr 1
  have hk4 : i / 32 < 4 := by omega
  obtain ⟨k, hk⟩ : ∃ k, i / 32 = k := ⟨_, rfl⟩
  have hi2 := h2i k hk
  rw [hk] at hk4 ⊢
  have hq' : q % 2 ^ (32 * k + m + 1) = 0 := by
    have : 32 * k + m + 1 = i + 1 := by omega
    rw [this]; exact hq
  obtain ⟨v1, v2⟩ := or_val q k m hm2 hq'
  rw [v1]
  clear h2i
  match k, hk4 with
  | 0, _ =>
    refine key _ (vN_shut (dg 0 q + 2 ^ m) (dg 1 q) (dg 2 q) (dg 3 q) _ (by omega) ?_)
    rw [Int.natCast_add, hi2, hn]; unfold num4; simp; omega
  | 1, _ =>
    refine key _ (vN_shut (dg 0 q) (dg 1 q + 2 ^ m) (dg 2 q) (dg 3 q) _ (by omega) ?_)
    rw [Int.natCast_add, hi2, hn]; unfold num4; simp; omega
  | 2, _ =>
    refine key _ (vN_shut (dg 0 q) (dg 1 q) (dg 2 q + 2 ^ m) (dg 3 q) _ (by omega) ?_)
    rw [Int.natCast_add, hi2, hn]; unfold num4; simp; omega
  | 3, _ =>
    refine key _ (vN_shut (dg 0 q) (dg 1 q) (dg 2 q) (dg 3 q + 2 ^ m) _ (by omega) ?_)
    rw [Int.natCast_add, hi2, hn]; unfold num4; simp; omega

theorem div_end {w w4 : World} {B6 : Nat} (x y q r r' i : Nat) (hlt : w.heap.size + 1 + 1 + 1 + 1 + 1 < B6) (hB : Below w.heap.size w w4) (r0 : Row w4 w.heap.size 28 (pN x)) (r1 : Row w4 (w.heap.size + 1) 28 (pN y)) (r2 : Row w4 (w.heap.size + 1 + 1) 28 #[vU 0, vU 0, vU 0, vU 0]) (r3 : Row w4 (w.heap.size + 1 + 1 + 1) 28 #[vU 0, vU 0, vU 0, vU 0]) (r4 : Row w4 (w.heap.size + 1 + 1 + 1 + 1) 28 (pN q)) (r5 : Row w4 (w.heap.size + 1 + 1 + 1 + 1 + 1) 28 (pN r)) (hi : i < 128) (hqb : q < big) (hqm : q % 2 ^ (i + 1) = 0) :
    Row ((((((((((w4.setCell ⟨B6, 0, none⟩ (.int .u32 (dg 0 r'))).setCell ⟨B6, 1, none⟩ (.int .u32 (dg 1 r'))).setCell ⟨B6, 2, none⟩ (.int .u32 (dg 2 r'))).setCell ⟨B6, 3, none⟩ (.int .u32 (dg 3 r'))).setCell ⟨w.heap.size + 1 + 1 + 1 + 1, i / 32, none⟩ (.int .u32 (bits .or .u32 (dg (i / 32) q) (2 ^ (i % 32) % 4294967296)))).setCell ⟨w.heap.size + 1 + 1 + 1 + 1 + 1, 0, none⟩ (.int .u32 (dg 0 r'))).setCell ⟨w.heap.size + 1 + 1 + 1 + 1 + 1, 1, none⟩ (.int .u32 (dg 1 r'))).setCell ⟨w.heap.size + 1 + 1 + 1 + 1 + 1, 2, none⟩ (.int .u32 (dg 2 r'))).setCell ⟨w.heap.size + 1 + 1 + 1 + 1 + 1, 3, none⟩ (.int .u32 (dg 3 r'))).drew) w.heap.size 28 (pN x) ∧ Row ((((((((((w4.setCell ⟨B6, 0, none⟩ (.int .u32 (dg 0 r'))).setCell ⟨B6, 1, none⟩ (.int .u32 (dg 1 r'))).setCell ⟨B6, 2, none⟩ (.int .u32 (dg 2 r'))).setCell ⟨B6, 3, none⟩ (.int .u32 (dg 3 r'))).setCell ⟨w.heap.size + 1 + 1 + 1 + 1, i / 32, none⟩ (.int .u32 (bits .or .u32 (dg (i / 32) q) (2 ^ (i % 32) % 4294967296)))).setCell ⟨w.heap.size + 1 + 1 + 1 + 1 + 1, 0, none⟩ (.int .u32 (dg 0 r'))).setCell ⟨w.heap.size + 1 + 1 + 1 + 1 + 1, 1, none⟩ (.int .u32 (dg 1 r'))).setCell ⟨w.heap.size + 1 + 1 + 1 + 1 + 1, 2, none⟩ (.int .u32 (dg 2 r'))).setCell ⟨w.heap.size + 1 + 1 + 1 + 1 + 1, 3, none⟩ (.int .u32 (dg 3 r'))).drew) (w.heap.size + 1) 28 (pN y) ∧ Row ((((((((((w4.setCell ⟨B6, 0, none⟩ (.int .u32 (dg 0 r'))).setCell ⟨B6, 1, none⟩ (.int .u32 (dg 1 r'))).setCell ⟨B6, 2, none⟩ (.int .u32 (dg 2 r'))).setCell ⟨B6, 3, none⟩ (.int .u32 (dg 3 r'))).setCell ⟨w.heap.size + 1 + 1 + 1 + 1, i / 32, none⟩ (.int .u32 (bits .or .u32 (dg (i / 32) q) (2 ^ (i % 32) % 4294967296)))).setCell ⟨w.heap.size + 1 + 1 + 1 + 1 + 1, 0, none⟩ (.int .u32 (dg 0 r'))).setCell ⟨w.heap.size + 1 + 1 + 1 + 1 + 1, 1, none⟩ (.int .u32 (dg 1 r'))).setCell ⟨w.heap.size + 1 + 1 + 1 + 1 + 1, 2, none⟩ (.int .u32 (dg 2 r'))).setCell ⟨w.heap.size + 1 + 1 + 1 + 1 + 1, 3, none⟩ (.int .u32 (dg 3 r'))).drew) (w.heap.size + 1 + 1) 28 #[vU 0, vU 0, vU 0, vU 0] ∧ Row ((((((((((w4.setCell ⟨B6, 0, none⟩ (.int .u32 (dg 0 r'))).setCell ⟨B6, 1, none⟩ (.int .u32 (dg 1 r'))).setCell ⟨B6, 2, none⟩ (.int .u32 (dg 2 r'))).setCell ⟨B6, 3, none⟩ (.int .u32 (dg 3 r'))).setCell ⟨w.heap.size + 1 + 1 + 1 + 1, i / 32, none⟩ (.int .u32 (bits .or .u32 (dg (i / 32) q) (2 ^ (i % 32) % 4294967296)))).setCell ⟨w.heap.size + 1 + 1 + 1 + 1 + 1, 0, none⟩ (.int .u32 (dg 0 r'))).setCell ⟨w.heap.size + 1 + 1 + 1 + 1 + 1, 1, none⟩ (.int .u32 (dg 1 r'))).setCell ⟨w.heap.size + 1 + 1 + 1 + 1 + 1, 2, none⟩ (.int .u32 (dg 2 r'))).setCell ⟨w.heap.size + 1 + 1 + 1 + 1 + 1, 3, none⟩ (.int .u32 (dg 3 r'))).drew) (w.heap.size + 1 + 1 + 1) 28 #[vU 0, vU 0, vU 0, vU 0] ∧ Row ((((((((((w4.setCell ⟨B6, 0, none⟩ (.int .u32 (dg 0 r'))).setCell ⟨B6, 1, none⟩ (.int .u32 (dg 1 r'))).setCell ⟨B6, 2, none⟩ (.int .u32 (dg 2 r'))).setCell ⟨B6, 3, none⟩ (.int .u32 (dg 3 r'))).setCell ⟨w.heap.size + 1 + 1 + 1 + 1, i / 32, none⟩ (.int .u32 (bits .or .u32 (dg (i / 32) q) (2 ^ (i % 32) % 4294967296)))).setCell ⟨w.heap.size + 1 + 1 + 1 + 1 + 1, 0, none⟩ (.int .u32 (dg 0 r'))).setCell ⟨w.heap.size + 1 + 1 + 1 + 1 + 1, 1, none⟩ (.int .u32 (dg 1 r'))).setCell ⟨w.heap.size + 1 + 1 + 1 + 1 + 1, 2, none⟩ (.int .u32 (dg 2 r'))).setCell ⟨w.heap.size + 1 + 1 + 1 + 1 + 1, 3, none⟩ (.int .u32 (dg 3 r'))).drew) (w.heap.size + 1 + 1 + 1 + 1) 28 (pN (q + 2 ^ i)) ∧ Row ((((((((((w4.setCell ⟨B6, 0, none⟩ (.int .u32 (dg 0 r'))).setCell ⟨B6, 1, none⟩ (.int .u32 (dg 1 r'))).setCell ⟨B6, 2, none⟩ (.int .u32 (dg 2 r'))).setCell ⟨B6, 3, none⟩ (.int .u32 (dg 3 r'))).setCell ⟨w.heap.size + 1 + 1 + 1 + 1, i / 32, none⟩ (.int .u32 (bits .or .u32 (dg (i / 32) q) (2 ^ (i % 32) % 4294967296)))).setCell ⟨w.heap.size + 1 + 1 + 1 + 1 + 1, 0, none⟩ (.int .u32 (dg 0 r'))).setCell ⟨w.heap.size + 1 + 1 + 1 + 1 + 1, 1, none⟩ (.int .u32 (dg 1 r'))).setCell ⟨w.heap.size + 1 + 1 + 1 + 1 + 1, 2, none⟩ (.int .u32 (dg 2 r'))).setCell ⟨w.heap.size + 1 + 1 + 1 + 1 + 1, 3, none⟩ (.int .u32 (dg 3 r'))).drew) (w.heap.size + 1 + 1 + 1 + 1 + 1) 28 (pN r') ∧ Below w.heap.size w ((((((((((w4.setCell ⟨B6, 0, none⟩ (.int .u32 (dg 0 r'))).setCell ⟨B6, 1, none⟩ (.int .u32 (dg 1 r'))).setCell ⟨B6, 2, none⟩ (.int .u32 (dg 2 r'))).setCell ⟨B6, 3, none⟩ (.int .u32 (dg 3 r'))).setCell ⟨w.heap.size + 1 + 1 + 1 + 1, i / 32, none⟩ (.int .u32 (bits .or .u32 (dg (i / 32) q) (2 ^ (i % 32) % 4294967296)))).setCell ⟨w.heap.size + 1 + 1 + 1 + 1 + 1, 0, none⟩ (.int .u32 (dg 0 r'))).setCell ⟨w.heap.size + 1 + 1 + 1 + 1 + 1, 1, none⟩ (.int .u32 (dg 1 r'))).setCell ⟨w.heap.size + 1 + 1 + 1 + 1 + 1, 2, none⟩ (.int .u32 (dg 2 r'))).setCell ⟨w.heap.size + 1 + 1 + 1 + 1 + 1, 3, none⟩ (.int .u32 (dg 3 r'))).drew) := by
  have go : ∀ {b : Nat} {vs : Array Value}, Row w4 b 28 vs → b ≠ B6 → b ≠ w.heap.size + 1 + 1 + 1 + 1 → b ≠ w.heap.size + 1 + 1 + 1 + 1 + 1 → Row ((((((((((w4.setCell ⟨B6, 0, none⟩ (.int .u32 (dg 0 r'))).setCell ⟨B6, 1, none⟩ (.int .u32 (dg 1 r'))).setCell ⟨B6, 2, none⟩ (.int .u32 (dg 2 r'))).setCell ⟨B6, 3, none⟩ (.int .u32 (dg 3 r'))).setCell ⟨w.heap.size + 1 + 1 + 1 + 1, i / 32, none⟩ (.int .u32 (bits .or .u32 (dg (i / 32) q) (2 ^ (i % 32) % 4294967296)))).setCell ⟨w.heap.size + 1 + 1 + 1 + 1 + 1, 0, none⟩ (.int .u32 (dg 0 r'))).setCell ⟨w.heap.size + 1 + 1 + 1 + 1 + 1, 1, none⟩ (.int .u32 (dg 1 r'))).setCell ⟨w.heap.size + 1 + 1 + 1 + 1 + 1, 2, none⟩ (.int .u32 (dg 2 r'))).setCell ⟨w.heap.size + 1 + 1 + 1 + 1 + 1, 3, none⟩ (.int .u32 (dg 3 r'))).drew) b 28 vs :=
    fun h a b c => (((h.other4 a _ _ _ _).other b _).other4 c _ _ _ _).drew
  refine ⟨go r0 (by omega) (by omega) (by omega), go r1 (by omega) (by omega) (by omega), go r2 (by omega) (by omega) (by omega), go r3 (by omega) (by omega) (by omega), ?_, ?_, ?_⟩
  · have h4 := ((r4.other4 (b' := B6) (by omega) (.int .u32 (dg 0 r')) (.int .u32 (dg 1 r')) (.int .u32 (dg 2 r')) (.int .u32 (dg 3 r'))).set (i / 32) (.int .u32 (bits .or .u32 (dg (i / 32) q) (2 ^ (i % 32) % 4294967296)))).other4 (b' := w.heap.size + 1 + 1 + 1 + 1 + 1) (by omega) (.int .u32 (dg 0 r')) (.int .u32 (dg 1 r')) (.int .u32 (dg 2 r')) (.int .u32 (dg 3 r'))
    rw [or_part q i hi hqb hqm] at h4
    exact h4.drew
  · have h5 := Row.stored4 ((r5.other4 (b' := B6) (by omega) (.int .u32 (dg 0 r')) (.int .u32 (dg 1 r')) (.int .u32 (dg 2 r')) (.int .u32 (dg 3 r'))).other (b' := w.heap.size + 1 + 1 + 1 + 1) (j := i / 32) (by omega) (.int .u32 (bits .or .u32 (dg (i / 32) q) (2 ^ (i % 32) % 4294967296)))) (.int .u32 (dg 0 r')) (.int .u32 (dg 1 r')) (.int .u32 (dg 2 r')) (.int .u32 (dg 3 r'))
    exact h5.drew
  · exact (Below.stored4 (Below.setCell (p := ⟨w.heap.size + 1 + 1 + 1 + 1, i / 32, none⟩) (Below.stored4 hB (by omega) _ _ _ _) (by simp; omega) _) (by omega) _ _ _ _).drew

set_option maxHeartbeats 800000 in
theorem div_any (x y : Nat) (w : World) (hx : x < big) (hy : y < big) (h0 : 0 < y) :
    Calls Tryd.prog 35 #[vN x, vN y] w fun e w' => e = .returned (.tuple #[vN (x / y), vN (x % y)]) ∧ Below w.heap.size w w' := by
  go_enter Tryd.func35, Tryd.ntmps35
  go_wp2_with fail
  go_loopw [8] (fun i wr => ∃ (k q r : Nat), i = .int .i64 ((k : Int) - 1) ∧ k ≤ 128 ∧ r < y ∧ q < big ∧ 
      Row wr w.heap.size 28 (pN x) ∧ Row wr (w.heap.size + 1) 28 (pN y) ∧
      Row wr (w.heap.size + 1 + 1) 28 #[vU 0, vU 0, vU 0, vU 0] ∧ Row wr (w.heap.size + 1 + 1 + 1) 28 #[vU 0, vU 0, vU 0, vU 0] ∧
      Row wr (w.heap.size + 1 + 1 + 1 + 1) 28 (pN q) ∧ Row wr (w.heap.size + 1 + 1 + 1 + 1 + 1) 28 (pN r) ∧ Below w.heap.size w wr ∧
      Hid (r = x / 2 ^ k % y ∧ q = x / 2 ^ k / y * 2 ^ k)) (fun i _ => (intOf i + 1).toNat)
  case atStart =>
    have e2 : x / 2 ^ 128 = 0 := Nat.div_eq_of_lt hx
    obtain ⟨a0, a1, a2, a3, a4, a5, hB, -⟩ := rows6 (w := w) (v0 := pN x) (v1 := pN y) (v2 := #[vU 0, vU 0, vU 0, vU 0]) (v3 := #[vU 0, vU 0, vU 0, vU 0]) (v4 := #[vU 0, vU 0, vU 0, vU 0]) (v5 := #[vU 0, vU 0, vU 0, vU 0]) (t0 := 28) (t1 := 28) (t2 := 28) (t3 := 28) (t4 := 28) (t5 := 28) (Below.refl _ _)
    exact ⟨128, 0, 0, rfl, by omega, h0, by decide, a0, a1, a2, a3, a4, a5, hB, by rw [e2]; exact ⟨by simp, by simp⟩⟩
  case round =>
    obtain ⟨k, q, r, rfl, hk, hr, hq, r0, r1, r2, r3, r4, r5, hB, hR⟩ := hrel
    obtain ⟨x0, x1, x2, x3, -, -, -, -⟩ := row4 r0
    obtain ⟨y0, y1, y2, y3, -, -, -, -⟩ := row4 r1
    obtain ⟨e0, e1, e2, e3, -, -, -, -⟩ := row4 r5
    have z5 := r5.lt
    by_cases hk0 : k = 0
    · subst hk0
      obtain ⟨q0, q1, q2, q3, -, -, -, -⟩ := row4 r4
      obtain ⟨s0, s1, s2, s3, f0, f1, f2, f3⟩ := row4 r2
      obtain ⟨t0, t1, t2, t3, g0, g1, g2, g3⟩ := row4 r3
      clear x0 x1 x2 x3 y0 y1 y2 y3 hk
      go_wp2_with fail
      go_region
      go_wp2_with fail
      have hqr := hR.out
      rw [Nat.pow_zero, Nat.div_one, Nat.mul_one] at hqr
      rw [← hqr.1, ← hqr.2]
      have rX := ((r2.stored4 (.int .u32 (dg 0 q)) (.int .u32 (dg 1 q)) (.int .u32 (dg 2 q)) (.int .u32 (dg 3 q))).other4 (b' := w.heap.size + 1 + 1 + 1) (by omega) (.int .u32 (dg 0 r)) (.int .u32 (dg 1 r)) (.int .u32 (dg 2 r)) (.int .u32 (dg 3 r))).drew
      have rY := ((r3.other4 (b' := w.heap.size + 1 + 1) (by omega) (.int .u32 (dg 0 q)) (.int .u32 (dg 1 q)) (.int .u32 (dg 2 q)) (.int .u32 (dg 3 q))).stored4 (.int .u32 (dg 0 r)) (.int .u32 (dg 1 r)) (.int .u32 (dg 2 r)) (.int .u32 (dg 3 r))).drew
      refine bodyPost_ret (res_cc rfl rfl rfl (load4 rX) (load4 rY)) rfl ⟨rfl, ?_⟩
      exact (Below.stored4 (Below.stored4 hB (by omega) _ _ _ _) (by omega) _ _ _ _).drew
    · obtain ⟨i, rfl⟩ : ∃ i, k = i + 1 := ⟨k - 1, by omega⟩
      clear hk0
      have hrb : r < big := by omega
      obtain ⟨D, hD⟩ : ∃ D, (r + r) % big = D := ⟨_, rfl⟩
      have hDb : D < big := by rw [← hD]; exact Nat.mod_lt _ (by decide)
      obtain ⟨c, hc⟩ : ∃ c, cry r r = c := ⟨_, rfl⟩
      have HD := Lib.hid hD
      have HC := Lib.hid hc
      clear hD hc
      go_upto_region 6 with (go_at_call 33; refine (add_any r r _ hrb hrb).mono ?_; rintro e w2 ⟨rfl, hb2⟩; rw [HD.out, HC.out])
      replace r0 := (r0.below hb2 (by omega)).alloc (.cells (pN D) 28)
      replace r1 := (r1.below hb2 (by omega)).alloc (.cells (pN D) 28)
      replace r2 := (r2.below hb2 (by omega)).alloc (.cells (pN D) 28)
      replace r3 := (r3.below hb2 (by omega)).alloc (.cells (pN D) 28)
      replace r4 := (r4.below hb2 (by omega)).alloc (.cells (pN D) 28)
      replace r5 := (r5.below hb2 (by omega)).alloc (.cells (pN D) 28)
      have r6 := Row.new w2 28 (pN D)
      have hB6 := (hB.trans (hb2.mono hB.size)).alloc (by have := hB.size; have := hb2.size; omega) (.cells (pN D) 28)
      obtain ⟨B6, hB6e⟩ : ∃ B6, w2.heap.size = B6 := ⟨_, rfl⟩
      have hlt : w.heap.size + 1 + 1 + 1 + 1 + 1 < B6 := by rw [← hB6e]; have := hb2.size; omega
      rw [hB6e] at r6
      simp only [hB6e]
      obtain ⟨W, hW⟩ : ∃ W, w2.alloc (.cells (pN D) 28) = W := ⟨_, rfl⟩
      rw [hW] at r0 r1 r2 r3 r4 r5 r6 hB6
      rw [hW]
      clear hW hB6e hB hb2 x0 x1 x2 x3 y0 y1 y2 y3 e0 e1 e2 e3 z5
      obtain ⟨x0, x1, x2, x3, -, -, -, -⟩ := row4 r0
      obtain ⟨d0, d1, d2, d3, -, -, -, -⟩ := row4 r6
      have z0 := r0.lt
      have z6 := r6.lt
      obtain ⟨bt, hbt⟩ : ∃ bt, x / 2 ^ i % 2 = bt := ⟨_, rfl⟩
      have hbt2 : bt < 2 := by rw [← hbt]; exact Nat.mod_lt _ (by decide)
      have hbit := bit_any x i
      rw [hbt] at hbit
      have HBIT := Lib.hid hbit
      have HBT := Lib.hid hbt
      obtain ⟨p0, p1, p2, p3⟩ := dbl_parts r bt hbt2
      rw [HD.out] at p0 p1 p2 p3
      obtain ⟨E, hE⟩ : ∃ E, (r + r + bt) % big = E := ⟨_, rfl⟩
      rw [hE] at p0 p1 p2 p3
      have HE := Lib.hid hE
      have HP := Lib.hid (And.intro p0 (And.intro p1 (And.intro p2 p3)))
      clear hbit hbt hE p0 p1 p2 p3
      have H0 := Lib.hid r0
      have H1 := Lib.hid r1
      have H2 := Lib.hid r2
      have H3 := Lib.hid r3
      have H4 := Lib.hid r4
      have H5 := Lib.hid r5
      have H6 := Lib.hid r6
      clear r0 r1 r2 r3 r4 r5 r6
      go_cut [] (fun wx => Row wx w.heap.size 28 (pN x) ∧ Row wx (w.heap.size + 1) 28 (pN y) ∧ Row wx (w.heap.size + 1 + 1) 28 (pN 0) ∧ Row wx (w.heap.size + 1 + 1 + 1) 28 (pN 0) ∧
        Row wx (w.heap.size + 1 + 1 + 1 + 1) 28 (pN q) ∧ Row wx (w.heap.size + 1 + 1 + 1 + 1 + 1) 28 (pN r) ∧ Row wx B6 28 (pN E) ∧ Below w.heap.size w wx)
      case first =>
        go_region_with
          ((go_at_call 53; refine (HBIT.out _ (by omega)).mono ?_; rintro e w3 ⟨rfl, hb3⟩; have s4 := cell_on hb3 (by simpa using z6) (by simpa using d0); have r6' := Row.below (show Row W.drew B6 28 (pN D) from H6.out) hb3 (by simpa using z6); have f4 := r6'.frozen 0))
        all_goals
          go_wp2_with fail
          go_meet
          have b0 : ∀ {b : Nat} {t : TypeId} {vs : Array Value}, Row W b t vs → b ≠ B6 → ∀ v : Value, Row (w3.setCell ⟨B6, 0, none⟩ v) b t vs := fun h hne v => (Row.below (show Row W.drew _ _ _ from h) hb3 (by simpa using h.lt)).other hne v
          have e6 := r6'.set 0 (.int .u32 (bits .or .u32 (dg 0 D) (bt : Int)))
          obtain ⟨p0, p1, p2, p3⟩ := HP.out
          rw [p0] at e6 ⊢
          refine ⟨b0 H0.out (by omega) _, b0 H1.out (by omega) _, b0 H2.out (by omega) _, b0 H3.out (by omega) _, b0 H4.out (by omega) _, b0 H5.out (by omega) _, ?_, ?_⟩
          · rw [show pN E = #[.int .u32 (dg 0 E), .int .u32 (dg 1 D), .int .u32 (dg 2 D), .int .u32 (dg 3 D)] by rw [p1, p2, p3]]
            exact e6
          · exact (hB6.trans ((Below.refl _ W).drew.trans (hb3.mono (by simp; exact hB6.size)))).setCell (p := ⟨B6, 0, none⟩) (by simp; omega) _
      case rest =>
        obtain ⟨r0, r1, r2, r3, r4, r5, r6, hB⟩ := hcut
        clear H0 H1 H2 H3 H4 H5 H6 x0 x1 x2 x3 d0 d1 d2 d3 HP HBIT hB6
        have z0 := r0.lt
        have z6 := r6.lt
        have hEb : E < big := by rw [← HE.out]; exact Nat.mod_lt _ (by decide)
        obtain ⟨ce0, ce1, ce2, ce3, fe0, fe1, fe2, fe3⟩ := row4 r6
        obtain ⟨cy0, cy1, cy2, cy3, -, -, -, -⟩ := row4 r1
        obtain ⟨cr0, cr1, cr2, cr3, fr0, fr1, fr2, fr3⟩ := row4 r5
        by_cases hge : y ≤ r + r + bt
        · have hsub : (E + big - y) % big = r + r + bt - y := by
            rw [← HE.out]; unfold big at *; omega
          have HS := Lib.hid hsub
          have hr'0 : r + r + bt - y < y := by omega
          obtain ⟨r', hr'e⟩ : ∃ r', r + r + bt - y = r' := ⟨_, rfl⟩
          have HR' := Lib.hid hr'e
          clear hsub hr'e
          have hcc : c = 0 ∧ 0 ≤ cmpN E y ∨ 0 < c := by
            rw [← HC.out]; unfold cry cmpN
            by_cases hb2 : r + r < big
            · left
              have : E = r + r + bt := by rw [← HE.out]; unfold big at *; omega
              rw [Nat.div_eq_of_lt hb2, if_neg (by omega)]
              exact ⟨rfl, by split <;> omega⟩
            · right
              have : 0 < (r + r) / big := Nat.div_pos (by omega) (by decide)
              omega
          rcases hcc with ⟨hc0, hcmp⟩ | hc0
          · subst hc0
            go_wp2_with (first
              | (go_at_call 20; refine (Cmp_any E y _ hEb hy).mono ?_; rintro e w4 ⟨rfl, hb4⟩; replace r0 := r0.below hb4 r0.lt; replace r1 := r1.below hb4 r1.lt; replace r2 := r2.below hb4 r2.lt; replace r3 := r3.below hb4 r3.lt; replace r4 := r4.below hb4 r4.lt; replace r5 := r5.below hb4 r5.lt; replace r6 := r6.below hb4 z6; replace hB := hB.trans (hb4.mono hB.size); clear hb4; obtain ⟨ce0, ce1, ce2, ce3, -, -, -, -⟩ := row4 r6; obtain ⟨cy0, cy1, cy2, cy3, -, -, -, -⟩ := row4 r1)
              | (go_at_call 36; refine (sub_any E y _ hEb hy).mono ?_; rintro e w4 ⟨rfl, hb4⟩; rw [HS.out, HR'.out]; replace r0 := r0.below hb4 r0.lt; replace r1 := r1.below hb4 r1.lt; replace r2 := r2.below hb4 r2.lt; replace r3 := r3.below hb4 r3.lt; replace r4 := r4.below hb4 r4.lt; replace r5 := r5.below hb4 r5.lt; replace r6 := r6.below hb4 r6.lt; replace hB := hB.trans (hb4.mono hB.size); clear hb4; obtain ⟨ce0, ce1, ce2, ce3, fe0, fe1, fe2, fe3⟩ := row4 r6; have cq := dg_cell r4 (i / 32) (by omega); have fq := r4.frozen (i / 32); obtain ⟨cr0, cr1, cr2, cr3, fr0, fr1, fr2, fr3⟩ := row4 r5; obtain ⟨dq0, dq1⟩ := dg_bd (i / 32) q))
            go_region
            go_wp2_with fail
            go_roundw
            case rel =>
              have hst := (div_step x y i r q bt h0 HBT.out hR.out.1 hR.out.2).2 hge hr
              have hqm : q % 2 ^ (i + 1) = 0 := by rw [hR.out.2]; exact Nat.mul_mod_left _ _
              have hq2 : q + 2 ^ i < big := by
                rw [hst.2]
                have h1 : x / 2 ^ i / y * 2 ^ i ≤ x / 2 ^ i * 2 ^ i := Nat.mul_le_mul_right _ (Nat.div_le_self _ _)
                have h2 : x / 2 ^ i * 2 ^ i ≤ x := Nat.div_mul_le_self _ _
                omega
              have hend := div_end x y q r r' i (by omega) hB r0 r1 r2 r3 r4 r5 (by omega) (by omega) hqm
              exact ⟨i, q + 2 ^ i, r', rfl, by omega, by rw [← HR'.out]; exact hr'0, hq2, hend.1, hend.2.1, hend.2.2.1, hend.2.2.2.1, hend.2.2.2.2.1, hend.2.2.2.2.2.1, hend.2.2.2.2.2.2, by rw [← HR'.out]; exact hst⟩
            case measure => simp [intOf]
          · have hc1 : c ≠ 0 := by omega
            clear hc1
            go_wp2_with (go_at_call 36; refine (sub_any E y _ hEb hy).mono ?_; rintro e w4 ⟨rfl, hb4⟩; rw [HS.out, HR'.out]; replace r0 := r0.below hb4 r0.lt; replace r1 := r1.below hb4 r1.lt; replace r2 := r2.below hb4 r2.lt; replace r3 := r3.below hb4 r3.lt; replace r4 := r4.below hb4 r4.lt; replace r5 := r5.below hb4 r5.lt; replace r6 := r6.below hb4 r6.lt; replace hB := hB.trans (hb4.mono hB.size); clear hb4; obtain ⟨ce0, ce1, ce2, ce3, fe0, fe1, fe2, fe3⟩ := row4 r6; have cq := dg_cell r4 (i / 32) (by omega); have fq := r4.frozen (i / 32); obtain ⟨cr0, cr1, cr2, cr3, fr0, fr1, fr2, fr3⟩ := row4 r5; obtain ⟨dq0, dq1⟩ := dg_bd (i / 32) q)
            go_region
            go_wp2_with fail
            go_roundw
            case rel =>
              have hst := (div_step x y i r q bt h0 HBT.out hR.out.1 hR.out.2).2 hge hr
              have hqm : q % 2 ^ (i + 1) = 0 := by rw [hR.out.2]; exact Nat.mul_mod_left _ _
              have hq2 : q + 2 ^ i < big := by
                rw [hst.2]
                have h1 : x / 2 ^ i / y * 2 ^ i ≤ x / 2 ^ i * 2 ^ i := Nat.mul_le_mul_right _ (Nat.div_le_self _ _)
                have h2 : x / 2 ^ i * 2 ^ i ≤ x := Nat.div_mul_le_self _ _
                omega
              have hend := div_end x y q r r' i (by omega) hB r0 r1 r2 r3 r4 r5 (by omega) (by omega) hqm
              exact ⟨i, q + 2 ^ i, r', rfl, by omega, by rw [← HR'.out]; exact hr'0, hq2, hend.1, hend.2.1, hend.2.2.1, hend.2.2.2.1, hend.2.2.2.2.1, hend.2.2.2.2.2.1, hend.2.2.2.2.2.2, by rw [← HR'.out]; exact hst⟩
            case measure => simp [intOf]
        · -- the bit is 0
          have hc0 : c = 0 := by
            rw [← HC.out]; unfold cry; rw [Nat.div_eq_of_lt (by omega)]; rfl
          have hE' : E = r + r + bt := by rw [← HE.out]; exact Nat.mod_eq_of_lt (by omega)
          have hcmp : cmpN E y < 0 := by unfold cmpN; rw [if_pos (by omega)]; omega
          subst hc0
          have HE2 := Lib.hid hE'
          clear hE'
          go_wp2_with (go_at_call 20; refine (Cmp_any E y _ hEb hy).mono ?_; rintro e w4 ⟨rfl, hb4⟩; replace r0 := r0.below hb4 r0.lt; replace r1 := r1.below hb4 r1.lt; replace r2 := r2.below hb4 r2.lt; replace r3 := r3.below hb4 r3.lt; replace r4 := r4.below hb4 r4.lt; replace r5 := r5.below hb4 r5.lt; replace r6 := r6.below hb4 z6; replace hB := hB.trans (hb4.mono hB.size); clear hb4; obtain ⟨ce0, ce1, ce2, ce3, -, -, -, -⟩ := row4 r6; obtain ⟨cr0, cr1, cr2, cr3, fr0, fr1, fr2, fr3⟩ := row4 r5)
          go_roundw
          case rel =>
            have hst := (div_step x y i r q bt h0 HBT.out hR.out.1 hR.out.2).1 (by omega)
            exact ⟨i, q, E, rfl, by omega, by rw [HE2.out]; omega, hq, r0.other4 (by omega) _ _ _ _, r1.other4 (by omega) _ _ _ _, r2.other4 (by omega) _ _ _ _, r3.other4 (by omega) _ _ _ _, r4.other4 (by omega) _ _ _ _, r5.stored4 _ _ _ _, Below.stored4 hB (by omega) _ _ _ _, by rw [HE2.out]; exact hst⟩
          case measure => simp [intOf]

end Go.Proofs.YtfciebajiihcfaaDoor
