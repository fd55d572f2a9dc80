/- nat: mul -/
import Derived.Test.YtfciebajiihcfaaDoorNatP
import Derived.Test.YtfciebajiihcfaaDoorNatD
namespace Go.Proofs.YtfciebajiihcfaaDoor
open Go.RowKit
set_option linter.unusedVariables false
set_option maxRecDepth 100000

theorem row8 {w : World} {b : Nat} {t : TypeId} {x0 x1 x2 x3 x4 x5 x6 x7 : Value} (h : Row w b t #[x0, x1, x2, x3, x4, x5, x6, x7]) :
    w.cell? ⟨b, 0, none⟩ = some x0 ∧ w.cell? ⟨b, 1, none⟩ = some x1 ∧ w.cell? ⟨b, 2, none⟩ = some x2 ∧ w.cell? ⟨b, 3, none⟩ = some x3 ∧
    w.cell? ⟨b, 4, none⟩ = some x4 ∧ w.cell? ⟨b, 5, none⟩ = some x5 ∧ w.cell? ⟨b, 6, none⟩ = some x6 ∧ w.cell? ⟨b, 7, none⟩ = some x7 ∧
    w.frozen? ⟨b, 0, none⟩ = false ∧ w.frozen? ⟨b, 1, none⟩ = false ∧ w.frozen? ⟨b, 2, none⟩ = false ∧ w.frozen? ⟨b, 3, none⟩ = false ∧
    w.frozen? ⟨b, 4, none⟩ = false ∧ w.frozen? ⟨b, 5, none⟩ = false ∧ w.frozen? ⟨b, 6, none⟩ = false ∧ w.frozen? ⟨b, 7, none⟩ = false :=
  ⟨by rw [h.cell]; rfl, by rw [h.cell]; rfl, by rw [h.cell]; rfl, by rw [h.cell]; rfl, by rw [h.cell]; rfl, by rw [h.cell]; rfl, by rw [h.cell]; rfl, by rw [h.cell]; rfl,
    h.frozen 0, h.frozen 1, h.frozen 2, h.frozen 3, h.frozen 4, h.frozen 5, h.frozen 6, h.frozen 7⟩

@[go_sem] theorem arrA (a : Option Addr) (c : Nat) (w : World) : (Instr.arrayAt 28 (.slice a 4 c)).run Tryd.prog w = .ok (.pointer a) w := run_arrayAt (P := Tryd.prog) w 28 _ 4 a 4 c rfl (by decide)
@[go_sem] theorem arrB (a : Option Addr) (c : Nat) (w : World) : (Instr.arrayAt 27 (.slice a 4 c)).run Tryd.prog w = .ok (.pointer a) w := run_arrayAt (P := Tryd.prog) w 27 _ 4 a 4 c rfl (by decide)

@[go_sem] theorem equal4u (a0 a1 a2 a3 b0 b1 b2 b3 : Int) (w : World) : (Op.equalIn 10000 27 (.agg #[.int .u32 a0, .int .u32 a1, .int .u32 a2, .int .u32 a3]) (.agg #[.int .u32 b0, .int .u32 b1, .int .u32 b2, .int .u32 b3])).run Tryd.prog w =
    .ok ((a0 == b0) && ((a1 == b1) && ((a2 == b2) && (a3 == b3)))) w := by
  have h : ∀ (x y : Int) (w : World), (Op.equalIn 9999 26 (.int .u32 x) (.int .u32 y)).run Tryd.prog w = .ok (x == y) w := fun x y w => run_equalIn_int (P := Tryd.prog) w 9998 26 .u32 .u32 x y Tryd.underlying26
  have hagg : ∀ w : World, (isAgg 26).run Tryd.prog w = .ok false w := fun w => by kernel_rfl
  show (Op.equalIn (9999 + 1) _ _ _).run _ _ = _
  unfold Op.equalIn
  simp [run_underlying Tryd.underlying27, Sem.run_bind, Result.andThen, go_sem, List.range', List.forIn_cons, hagg, h]
  by_cases e0 : a0 = b0
  · by_cases e1 : a1 = b1
    · by_cases e2 : a2 = b2
      · by_cases e3 : a3 = b3 <;> simp [Sem.run_bind, Result.andThen, hagg, h, e0, e1, e2, e3]
      · simp [Sem.run_bind, Result.andThen, hagg, h, e0, e1, e2]
    · simp [Sem.run_bind, Result.andThen, hagg, h, e0, e1]
  · simp [e0]

theorem mul_first (x y i : Nat) (hy : y < 4294967296 ^ 4) : x % 4294967296 ^ i * y < 4294967296 ^ (i + 4) ∧ x % 4294967296 ^ i * y + 0 * 4294967296 ^ (i + 0) = x % 4294967296 ^ i * y + dn i x * 4294967296 ^ i * (y % 4294967296 ^ 0) := by
  refine ⟨?_, ?_⟩
  · rw [Nat.pow_add]
    exact Nat.mul_lt_mul'' (Nat.mod_lt _ (pos_pow i)) hy
  · rw [Nat.pow_zero, Nat.mod_one, Nat.mul_zero, Nat.zero_mul]

theorem mul_last (x y : Nat) (hx : x < 4294967296 ^ 4) (hy : y < 4294967296 ^ 4) :
    Value.agg #[.int .u32 (dg 0 (x * y)), .int .u32 (dg 1 (x * y)), .int .u32 (dg 2 (x * y)), .int .u32 (dg 3 (x * y))] = vN (x * y % big) ∧
    (dg 4 (x * y) == 0 && (dg 5 (x * y) == 0 && (dg 6 (x * y) == 0 && dg 7 (x * y) == 0))) = decide (x * y < big) := by
  have hb : x * y < 340282366920938463463374607431768211456 * 340282366920938463463374607431768211456 := Nat.mul_lt_mul'' hx hy
  obtain ⟨X, hX⟩ : ∃ X, x * y = X := ⟨_, rfl⟩
  rw [hX] at hb ⊢
  refine ⟨?_, ?_⟩
  · refine vN_shut _ _ _ _ _ ⟨(dg_bd 0 X).1, (dg_bd 0 X).2, (dg_bd 1 X).1, (dg_bd 1 X).2, (dg_bd 2 X).1, (dg_bd 2 X).2, (dg_bd 3 X).1, (dg_bd 3 X).2⟩ ?_
    unfold num4 big
    rw [dg0, dg1, dg2, dg3]
    omega
  · unfold dg big
    rw [Bool.eq_iff_iff]
    simp only [Bool.and_eq_true, beq_iff_eq, decide_eq_true_eq]
    simp only [show (4294967296:Nat)^4 = 340282366920938463463374607431768211456 from by decide, show (4294967296:Nat)^5 = 1461501637330902918203684832716283019655932542976 from by decide, show (4294967296:Nat)^6 = 6277101735386680763835789423207666416102355444464034512896 from by decide, show (4294967296:Nat)^7 = 26959946667150639794667015087019630673637144422540572481103610249216 from by decide]
    omega

theorem mul_any (x y : Nat) (w : World) (hx : x < big) (hy : y < big) :
    Calls Tryd.prog 34 #[vN x, vN y] w fun e w' => e = .returned (.tuple #[vN (x * y % big), .bool (decide (x * y < big))]) ∧ Below w.heap.size w w' := by
  have hx4 : x < 4294967296 ^ 4 := hx
  have hy4 : y < 4294967296 ^ 4 := hy
  have HX := Lib.hid hx4
  have HY := Lib.hid hy4
  clear hx4 hy4
  go_enter Tryd.func34, Tryd.ntmps34
  go_wp2_with fail
  go_loopw [10] (fun i wr => ∃ i' : Nat, i = .int .i64 i' ∧ i' ≤ 4 ∧ Row wr w.heap.size 28 (pN x) ∧ Row wr (w.heap.size + 1) 28 (pN y) ∧ Row wr (w.heap.size + 1 + 1) 28 #[vU 0, vU 0, vU 0, vU 0] ∧ Row wr (w.heap.size + 1 + 1 + 1) 89 (p8 (x % 4294967296 ^ i' * y)) ∧ Below w.heap.size w wr) (fun i _ => 4 - (intOf i).toNat)
  case atStart =>
    have e0 : p8 (x % 4294967296 ^ 0 * y) = #[vU 0, vU 0, vU 0, vU 0, vU 0, vU 0, vU 0, vU 0] := by simp [dg, Nat.mod_one]
    obtain ⟨a0, a1, a2, a3, hB, -⟩ := rows4 (w := w) (v0 := pN x) (v1 := pN y) (v2 := #[vU 0, vU 0, vU 0, vU 0]) (v3 := #[vU 0, vU 0, vU 0, vU 0, vU 0, vU 0, vU 0, vU 0]) (t0 := 28) (t1 := 28) (t2 := 28) (t3 := 89) (Below.refl _ _)
    exact ⟨0, rfl, by omega, a0, a1, a2, by rw [e0]; exact a3, hB⟩
  case round =>
    obtain ⟨i, rfl, hi, r0, r1, r2, r3, hB⟩ := hrel
    by_cases hi4 : i < 4
    · go_wp2_with fail
      obtain ⟨wo, hwo⟩ : ∃ wo : World, wo = wr := ⟨_, rfl⟩
      rw [← hwo] at r0 r1 r2 r3 hB
      rw [← hwo]
      clear hwo
      go_loopw [8, 13] (fun c k wr => ∃ (k' c' V : Nat), k = .int .i64 k' ∧ c = .int .u64 c' ∧ k' ≤ 4 ∧ c' < 4294967296 ∧ Row wr w.heap.size 28 (pN x) ∧ Row wr (w.heap.size + 1) 28 (pN y) ∧ Row wr (w.heap.size + 1 + 1) 28 #[vU 0, vU 0, vU 0, vU 0] ∧ Row wr (w.heap.size + 1 + 1 + 1) 89 (p8 V) ∧ Below w.heap.size w wr ∧
        Hid (V < 4294967296 ^ (i + 4) ∧ V + c' * 4294967296 ^ (i + k') = x % 4294967296 ^ i * y + dn i x * 4294967296 ^ i * (y % 4294967296 ^ k'))) (fun _ k _ => 4 - (intOf k).toNat)
      case atStart =>
        exact ⟨0, 0, x % 4294967296 ^ i * y, rfl, rfl, by omega, by omega, r0, r1, r2, r3, hB, mul_first x y i HY.out⟩
      case round =>
        obtain ⟨k, c, V, rfl, rfl, hk, hc, r0, r1, r2, r3, hB, hR⟩ := hrel
        by_cases hk4 : k < 4
        · obtain ⟨t, ht, ht1, ht2, ht3⟩ := mul_step _ V c i k (dn i x) y hk4 hc (dn_lt i x) hR.out.1 hR.out.2
          have HT := Lib.hid (And.intro ht2 ht3)
          have ca := dg_cell r0 i hi4
          have cb := dg_cell r1 k hk4
          have cv : wr.cell? ⟨w.heap.size + 1 + 1 + 1, i + k, none⟩ = some (.int .u32 (dg (i + k) V)) := by rw [r3.cell, p8_get V (i + k) (by omega)]
          have fv := r3.frozen (i + k)
          obtain ⟨a0, a1⟩ := dg_bd i x
          obtain ⟨b0, b1⟩ := dg_bd k y
          obtain ⟨v0, v1⟩ := dg_bd (i + k) V
          have hp0 : 0 ≤ dg i x * dg k y := Int.mul_nonneg a0 b0
          have hp1 : dg i x * dg k y ≤ 18446744065119617025 := by
            have := Int.mul_le_mul a1 b1 b0 (by omega)
            omega
          have hik : i + k < 8 := by omega
          replace ht := Lib.hid ht
          clear ht2 ht3
          go_wp2_with fail
          go_quiet (fail)
          go_wp2_with fail
          go_roundw
          case rel =>
            have et : ((c : Int) + (dg i x * dg k y + dg (i + k) V)) = (t : Int) := by
              rw [ht.out, dg_dn, dg_dn, dg_dn, Int.natCast_add, Int.natCast_add, Int.natCast_mul]
            rw [et]
            have r3' := ((r3.drewN nq).set (i + k) (.int .u32 ((t : Int) % 4294967296)))
            have e8 := p8_set V (i + k) (t % 4294967296) (Nat.mod_lt _ (by decide))
            rw [show (((t % 4294967296 : Nat)) : Int) = (t : Int) % 4294967296 from by omega] at e8
            rw [e8] at r3'
            exact ⟨k + 1, t / 4294967296, setp V (i + k) (t % 4294967296), by go_num, by go_num, by omega, ht1, (r0.drewN nq).other (by omega) _, (r1.drewN nq).other (by omega) _, (r2.drewN nq).other (by omega) _, r3', (Below.drewN hB nq).setCell (p := ⟨w.heap.size + 1 + 1 + 1, i + k, none⟩) (by simp; omega) _, HT.out⟩
          case measure => simp [intOf]; omega
        · obtain rfl : k = 4 := by omega
          have cv : wr.cell? ⟨w.heap.size + 1 + 1 + 1, i + 4, none⟩ = some (.int .u32 (dg (i + 4) V)) := by rw [r3.cell, p8_get V (i + 4) (by omega)]
          have fv := r3.frozen (i + 4)
          have hc' : (c : Int) < 4294967296 := by omega
          clear hk hk4
          have hz := hR.out
          have e8 := p8_set V (i + 4) c hc
          rw [mul_round x y _ V c i HY.out hz.1 rfl hz.2] at e8
          clear hz
          go_wp2_with fail
          go_roundw
          case rel =>
            have r3' := r3.set (i + 4) (.int .u32 (c : Int))
            rw [e8] at r3'
            exact ⟨i + 1, by go_num, by omega, r0.other (by omega) _, r1.other (by omega) _, r2.other (by omega) _, r3', hB.setCell (p := ⟨w.heap.size + 1 + 1 + 1, i + 4, none⟩) (by simp; omega) _⟩
          case measure => simp [intOf]; omega
    · obtain rfl : i = 4 := by omega
      rw [Nat.mod_eq_of_lt HX.out] at r3
      clear hi hi4
      obtain ⟨X, hX⟩ : ∃ X, x * y = X := ⟨_, rfl⟩
      rw [hX] at r3
      obtain ⟨D0, k0⟩ : ∃ D, dg 0 X = D := ⟨_, rfl⟩
      obtain ⟨D1, k1⟩ : ∃ D, dg 1 X = D := ⟨_, rfl⟩
      obtain ⟨D2, k2⟩ : ∃ D, dg 2 X = D := ⟨_, rfl⟩
      obtain ⟨D3, k3⟩ : ∃ D, dg 3 X = D := ⟨_, rfl⟩
      obtain ⟨D4, k4⟩ : ∃ D, dg 4 X = D := ⟨_, rfl⟩
      obtain ⟨D5, k5⟩ : ∃ D, dg 5 X = D := ⟨_, rfl⟩
      obtain ⟨D6, k6⟩ : ∃ D, dg 6 X = D := ⟨_, rfl⟩
      obtain ⟨D7, k7⟩ : ∃ D, dg 7 X = D := ⟨_, rfl⟩
      have r3' := r3
      rw [p8, k0, k1, k2, k3, k4, k5, k6, k7] at r3'
      obtain ⟨c0, c1, c2, c3, c4, c5, c6, c7, f0, f1, f2, f3, f4, f5, f6, f7⟩ := row8 r3'
      obtain ⟨_, _, _, _, g0, g1, g2, g3⟩ := row4 r2
      have HK : Hid (dg 0 X = D0 ∧ dg 1 X = D1 ∧ dg 2 X = D2 ∧ dg 3 X = D3 ∧ dg 4 X = D4 ∧ dg 5 X = D5 ∧ dg 6 X = D6 ∧ dg 7 X = D7) := ⟨k0, k1, k2, k3, k4, k5, k6, k7⟩
      have HB := Lib.hid (And.intro r0 (And.intro r1 (And.intro r2 (And.intro r3' hB))))
      have HXY := Lib.hid hX
      clear k0 k1 k2 k3 k4 k5 k6 k7 r0 r1 r2 r3 r3' hB hX
      go_wp2_with fail
      go_region
      go_wp2_with fail
      obtain ⟨r0, r1, r2, r3', hB⟩ := HB.out
      obtain ⟨k0, k1, k2, k3, k4, k5, k6, k7⟩ := HK.out
      obtain ⟨v0, v1⟩ := mul_last x y HX.out HY.out
      rw [HXY.out, k0, k1, k2, k3] at v0
      rw [HXY.out, k4, k5, k6, k7] at v1
      have rX := (r2.stored4 (.int .u32 D0) (.int .u32 D1) (.int .u32 D2) (.int .u32 D3)).drew
      have rl := load4 rX
      rw [HXY.out, ← v0, ← v1]
      refine bodyPost_ret (res_ct rfl rfl rl) rfl ⟨rfl, ?_⟩
      exact (Below.stored4 hB (by omega) _ _ _ _).drew

end Go.Proofs.YtfciebajiihcfaaDoor
