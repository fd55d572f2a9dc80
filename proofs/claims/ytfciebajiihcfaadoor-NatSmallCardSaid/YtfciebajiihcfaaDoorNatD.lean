/- nat: Div, Gcd, mul, Mul -/
import Derived.Test.YtfciebajiihcfaaDoorNatC
import Derived.Deep.LoopGhost
namespace Go.Proofs.YtfciebajiihcfaaDoor
open Go.RowKit
set_option linter.unusedVariables false
set_option maxRecDepth 100000

/-- a number is 0 just where its parts are -/
theorem dg_zero (y : Nat) (hy : y < big) (h0 : 0 < y) : ((dg 0 y == 0) && ((dg 1 y == 0) && ((dg 2 y == 0) && (dg 3 y == 0)))) = false := by
  rw [Bool.eq_false_iff]
  intro h
  simp only [Bool.and_eq_true, beq_iff_eq] at h
  rw [dg0, dg1, dg2, dg3] at h
  unfold big at hy
  omega

@[go_sem] theorem equal4 (a0 a1 a2 a3 b0 b1 b2 b3 : Int) (w : World) : (Op.equalIn 10000 28 (.agg #[.int .u32 a0, .int .u32 a1, .int .u32 a2, .int .u32 a3]) (.agg #[.int .u32 b0, .int .u32 b1, .int .u32 b2, .int .u32 b3])).run Tryd.prog w =
    .ok ((a0 == b0) && ((a1 == b1) && ((a2 == b2) && (a3 == b3)))) w := by
  have h : ∀ (x y : Int) (w : World), (Op.equalIn 9999 26 (.int .u32 x) (.int .u32 y)).run Tryd.prog w = .ok (x == y) w := fun x y w => run_equalIn_int (P := Tryd.prog) w 9998 26 .u32 .u32 x y Tryd.underlying26
  have hagg : ∀ w : World, (isAgg 26).run Tryd.prog w = .ok false w := fun w => by kernel_rfl
  show (Op.equalIn (9999 + 1) _ _ _).run _ _ = _
  unfold Op.equalIn
  simp [run_underlying Tryd.underlying28, Sem.run_bind, Result.andThen, go_sem, List.range', List.forIn_cons, hagg, h]
  by_cases e0 : a0 = b0
  · by_cases e1 : a1 = b1
    · by_cases e2 : a2 = b2
      · by_cases e3 : a3 = b3 <;> simp [Sem.run_bind, Result.andThen, hagg, h, e0, e1, e2, e3]
      · simp [Sem.run_bind, Result.andThen, hagg, h, e0, e1, e2]
    · simp [Sem.run_bind, Result.andThen, hagg, h, e0, e1]
  · simp [e0]

/-- two numbers that differ, in the spelling of the walk -/
theorem dg_ne (x y : Nat) (hx : x < big) (hy : y < big) (h0 : x ≠ y) : ((dg 0 x == dg 0 y) && ((dg 1 x == dg 1 y) && ((dg 2 x == dg 2 y) && (dg 3 x == dg 3 y)))) = false := by
  rw [Bool.eq_false_iff]
  intro h
  simp only [Bool.and_eq_true, beq_iff_eq] at h
  rw [dg0, dg1, dg2, dg3, dg0, dg1, dg2, dg3] at h
  unfold big at hx hy
  omega

theorem Div_yes (x y : Nat) (w : World) (hx : x < big) (hy : y < big) (h0 : 0 < y) :
    Calls Tryd.prog 19 #[vN x, vN y] w fun e w' => e = .returned (.tuple #[vN (x / y), vN (x % y), .int .i64 0]) ∧ Below w.heap.size w w' := by
  have hz := dg_zero y hy h0
  go_enter Tryd.func19, Tryd.ntmps19
  go_wp2_with (go_at_call 35; refine (div_any x y _ hx hy h0).mono ?_; rintro e w2 ⟨rfl, hb2⟩; obtain ⟨r0, r1, r2, r3, hB, z0, z1, z2, z3⟩ := rows4 hb2; clear hb2; obtain ⟨s0, s1, s2, s3, f0, f1, f2, f3⟩ := row4 r2; obtain ⟨t0, t1, t2, t3, g0, g1, g2, g3⟩ := row4 r3)
  go_region
  go_wp2_with fail
  have rX := ((((r2.stored4 (.int .u32 (dg 0 (x / y))) (.int .u32 (dg 1 (x / y))) (.int .u32 (dg 2 (x / y))) (.int .u32 (dg 3 (x / y)))).other4 (b' := w.heap.size + 1 + 1 + 1) (by omega) (.int .u32 (dg 0 (x % y))) (.int .u32 (dg 1 (x % y))) (.int .u32 (dg 2 (x % y))) (.int .u32 (dg 3 (x % y)))).alloc (.cells (pN (x / y)) 28)).alloc (.cells (pN (x % y)) 28)).drew
  have rY := ((((r3.other4 (b' := w.heap.size + 1 + 1) (by omega) (.int .u32 (dg 0 (x / y))) (.int .u32 (dg 1 (x / y))) (.int .u32 (dg 2 (x / y))) (.int .u32 (dg 3 (x / y)))).stored4 (.int .u32 (dg 0 (x % y))) (.int .u32 (dg 1 (x % y))) (.int .u32 (dg 2 (x % y))) (.int .u32 (dg 3 (x % y)))).alloc (.cells (pN (x / y)) 28)).alloc (.cells (pN (x % y)) 28)).drew
  refine bodyPost_ret (res_cct rfl rfl rfl (load4 rX) (load4 rY)) rfl ⟨rfl, ?_⟩
  exact (((Below.stored4 (Below.stored4 hB (by omega) _ _ _ _) (by omega) _ _ _ _).alloc (by simp; omega) _).alloc (by simp; omega) _).drew

theorem Div_no (x : Nat) (w : World) :
    Calls Tryd.prog 19 #[vN x, vN 0] w fun e w' => e = .returned (.tuple #[vN 0, vN 0, .int .i64 2]) ∧ Below w.heap.size w w' := by
  go_enter Tryd.func19, Tryd.ntmps19
  have d0 : dg 0 0 = 0 := rfl
  have d1 : dg 1 0 = 0 := rfl
  have d2 : dg 2 0 = 0 := rfl
  have d3 : dg 3 0 = 0 := rfl
  go_wp2_with fail
  obtain ⟨-, -, r2, r3, hB, -⟩ := rows4 (w := w) (v0 := pN x) (v1 := pN 0) (v2 := #[vU 0, vU 0, vU 0, vU 0]) (v3 := #[vU 0, vU 0, vU 0, vU 0]) (t0 := 28) (t1 := 28) (t2 := 28) (t3 := 28) (Below.refl _ _)
  refine bodyPost_ret (res_cct rfl rfl rfl (load4 r2) (load4 r3)) rfl ⟨rfl, hB⟩

theorem Gcd_any (x y : Nat) (w : World) (hx : x < big) (hy : y < big) :
    Calls Tryd.prog 18 #[vN x, vN y] w fun e w' => e = .returned (vN (Nat.gcd x y)) ∧ Below w.heap.size w w' := by
  go_enter Tryd.func18, Tryd.ntmps18
  go_wp2_with fail
  have d0 : dg 0 0 = 0 := rfl
  have d1 : dg 1 0 = 0 := rfl
  have d2 : dg 2 0 = 0 := rfl
  have d3 : dg 3 0 = 0 := rfl
  go_loopg [] y (fun g wr => ∃ a b : Nat, g = b ∧ a < big ∧ b < big ∧ Row wr w.heap.size 28 (pN a) ∧ Row wr (w.heap.size + 1) 28 (pN b) ∧ Row wr (w.heap.size + 1 + 1) 28 #[vU 0, vU 0, vU 0, vU 0] ∧ Below w.heap.size w wr ∧ Hid (Nat.gcd a b = Nat.gcd x y))
  case atStart =>
    obtain ⟨r0, r1, r2, hB, -⟩ := rows3 (w := w) (v0 := pN x) (v1 := pN y) (v2 := #[vU 0, vU 0, vU 0, vU 0]) (t0 := 28) (t1 := 28) (t2 := 28) (Below.refl _ _)
    exact ⟨x, y, rfl, hx, hy, r0, r1, r2, hB, rfl⟩
  case round =>
    obtain ⟨a, b, rfl, ha, hb, r0, r1, r2, hB, hg⟩ := hrel
    obtain ⟨ca0, ca1, ca2, ca3, fa0, fa1, fa2, fa3⟩ := row4 r0
    obtain ⟨cb0, cb1, cb2, cb3, fb0, fb1, fb2, fb3⟩ := row4 r1
    obtain ⟨cc0, cc1, cc2, cc3, fc0, fc1, fc2, fc3⟩ := row4 r2
    by_cases hb0 : gk = 0
    · subst hb0
      go_wp2_with fail
      refine bodyPost_ret (res_c rfl rfl (load4 (r2.stored4 _ _ _ _))) rfl ⟨?_, Below.stored4 hB (by omega) _ _ _ _⟩
      rw [← hg.out, Nat.gcd_zero_right]
    · have hz := dg_zero gk hb (by omega)
      have hpos : 0 < gk := by omega
      clear hb0
      go_wp2_with (go_at_call 35; refine (div_any a gk _ ha hb hpos).mono ?_; rintro e w2 ⟨rfl, hb2⟩; replace r0 := r0.below hb2 r0.lt; replace r1 := r1.below hb2 r1.lt; replace r2 := r2.below hb2 r2.lt; replace hB := hB.trans (hb2.mono hB.size); clear hb2; obtain ⟨ca0, ca1, ca2, ca3, fa0, fa1, fa2, fa3⟩ := row4 r0; obtain ⟨cb0, cb1, cb2, cb3, fb0, fb1, fb2, fb3⟩ := row4 r1; have z1 := r1.lt; have z0 := r0.lt)
      go_region
      go_wp2_with fail
      go_roundg (a % gk)
      case measure => exact Nat.mod_lt _ hpos
      case rel =>
        refine ⟨gk, a % gk, rfl, hb, Nat.lt_of_lt_of_le (Nat.mod_lt _ hpos) (Nat.le_of_lt hb), ?_, ?_, ?_, ?_, ?_⟩
        · exact ((((r0.stored4 (.int .u32 (dg 0 gk)) (.int .u32 (dg 1 gk)) (.int .u32 (dg 2 gk)) (.int .u32 (dg 3 gk))).other4 (b' := w.heap.size + 1) (by omega) (.int .u32 (dg 0 (a % gk))) (.int .u32 (dg 1 (a % gk))) (.int .u32 (dg 2 (a % gk))) (.int .u32 (dg 3 (a % gk)))).alloc (.cells (pN (a / gk)) 28)).alloc (.cells (pN (a % gk)) 28)).drew
        · exact ((((r1.other4 (b' := w.heap.size) (by omega) (.int .u32 (dg 0 gk)) (.int .u32 (dg 1 gk)) (.int .u32 (dg 2 gk)) (.int .u32 (dg 3 gk))).stored4 (.int .u32 (dg 0 (a % gk))) (.int .u32 (dg 1 (a % gk))) (.int .u32 (dg 2 (a % gk))) (.int .u32 (dg 3 (a % gk)))).alloc (.cells (pN (a / gk)) 28)).alloc (.cells (pN (a % gk)) 28)).drew
        · exact ((((r2.other4 (b' := w.heap.size) (by omega) (.int .u32 (dg 0 gk)) (.int .u32 (dg 1 gk)) (.int .u32 (dg 2 gk)) (.int .u32 (dg 3 gk))).other4 (b' := w.heap.size + 1) (by omega) (.int .u32 (dg 0 (a % gk))) (.int .u32 (dg 1 (a % gk))) (.int .u32 (dg 2 (a % gk))) (.int .u32 (dg 3 (a % gk)))).alloc (.cells (pN (a / gk)) 28)).alloc (.cells (pN (a % gk)) 28)).drew
        · exact (((Below.stored4 (Below.stored4 hB (Nat.le_refl _) _ _ _ _) (by omega) _ _ _ _).alloc (by simp; omega) _).alloc (by simp; omega) _).drew
        · unfold Hid
          rw [← hg.out, Nat.gcd_comm a gk, Nat.gcd_rec gk a, Nat.gcd_comm]

end Go.Proofs.YtfciebajiihcfaaDoor
