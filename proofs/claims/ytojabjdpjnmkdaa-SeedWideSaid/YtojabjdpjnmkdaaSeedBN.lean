/- seed: BelowNat, what is rejected -/
import Derived.Test.YtojabjdpjnmkdaaSeedAwake
import Derived.Test.YtojabjdpjnmkdaaNatB
namespace Go.Proofs.Ytojabjdpjnmkdaa
open Go.RowKit
set_option linter.unusedVariables false
set_option linter.unusedSimpArgs false
set_option maxRecDepth 100000
set_option maxHeartbeats 2000000

abbrev lit4 (a b c d : Int) : Value := .agg #[.int .u32 a, .int .u32 b, .int .u32 c, .int .u32 d]

@[go_sem] theorem equalN (a0 a1 a2 a3 b0 b1 b2 b3 : Int) (w : World) : (Op.equalIn 10000 42 (.agg #[.int .u32 a0, .int .u32 a1, .int .u32 a2, .int .u32 a3]) (.agg #[.int .u32 b0, .int .u32 b1, .int .u32 b2, .int .u32 b3])).run Try.prog w =
    .ok ((a0 == b0) && ((a1 == b1) && ((a2 == b2) && (a3 == b3)))) w := by
  have h : ∀ (x y : Int) (w : World), (Op.equalIn 9999 40 (.int .u32 x) (.int .u32 y)).run Try.prog w = .ok (x == y) w := fun x y w => run_equalIn_int (P := Try.prog) w 9998 40 .u32 .u32 x y Try.underlying40
  have hagg : ∀ w : World, (isAgg 40).run Try.prog w = .ok false w := fun w => by kernel_rfl
  show (Op.equalIn (9999 + 1) _ _ _).run _ _ = _
  unfold Op.equalIn
  simp [run_underlying Try.underlying42, Sem.run_bind, Result.andThen, go_sem, List.range', List.forIn_cons, hagg, h]
  by_cases e0 : a0 = b0
  · by_cases e1 : a1 = b1
    · by_cases e2 : a2 = b2
      · by_cases e3 : a3 = b3 <;> simp [Sem.run_bind, Result.andThen, hagg, h, e0, e1, e2, e3]
      · simp [Sem.run_bind, Result.andThen, hagg, h, e0, e1, e2]
    · simp [Sem.run_bind, Result.andThen, hagg, h, e0, e1]
  · simp [e0]

theorem BN_state (s a0 a1 a2 a3 : Int) (w : World) (h : s < 1 ∨ 2147483646 < s) :
    Calls Try.prog 20 #[.int .i64 s, lit4 a0 a1 a2 a3] w fun e w' => e = .returned (.tuple #[.int .i64 0, lit4 0 0 0 0, .int .i64 2]) ∧ Below w.heap.size w w' := by
  refine callsIn_wide.1 ((callsIn_of_wp_marks (F := Fence.wide) (n := 0) Try.func20 rfl trivial ?_ rfl))
  simp only [Try.ntmps20, List.size_toArray, List.length_cons, List.length_nil, Nat.reduceAdd, Nat.reduceSub, Array.replicate_succ, Array.replicate_zero, List.push_toArray, List.append_toArray, List.nil_append, List.cons_append]
  have hfn : ∀ f, Fence.wide.fn f := fun _ => trivial
  have hdep : Fence.wide.depth = none := rfl
  gi_wp2_with (gi_at_call 15; refine (callsIn_wide.2 (Right_no _ _ h)).mono ?_; rintro e w' ⟨rfl, rfl⟩)
  obtain ⟨-, r1, hB, -⟩ := rows2 (w := w) (v0 := #[vU a0, vU a1, vU a2, vU a3]) (v1 := #[vU 0, vU 0, vU 0, vU 0]) (t0 := 42) (t1 := 42) (Below.refl _ _)
  exact ends_plain rfl (res_tct rfl rfl (load4 r1)) ⟨rfl, hB⟩

theorem BN_zero (w : World) :
    Calls Try.prog 20 #[.int .i64 1, lit4 0 0 0 0] w fun e w' => e = .returned (.tuple #[.int .i64 0, lit4 0 0 0 0, .int .i64 2]) ∧ Below w.heap.size w w' := by
  refine callsIn_wide.1 ((callsIn_of_wp_marks (F := Fence.wide) (n := 0) Try.func20 rfl trivial ?_ rfl))
  simp only [Try.ntmps20, List.size_toArray, List.length_cons, List.length_nil, Nat.reduceAdd, Nat.reduceSub, Array.replicate_succ, Array.replicate_zero, List.push_toArray, List.append_toArray, List.nil_append, List.cons_append]
  have hfn : ∀ f, Fence.wide.fn f := fun _ => trivial
  have hdep : Fence.wide.depth = none := rfl
  gi_wp2_with (gi_at_call 15; refine (callsIn_wide.2 (Right_yes 1 _ (by decide) (by decide))).mono ?_; rintro e w' ⟨rfl, rfl⟩)
  obtain ⟨-, r1, hB, -⟩ := rows2 (w := w) (v0 := #[vU 0, vU 0, vU 0, vU 0]) (v1 := #[vU 0, vU 0, vU 0, vU 0]) (t0 := 42) (t1 := 42) (Below.refl _ _)
  exact ends_plain rfl (res_tct rfl rfl (load4 r1)) ⟨rfl, hB⟩

theorem Cmp_big (x : Nat) (w : World) (hx : x < big) (h : 1329227995784915872903807060280344576 < x) :
    Calls Try.prog 21 #[vN x, lit4 0 0 0 16777216] w fun e w' => e = .returned (.int .i64 1) ∧ Below w.heap.size w w' := by
  have hc := Cmp_any x 1329227995784915872903807060280344576 w hx (by decide)
  have e1 : cmpN x 1329227995784915872903807060280344576 = 1 := by unfold cmpN; rw [if_neg (by omega), if_pos h]
  rw [e1, show vN 1329227995784915872903807060280344576 = lit4 0 0 0 16777216 by kernel_rfl] at hc
  exact hc

theorem BN_big (x : Nat) (w : World) (hx : x < big) (h : 1329227995784915872903807060280344576 < x) :
    Calls Try.prog 20 #[.int .i64 1, vN x] w fun e w' => e = .returned (.tuple #[.int .i64 0, lit4 0 0 0 0, .int .i64 2]) ∧ Below w.heap.size w w' := by
  have hz : ((dg 0 x == 0) && ((dg 1 x == 0) && ((dg 2 x == 0) && (dg 3 x == 0)))) = false := by
    rw [Bool.eq_false_iff]
    intro h2
    simp only [Bool.and_eq_true, beq_iff_eq] at h2
    obtain ⟨h20, h21, h22, h23⟩ := h2
    rw [dg0] at h20
    rw [dg1] at h21
    rw [dg2] at h22
    rw [dg3] at h23
    unfold big at hx
    omega
  refine callsIn_wide.1 ((callsIn_of_wp_marks (F := Fence.wide) (n := 0) Try.func20 rfl trivial ?_ rfl))
  simp only [Try.ntmps20, List.size_toArray, List.length_cons, List.length_nil, Nat.reduceAdd, Nat.reduceSub, Array.replicate_succ, Array.replicate_zero, List.push_toArray, List.append_toArray, List.nil_append, List.cons_append]
  have hfn : ∀ f, Fence.wide.fn f := fun _ => trivial
  have hdep : Fence.wide.depth = none := rfl
  gi_wp2_with (first
    | (gi_at_call 15; refine (callsIn_wide.2 (Right_yes 1 _ (by decide) (by decide))).mono ?_; rintro e w' ⟨rfl, rfl⟩)
    | (gi_at_call 21; refine (callsIn_wide.2 (Cmp_big x _ hx h)).mono ?_; rintro e w5 ⟨rfl, hb5⟩; obtain ⟨r0, r1, hB, z0, z1⟩ := rows2 hb5; obtain ⟨c0, c1, c2, c3, f0, f1, f2, f3⟩ := row4 r1))
  exact ends_plain rfl (res_tct rfl rfl (load4 (r1.stored4 (vU 0) (vU 0) (vU 0) (vU 0)))) ⟨rfl, Below.stored4 hB (by omega) _ _ _ _⟩

end Go.Proofs.Ytojabjdpjnmkdaa
