/- finesseref02: parts -/
import Derived.Test.YtfciebajiihcfaaDoorDigF
import Derived.Test.YtfciebajiihcfaaDoorNatP
namespace Go.Proofs.YtfciebajiihcfaaDoor
open Go.RowKit
set_option linter.unusedVariables false
set_option linter.unusedSimpArgs false
set_option maxRecDepth 100000
set_option maxHeartbeats 2000000

/-- what parts gives -/
def vParts (x : Nat) : Value := if x < big then .tuple #[vN x, .int .i64 0] else .tuple #[vN 0, .int .i64 3]

theorem set_part (x i : Nat) (hi : i < 4) : (pN (x % 4294967296 ^ i)).setIfInBounds i (.int .u32 ((x / 4294967296 ^ i % 4294967296 : Nat) : Int)) = pN (x % 4294967296 ^ (i + 1)) := by
  have h4 : i = 0 ∨ i = 1 ∨ i = 2 ∨ i = 3 := by omega
  rcases h4 with rfl | rfl | rfl | rfl
  · show #[Value.int .u32 _, Value.int .u32 _, Value.int .u32 _, Value.int .u32 _] = #[Value.int .u32 _, Value.int .u32 _, Value.int .u32 _, Value.int .u32 _]
    simp only [dg0, dg1, dg2, dg3, Nat.pow_zero, Nat.zero_add, Nat.pow_one, Nat.mod_one, Nat.div_one]
    have e1 : x % 4294967296 / 4294967296 % 4294967296 = 0 / 4294967296 % 4294967296 := by omega
    have e2 : x % 4294967296 / 18446744073709551616 % 4294967296 = 0 / 18446744073709551616 % 4294967296 := by omega
    have e3 : x % 4294967296 / 79228162514264337593543950336 % 4294967296 = 0 / 79228162514264337593543950336 % 4294967296 := by omega
    have e0 : x % 4294967296 % 4294967296 = x % 4294967296 := by omega
    rw [e0, e1, e2, e3]
  · show #[Value.int .u32 _, Value.int .u32 _, Value.int .u32 _, Value.int .u32 _] = #[Value.int .u32 _, Value.int .u32 _, Value.int .u32 _, Value.int .u32 _]
    simp only [dg0, dg1, dg2, dg3, Nat.pow_one, Nat.reduceAdd, Nat.reducePow]
    have e0 : x % 4294967296 % 4294967296 = x % 18446744073709551616 % 4294967296 := by omega
    have e1 : x / 4294967296 % 4294967296 = x % 18446744073709551616 / 4294967296 % 4294967296 := by omega
    have e2 : x % 4294967296 / 18446744073709551616 % 4294967296 = x % 18446744073709551616 / 18446744073709551616 % 4294967296 := by omega
    have e3 : x % 4294967296 / 79228162514264337593543950336 % 4294967296 = x % 18446744073709551616 / 79228162514264337593543950336 % 4294967296 := by omega
    rw [e0, e1, e2, e3]
  · show #[Value.int .u32 _, Value.int .u32 _, Value.int .u32 _, Value.int .u32 _] = #[Value.int .u32 _, Value.int .u32 _, Value.int .u32 _, Value.int .u32 _]
    simp only [dg0, dg1, dg2, dg3, Nat.reduceAdd, Nat.reducePow]
    have e0 : x % 18446744073709551616 % 4294967296 = x % 79228162514264337593543950336 % 4294967296 := by omega
    have e1 : x % 18446744073709551616 / 4294967296 % 4294967296 = x % 79228162514264337593543950336 / 4294967296 % 4294967296 := by omega
    have e2 : x / 18446744073709551616 % 4294967296 = x % 79228162514264337593543950336 / 18446744073709551616 % 4294967296 := by omega
    have e3 : x % 18446744073709551616 / 79228162514264337593543950336 % 4294967296 = x % 79228162514264337593543950336 / 79228162514264337593543950336 % 4294967296 := by omega
    rw [e0, e1, e2, e3]
  · show #[Value.int .u32 _, Value.int .u32 _, Value.int .u32 _, Value.int .u32 _] = #[Value.int .u32 _, Value.int .u32 _, Value.int .u32 _, Value.int .u32 _]
    simp only [dg0, dg1, dg2, dg3, Nat.reduceAdd, Nat.reducePow]
    have e0 : x % 79228162514264337593543950336 % 4294967296 = x % 340282366920938463463374607431768211456 % 4294967296 := by omega
    have e1 : x % 79228162514264337593543950336 / 4294967296 % 4294967296 = x % 340282366920938463463374607431768211456 / 4294967296 % 4294967296 := by omega
    have e2 : x % 79228162514264337593543950336 / 18446744073709551616 % 4294967296 = x % 340282366920938463463374607431768211456 / 18446744073709551616 % 4294967296 := by omega
    have e3 : x / 79228162514264337593543950336 % 4294967296 = x % 340282366920938463463374607431768211456 / 79228162514264337593543950336 % 4294967296 := by omega
    rw [e0, e1, e2, e3]

theorem load4' {w : World} {b : Nat} {t : TypeId} {x0 x1 x2 x3 : Value} (h : Row w b t #[x0, x1, x2, x3]) : (loadVar 27 ⟨b, 0, none⟩).run Tryd.prog w = .ok (.agg #[x0, x1, x2, x3]) w := by
  obtain ⟨c0, c1, c2, c3, f0, f1, f2, f3⟩ := row4 h
  simp [go_sem, c0, c1, c2, c3]

theorem parts_dg (va : Value) (x : Nat) (w : World) (ha : Dg w va x) (hx : (dgs x).length ≤ 50000) :
    Calls Tryd.prog 47 #[va] w fun e w' => e = .returned (vParts x) ∧ Below w.heap.size w w' := by
  have lw : (dgs 4294967296).length ≤ 50000 := Nat.le_trans (dgs_len_le (k := 10) (by decide)) (by decide)
  have lb : (dgs big).length ≤ 1000000 := Nat.le_trans (dgs_len_le (k := 40) (by decide)) (by decide)
  have d00 : dg 0 0 = 0 := rfl
  have d10 : dg 1 0 = 0 := rfl
  have d20 : dg 2 0 = 0 := rfl
  have d30 : dg 3 0 = 0 := rfl
  unfold vParts
  have HX := Lib.hid (And.intro ha hx)
  by_cases hb : x < big
  · rw [if_pos hb]
    have HB := Lib.hid hb
    have hlt : decide (x < big) = true := by simpa using hb
    clear ha hx hb
    go_enter Tryd.func47, Tryd.ntmps47
    go_wp2_with (go_at_call 66; refine stopD_of ?_)
    unfold StopD
    refine (most_dg _).mono ?_
    rintro e w1 ⟨v1, rfl, hv1, hb1⟩
    obtain ⟨r2, r4, hB, z2, z4⟩ := rows2 hb1
    have H1 := Lib.hid (And.intro hv1 (And.intro r2 (And.intro r4 hB)))
    clear hv1 hb1 r2 r4 hB
    go_wp2_with (go_at_call 63; refine stopD_of ?_)
    unfold StopD
    refine (less_any _ _ x big _ (HX.out.1.later H1.out.2.2.2) H1.out.1 (Nat.le_trans HX.out.2 (by decide)) lb).mono ?_
    rintro e w2 ⟨rfl, hb2⟩
    rw [hlt]
    have r2 := H1.out.2.1.below hb2 z2
    have r4 := H1.out.2.2.1.below hb2 z4
    have hB := H1.out.2.2.2.trans (hb2.mono (Nat.le_of_lt z2))
    have HV : Hid (Dg w2 va x) := Lib.hid (HX.out.1.later hB)
    clear hb2 H1 hlt
    go_wp2_with fail
    go_loopw [0, 5] (fun a i wr => ∃ (v : Value) (k : Nat), a = v ∧ i = .int .i64 (k : Int) ∧ k ≤ 4 ∧ Hid (Dg wr v (x / 4294967296 ^ k)) ∧ Row wr w.heap.size 27 (pN 0) ∧ Row wr (w.heap.size + 1) 27 (pN (x % 4294967296 ^ k)) ∧ Below w.heap.size w wr) (fun _ i _ => 4 - (intOf i).toNat)
    case atStart =>
      refine ⟨va, 0, rfl, rfl, by omega, Lib.hid (by rw [Nat.pow_zero, Nat.div_one]; exact HV.out), r2, ?_, hB⟩
      rw [Nat.pow_zero, Nat.mod_one]
      exact r4
    case round =>
      clear r2 r4 hB
      obtain ⟨v, k, hvv, rfl, hk, hz, r2, r4, hB⟩ := hrel
      subst hvv
      have z2 := r2.lt
      have z4 := r4.lt
      by_cases hk4 : k < 4
      · have hdm : x / 4294967296 ^ k / 4294967296 = x / 4294967296 ^ (k + 1) := by rw [Nat.pow_succ, Nat.div_div_eq_div_mul]
        obtain ⟨d, hd⟩ : ∃ d : Nat, x / 4294967296 ^ k % 4294967296 = d := ⟨_, rfl⟩
        have hdl : d < 4294967296 := by rw [← hd]; exact Nat.mod_lt _ (by decide)
        have hsp := set_part x k hk4
        rw [hd] at hsp
        have hlz : (dgs (x / 4294967296 ^ k)).length ≤ 50000 := Nat.le_trans (dgs_len_mono (Nat.div_le_self _ _)) HX.out.2
        have HH := Lib.hid (And.intro hdm (And.intro hd (And.intro hsp (And.intro hlz (And.intro r2 (And.intro r4 hB))))))
        clear hdm hd hsp hlz r2 r4 hB
        go_wp2_with (go_at_call 67; refine stopD_of ?_)
        unfold StopD
        refine (word_dg _).mono ?_
        rintro e w3 ⟨v3, rfl, hv3, hb3⟩
        have H3 := Lib.hid (And.intro (hz.out.later hb3) (And.intro hv3 hb3))
        clear hv3 hb3
        go_wp2_with (go_at_call 52; refine stopD_of ?_)
        unfold StopD
        refine (div_new _ _ _ _ _ H3.out.1 H3.out.2.1 HH.out.2.2.2.1 lw (by decide)).mono ?_
        rintro e w4 ⟨q, r, rfl, ⟨hq, hqn⟩, hr, hb4⟩
        have hqn' : NewD (w.heap.size + 1 + 1) q := hqn.mono (Nat.le_trans z4 H3.out.2.2.size)
        have hb04 := H3.out.2.2.trans (hb4.mono H3.out.2.2.size)
        rw [HH.out.1] at hq
        rw [HH.out.2.1] at hr
        have r2 := HH.out.2.2.2.2.1.below hb04 z2
        have r4 := HH.out.2.2.2.2.2.1.below hb04 z4
        have hB := HH.out.2.2.2.2.2.2.trans (hb04.mono HH.out.2.2.2.2.2.2.size)
        have zz := r4.lt
        obtain ⟨cc, hcc⟩ : ∃ cc, w4.cell? ⟨w.heap.size + 1, k, none⟩ = some cc := by
          rw [r4.cell]
          have h9 : k < (pN (x % 4294967296 ^ k)).size := hk4
          exact ⟨_, Array.getElem?_eq_getElem h9⟩
        have hff := r4.frozen k
        have hset := r4.set k (.int .u32 (d : Int))
        rw [HH.out.2.2.1] at hset
        have r2' := r2.other (b' := w.heap.size + 1) (j := k) (by omega) (.int .u32 (d : Int))
        have hq' := Ns.setOther hq hqn' (w.heap.size + 1) k (Nat.lt_succ_self _) (.int .u32 (d : Int))
        have H4 := Lib.hid (And.intro hq' (And.intro hr (And.intro r2' (And.intro hset hB))))
        clear hq hr r2 r4 hB hb04 hset r2' hq' hb4 H3 hqn hqn'
        go_wp2_with (go_at_call 65; refine stopD_of ?_)
        unfold StopD
        refine (value_dg _ d _ H4.out.2.1 (by omega)).mono ?_
        rintro e w5 ⟨rfl, rfl⟩
        go_wp2_with fail
        go_roundw
        case rel => exact ⟨q, k + 1, rfl, by go_num, by omega, Lib.hid H4.out.1, H4.out.2.2.1, H4.out.2.2.2.1, H4.out.2.2.2.2.setCell (p := ⟨w.heap.size + 1, k, none⟩) (Nat.le_succ _) _⟩
        case measure => simp [intOf]; omega
      · obtain rfl : k = 4 := by omega
        obtain ⟨c20, c21, c22, c23, f20, f21, f22, f23⟩ := row4 r2
        obtain ⟨c40, c41, c42, c43, f40, f41, f42, f43⟩ := row4 r4
        have hxm : x % 4294967296 ^ 4 = x := Nat.mod_eq_of_lt HB.out
        rw [hxm] at c40 c41 c42 c43
        go_wp2_with fail
        refine bodyPost_ret (res_ct rfl rfl (load4' (r2.stored4 _ _ _ _))) rfl ⟨rfl, Below.stored4 hB (Nat.le_refl _) _ _ _ _⟩
  · rw [if_neg hb]
    have hlt : decide (x < big) = false := decide_eq_false hb
    clear ha hx
    go_enter Tryd.func47, Tryd.ntmps47
    go_wp2_with (go_at_call 66; refine stopD_of ?_)
    unfold StopD
    refine (most_dg _).mono ?_
    rintro e w1 ⟨v1, rfl, hv1, hb1⟩
    obtain ⟨r2, r4, hB, z2, z4⟩ := rows2 hb1
    have H1 := Lib.hid (And.intro hv1 (And.intro r2 (And.intro r4 hB)))
    clear hv1 hb1 r2 r4 hB
    go_wp2_with (go_at_call 63; refine stopD_of ?_)
    unfold StopD
    refine (less_any _ _ x big _ (HX.out.1.later H1.out.2.2.2) H1.out.1 (Nat.le_trans HX.out.2 (by decide)) lb).mono ?_
    rintro e w2 ⟨rfl, hb2⟩
    rw [hlt]
    have r2 := H1.out.2.1.below hb2 z2
    have r4 := H1.out.2.2.1.below hb2 z4
    have hB := H1.out.2.2.2.trans (hb2.mono (Nat.le_of_lt z2))
    clear hb2 H1 hlt
    obtain ⟨c20, c21, c22, c23, f20, f21, f22, f23⟩ := row4 r2
    obtain ⟨c40, c41, c42, c43, f40, f41, f42, f43⟩ := row4 r4
    have y2 := r2.lt
    go_wp2_with fail
    refine bodyPost_ret (res_ct rfl rfl (load4' (r2.stored4 _ _ _ _))) rfl ⟨rfl, Below.stored4 hB (Nat.le_refl _) _ _ _ _⟩

end Go.Proofs.YtfciebajiihcfaaDoor
