/- NatTells: the numbers and the reference's digits agree, walked -/
import Derived.Test.YtfciebajiihcfaaDoorSteps
import Derived.Test.YtfciebajiihcfaaDoorDigI
namespace Go.Proofs.YtfciebajiihcfaaDoor
open Go.RowKit
set_option linter.unusedVariables false
set_option linter.unusedSimpArgs false
set_option maxRecDepth 100000
set_option maxHeartbeats 4000000
attribute [local go_sem ↓] Go.wp_at_zero Go.wp_at_succ

theorem own_lit4t (w : World) (t : TypeId) (l : List Nat) (hl : l.length ≤ 100) (c : Array Value) (hc : c = (nls l).toArray) : (w.alloc (.cells c t)).ownsRow w.heap.size t 4 (.slice (some ⟨w.heap.size, 0, none⟩) l.length l.length) l.length (nls l) := by
  subst hc
  refine ⟨by simp, .inr ⟨w.heap.size, l.length, (nls l).toArray, rfl, Nat.le_refl _, Row.new w _ _, Nat.le_refl _, by unfold maxLen; omega, by simp, ?_⟩⟩
  simp
  exact List.take_of_length_le (by simp)

theorem rMul2 (a : World) (b x y : Nat) (hb : a.heap.size = b) (hx : x < big) (hy : y < big) : Calls Tryd.prog 30 #[.slice (some ⟨b, 0, none⟩) 2 2]
    (a.alloc (.cells #[.int .u32 (dg 0 x), .int .u32 (dg 1 x), .int .u32 (dg 2 x), .int .u32 (dg 3 x), .int .u32 (dg 0 y), .int .u32 (dg 1 y), .int .u32 (dg 2 y), .int .u32 (dg 3 y)] 27)) fun e w' => e = .returned (vMul [x, y]) ∧
    Below (a.alloc (.cells #[.int .u32 (dg 0 x), .int .u32 (dg 1 x), .int .u32 (dg 2 x), .int .u32 (dg 3 x), .int .u32 (dg 0 y), .int .u32 (dg 1 y), .int .u32 (dg 2 y), .int .u32 (dg 3 y)] 27)).heap.size (a.alloc (.cells #[.int .u32 (dg 0 x), .int .u32 (dg 1 x), .int .u32 (dg 2 x), .int .u32 (dg 3 x), .int .u32 (dg 0 y), .int .u32 (dg 1 y), .int .u32 (dg 2 y), .int .u32 (dg 3 y)] 27)) w' := by
  subst hb
  exact rMul_any _ [x, y] _ (Rd.of_own (own_lit4t a 27 [x, y] (by show 2 ≤ 100; decide) _ rfl)) (by intro z hz; simp at hz; rcases hz with rfl | rfl; exact hx; exact hy) (by show 2 ≤ 1000; decide)

theorem pAdd (x y : Nat) (w : World) (hx : x < big) (hy : y < big) :
    Calls Tryd.prog 15 #[vN x, vN y] w fun e w' => e = .returned (vParts (x + y)) ∧ Below w.heap.size w w' := by
  unfold vParts
  by_cases h : x + y < big
  · rw [if_pos h]; exact Add_yes x y w hx hy h
  · rw [if_neg h]; exact Add_no x y w hx hy (by omega)

def vSub (x y : Nat) : Value := if x < y then .tuple #[vN 0, .int .i64 21] else .tuple #[vN (x - y), .int .i64 0]
theorem pSub (x y : Nat) (w : World) (hx : x < big) (hy : y < big) :
    Calls Tryd.prog 21 #[vN x, vN y] w fun e w' => e = .returned (vSub x y) ∧ Below w.heap.size w w' := by
  unfold vSub
  by_cases h : x < y
  · rw [if_pos h]; exact Sub_no x y w hx hy h
  · rw [if_neg h]; exact Sub_yes x y w hx hy (by omega)
theorem rSub (x y : Nat) (w : World) (hx : x < big) (hy : y < big) :
    Calls Tryd.prog 41 #[vN x, vN y] w fun e w' => e = .returned (vSub x y) ∧ Below w.heap.size w w' := rSub_any x y w hx hy

def vDiv (x y : Nat) : Value := if y = 0 then .tuple #[vN 0, vN 0, .int .i64 2] else .tuple #[vN (x / y), vN (x % y), .int .i64 0]
theorem pDiv (x y : Nat) (w : World) (hx : x < big) (hy : y < big) :
    Calls Tryd.prog 19 #[vN x, vN y] w fun e w' => e = .returned (vDiv x y) ∧ Below w.heap.size w w' := by
  unfold vDiv
  by_cases h : y = 0
  · rw [if_pos h]; subst h; exact Div_no x w
  · rw [if_neg h]; exact Div_yes x y w hx hy (by omega)
theorem rDiv (x y : Nat) (w : World) (hx : x < big) (hy : y < big) :
    Calls Tryd.prog 42 #[vN x, vN y] w fun e w' => e = .returned (vDiv x y) ∧ Below w.heap.size w w' := by
  unfold vDiv
  by_cases h : y = 0
  · rw [if_pos h]; subst h; exact rDiv_no x w
  · rw [if_neg h]; exact rDiv_yes x y w hx hy (by omega)

def vInt (x : Nat) : Value := if x < 9223372036854775808 then .tuple #[.int .i64 (x : Int), .int .i64 0] else .tuple #[.int .i64 0, .int .i64 3]
theorem pInt (x : Nat) (w : World) (hx : x < big) :
    Calls Tryd.prog 27 #[vN x] w fun e w' => e = .returned (vInt x) ∧ Below w.heap.size w w' := by
  unfold vInt
  by_cases h : x < 9223372036854775808
  · rw [if_pos h]; exact Int_yes x w h
  · rw [if_neg h]; exact Int_no x w (by omega) hx
theorem rInt (x : Nat) (w : World) (hx : x < big) :
    Calls Tryd.prog 43 #[vN x] w fun e w' => e = .returned (vInt x) ∧ Below w.heap.size w w' := by
  unfold vInt
  by_cases h : x < 9223372036854775808
  · rw [if_pos h]; exact rInt_yes x w hx h
  · rw [if_neg h]; exact rInt_no x w hx h

theorem tells_all (x y : Nat) : ∃ (p r t v u g : Nat) (e1 e2 e3 e4 m e5 c : Int) (T : ByteArray),
    vParts (x + y) = .tuple #[vN p, .int .i64 e1] ∧ vSub x y = .tuple #[vN r, .int .i64 e2] ∧ vMul [x, y] = .tuple #[vN t, .int .i64 e3] ∧ vDiv x y = .tuple #[vN v, vN u, .int .i64 e4] ∧ vInt x = .tuple #[.int .i64 m, .int .i64 e5] ∧
    Nat.gcd x y = g ∧ cmpN x y = c ∧ (⟨(txt x).toArray⟩ : ByteArray) = T := by
  have h1 : ∃ (p : Nat) (e1 : Int), vParts (x + y) = .tuple #[vN p, .int .i64 e1] := by unfold vParts; split <;> exact ⟨_, _, rfl⟩
  have h2 : ∃ (p : Nat) (e1 : Int), vSub x y = .tuple #[vN p, .int .i64 e1] := by unfold vSub; split <;> exact ⟨_, _, rfl⟩
  have h3 : ∃ (p : Nat) (e1 : Int), vMul [x, y] = .tuple #[vN p, .int .i64 e1] := by unfold vMul; split <;> exact ⟨_, _, rfl⟩
  have h4 : ∃ (p q : Nat) (e1 : Int), vDiv x y = .tuple #[vN p, vN q, .int .i64 e1] := by unfold vDiv; split <;> exact ⟨_, _, _, rfl⟩
  have h5 : ∃ (p e1 : Int), vInt x = .tuple #[.int .i64 p, .int .i64 e1] := by unfold vInt; split <;> exact ⟨_, _, rfl⟩
  obtain ⟨p, e1, h1⟩ := h1
  obtain ⟨r, e2, h2⟩ := h2
  obtain ⟨t, e3, h3⟩ := h3
  obtain ⟨v, u, e4, h4⟩ := h4
  obtain ⟨m, e5, h5⟩ := h5
  exact ⟨p, r, t, v, u, _, e1, e2, e3, e4, m, e5, _, _, h1, h2, h3, h4, h5, rfl, rfl, rfl⟩

theorem tells_any (x y : Nat) (w : World) (hx : x < big) (hy : y < big) :
    Calls Tryd.prog 26 #[vN x, vN y] w fun e w' => e = .returned (.bool true) ∧ Below w.heap.size w w' := by
  obtain ⟨p, r, t, v, u, g, e1, e2, e3, e4, m, e5, c, T, h1, h2, h3, h4, h5, h6, h7, h8⟩ := tells_all x y
  have H := Lib.hid (And.intro h1 (And.intro h2 (And.intro h3 (And.intro h4 (And.intro h5 (And.intro h6 (And.intro h7 h8)))))))
  clear h1 h2 h3 h4 h5 h6 h7 h8
  have hB := Below.refl w.heap.size w
  go_enter Tryd.func26, Tryd.ntmps26
  go_wp2_with (go_at_call 15; refine stopD_of ?_)
  unfold StopD
  refine (pAdd x y _ hx hy).mono ?_
  rintro e w1 ⟨rfl, hb⟩
  rw [H.out.1]
  obtain ⟨RA, RB⟩ := new2 hb
  replace hB := call2 hB hb
  clear hb
  obtain ⟨cA0, cA1, cA2, cA3, -⟩ := row4 RA
  have zA := RA.lt
  obtain ⟨cB0, cB1, cB2, cB3, -⟩ := row4 RB
  have zB := RB.lt
  go_wp2_with (go_at_call 40; refine stopD_of ?_)
  unfold StopD
  refine (rAdd_any x y _ hx hy).mono ?_
  rintro e w2 ⟨rfl, hb⟩
  rw [H.out.1]
  clear cA0 cA1 cA2 cA3 cB0 cB1 cB2 cB3 zA zB
  replace RA := row1 RA hb
  replace RB := row1 RB hb
  have RP := new1 hb
  replace hB := call1 hB hb
  clear hb
  obtain ⟨cA0, cA1, cA2, cA3, -⟩ := row4 RA
  have zA := RA.lt
  obtain ⟨cB0, cB1, cB2, cB3, -⟩ := row4 RB
  have zB := RB.lt
  go_wp2_with (go_at_call 21; refine stopD_of ?_)
  unfold StopD
  refine (pSub x y _ hx hy).mono ?_
  rintro e w3 ⟨rfl, hb⟩
  rw [H.out.2.1]
  clear cA0 cA1 cA2 cA3 cB0 cB1 cB2 cB3 zA zB
  replace RA := row1 RA hb
  replace RB := row1 RB hb
  replace RP := row1 RP hb
  have RQ := new1 hb
  replace hB := call1 hB hb
  clear hb
  obtain ⟨cA0, cA1, cA2, cA3, -⟩ := row4 RA
  have zA := RA.lt
  obtain ⟨cB0, cB1, cB2, cB3, -⟩ := row4 RB
  have zB := RB.lt
  go_wp2_with (go_at_call 41; refine stopD_of ?_)
  unfold StopD
  refine (rSub x y _ hx hy).mono ?_
  rintro e w4 ⟨rfl, hb⟩
  rw [H.out.2.1]
  clear cA0 cA1 cA2 cA3 cB0 cB1 cB2 cB3 zA zB
  replace RA := row1 RA hb
  replace RB := row1 RB hb
  replace RP := row1 RP hb
  replace RQ := row1 RQ hb
  have RC := new1 hb
  replace hB := call1 hB hb
  clear hb
  obtain ⟨cA0, cA1, cA2, cA3, -⟩ := row4 RA
  have zA := RA.lt
  obtain ⟨cB0, cB1, cB2, cB3, -⟩ := row4 RB
  have zB := RB.lt
  go_wp2_with (go_at_call 17; refine stopD_of ?_)
  unfold StopD
  refine (Mul2 _ _ x y (by simp only [World.size_alloc]) hx hy).mono ?_
  rintro e w5 ⟨rfl, hb⟩
  rw [H.out.2.2.1]
  clear cA0 cA1 cA2 cA3 cB0 cB1 cB2 cB3 zA zB
  replace RA := row2 RA hb
  replace RB := row2 RB hb
  replace RP := row2 RP hb
  replace RQ := row2 RQ hb
  replace RC := row2 RC hb
  obtain ⟨RD, -⟩ := new2 hb
  replace hB := call2 hB hb
  clear hb
  obtain ⟨cA0, cA1, cA2, cA3, -⟩ := row4 RA
  have zA := RA.lt
  obtain ⟨cB0, cB1, cB2, cB3, -⟩ := row4 RB
  have zB := RB.lt
  go_wp2_with (go_at_call 30; refine stopD_of ?_)
  unfold StopD
  refine (rMul2 _ _ x y (by simp only [World.size_alloc]) hx hy).mono ?_
  rintro e w6 ⟨rfl, hb⟩
  rw [H.out.2.2.1]
  clear cA0 cA1 cA2 cA3 cB0 cB1 cB2 cB3 zA zB
  replace RA := row2 RA hb
  replace RB := row2 RB hb
  replace RP := row2 RP hb
  replace RQ := row2 RQ hb
  replace RC := row2 RC hb
  replace RD := row2 RD hb
  obtain ⟨RE, -⟩ := new2 hb
  replace hB := call2 hB hb
  clear hb
  obtain ⟨cA0, cA1, cA2, cA3, -⟩ := row4 RA
  have zA := RA.lt
  obtain ⟨cB0, cB1, cB2, cB3, -⟩ := row4 RB
  have zB := RB.lt
  go_wp2_with (go_at_call 19; refine stopD_of ?_)
  unfold StopD
  refine (pDiv x y _ hx hy).mono ?_
  rintro e w7 ⟨rfl, hb⟩
  rw [H.out.2.2.2.1]
  clear cA0 cA1 cA2 cA3 cB0 cB1 cB2 cB3 zA zB
  replace RA := row1 RA hb
  replace RB := row1 RB hb
  replace RP := row1 RP hb
  replace RQ := row1 RQ hb
  replace RC := row1 RC hb
  replace RD := row1 RD hb
  replace RE := row1 RE hb
  have RF := new1 hb
  replace hB := call1 hB hb
  clear hb
  obtain ⟨cA0, cA1, cA2, cA3, -⟩ := row4 RA
  have zA := RA.lt
  obtain ⟨cB0, cB1, cB2, cB3, -⟩ := row4 RB
  have zB := RB.lt
  go_wp2_with (go_at_call 42; refine stopD_of ?_)
  unfold StopD
  refine (rDiv x y _ hx hy).mono ?_
  rintro e w8 ⟨rfl, hb⟩
  rw [H.out.2.2.2.1]
  clear cA0 cA1 cA2 cA3 cB0 cB1 cB2 cB3 zA zB
  replace RA := row2 RA hb
  replace RB := row2 RB hb
  replace RP := row2 RP hb
  replace RQ := row2 RQ hb
  replace RC := row2 RC hb
  replace RD := row2 RD hb
  replace RE := row2 RE hb
  replace RF := row2 RF hb
  obtain ⟨RG, RI⟩ := new2 hb
  replace hB := call2 hB hb
  clear hb
  obtain ⟨cA0, cA1, cA2, cA3, -⟩ := row4 RA
  have zA := RA.lt
  go_wp2_with (go_at_call 27; refine stopD_of ?_)
  unfold StopD
  refine (pInt x _ hx).mono ?_
  rintro e w9 ⟨rfl, hb⟩
  rw [H.out.2.2.2.2.1]
  clear cA0 cA1 cA2 cA3 zA
  replace RA := row2 RA hb
  replace RB := row2 RB hb
  replace RP := row2 RP hb
  replace RQ := row2 RQ hb
  replace RC := row2 RC hb
  replace RD := row2 RD hb
  replace RE := row2 RE hb
  replace RF := row2 RF hb
  replace RG := row2 RG hb
  replace RI := row2 RI hb
  obtain ⟨RJ, RK⟩ := new2 hb
  replace hB := call2 hB hb
  clear hb
  obtain ⟨cA0, cA1, cA2, cA3, -⟩ := row4 RA
  have zA := RA.lt
  go_wp2_with (go_at_call 43; refine stopD_of ?_)
  unfold StopD
  refine (rInt x _ hx).mono ?_
  rintro e w10 ⟨rfl, hb⟩
  rw [H.out.2.2.2.2.1]
  clear cA0 cA1 cA2 cA3 zA
  replace RA := row0 RA hb
  replace RB := row0 RB hb
  replace RP := row0 RP hb
  replace RQ := row0 RQ hb
  replace RC := row0 RC hb
  replace RD := row0 RD hb
  replace RE := row0 RE hb
  replace RF := row0 RF hb
  replace RG := row0 RG hb
  replace RI := row0 RI hb
  replace RJ := row0 RJ hb
  replace RK := row0 RK hb
  replace hB := call0 hB hb
  clear hb
  obtain ⟨cA0, cA1, cA2, cA3, -⟩ := row4 RA
  have zA := RA.lt
  obtain ⟨cB0, cB1, cB2, cB3, -⟩ := row4 RB
  have zB := RB.lt
  obtain ⟨cP0, cP1, cP2, cP3, -⟩ := row4 RP
  have zP := RP.lt
  obtain ⟨cQ0, cQ1, cQ2, cQ3, -⟩ := row4 RQ
  have zQ := RQ.lt
  obtain ⟨cC0, cC1, cC2, cC3, -⟩ := row4 RC
  have zC := RC.lt
  obtain ⟨cD0, cD1, cD2, cD3, -⟩ := row4 RD
  have zD := RD.lt
  obtain ⟨cE0, cE1, cE2, cE3, -⟩ := row4 RE
  have zE := RE.lt
  obtain ⟨cF0, cF1, cF2, cF3, -⟩ := row4 RF
  have zF := RF.lt
  obtain ⟨cG0, cG1, cG2, cG3, -⟩ := row4 RG
  have zG := RG.lt
  obtain ⟨cI0, cI1, cI2, cI3, -⟩ := row4 RI
  have zI := RI.lt
  obtain ⟨cJ0, cJ1, cJ2, cJ3, -⟩ := row4 RJ
  have zJ := RJ.lt
  obtain ⟨cK0, cK1, cK2, cK3, -⟩ := row4 RK
  have zK := RK.lt
  go_wp2_with fail
  clear cA0 cA1 cA2 cA3 cB0 cB1 cB2 cB3 cP0 cP1 cP2 cP3 cQ0 cQ1 cQ2 cQ3 cC0 cC1 cC2 cC3 cD0 cD1 cD2 cD3 cE0 cE1 cE2 cE3 cF0 cF1 cF2 cF3 cG0 cG1 cG2 cG3 cI0 cI1 cI2 cI3 cJ0 cJ1 cJ2 cJ3 cK0 cK1 cK2 cK3 zA zB zP zQ zC zD zE zF zG zI zJ zK
  clear RP RQ RC RD RE RF RG RI RJ RK
  obtain ⟨cA0, cA1, cA2, cA3, -⟩ := row4 RA
  have zA := RA.lt
  obtain ⟨cB0, cB1, cB2, cB3, -⟩ := row4 RB
  have zB := RB.lt
  go_region_held3 (fun w' => w'.cell? ⟨w.heap.size, 0, none⟩ = some (.int .u32 (dg 0 x)) ∧ w'.cell? ⟨w.heap.size, 1, none⟩ = some (.int .u32 (dg 1 x)) ∧ w'.cell? ⟨w.heap.size, 2, none⟩ = some (.int .u32 (dg 2 x)) ∧ w'.cell? ⟨w.heap.size, 3, none⟩ = some (.int .u32 (dg 3 x)) ∧ w'.cell? ⟨w.heap.size + 1, 0, none⟩ = some (.int .u32 (dg 0 y)) ∧ w'.cell? ⟨w.heap.size + 1, 1, none⟩ = some (.int .u32 (dg 1 y)) ∧ w'.cell? ⟨w.heap.size + 1, 2, none⟩ = some (.int .u32 (dg 2 y)) ∧ w'.cell? ⟨w.heap.size + 1, 3, none⟩ = some (.int .u32 (dg 3 y))) (((try dsimp only); ((repeat' apply And.intro) <;> (first | (go_keep; done) | (refine keep_cellD hb6 ?_; go_keep; done) | (refine keep_cellD hb5 ?_; go_keep; done) | (refine keep_cellD hb4 ?_; go_keep; done) | (refine keep_cellD hb3 ?_; go_keep; done) | (refine keep_cellD hb2 ?_; go_keep; done) | (refine keep_cellD hb1 ?_; go_keep; done)))))
    (first
      | ((go_at_call 18); (refine (Gcd_any x y _ hx hy).mono ?_); (rintro e y1 ⟨rfl, hb1⟩); (rw [H.out.2.2.2.2.2.1]))
      | ((go_at_call 44); (refine (rGcd_any x y _ hx hy).mono ?_); (rintro e y2 ⟨rfl, hb2⟩); (rw [H.out.2.2.2.2.2.1]))
      | ((go_at_call 20); (refine (Cmp_any x y _ hx hy).mono ?_); (rintro e y3 ⟨rfl, hb3⟩); (rw [H.out.2.2.2.2.2.2.1]))
      | ((go_at_call 45); (refine (rCmp_any x y _ hx hy).mono ?_); (rintro e y4 ⟨rfl, hb4⟩); (rw [H.out.2.2.2.2.2.2.1]))
      | ((go_at_call 24); (refine (NText_any x _ hx).mono ?_); (rintro e y5 ⟨rfl, hb5⟩); (rw [H.out.2.2.2.2.2.2.2]))
      | ((go_at_call 46); (refine (rText_any x _ hx).mono ?_); (rintro e y6 ⟨rfl, hb6⟩); (rw [H.out.2.2.2.2.2.2.2]))
    )
  all_goals
    have hBT : Below w.heap.size w y1 := hB.drew.trans (hb1.mono hB.size)
    have hBF := dc0 (dc0 (dc0 (dc0 (dc0 hBT hb2) hb3) hb4) hb5) hb6
    go_wp2_with fail
    go_ret
    exact ⟨by simp, hBF⟩

theorem NatTells_nat (x y : Nat) (w : World) (hx : x < big) (hy : y < big) :
    Calls Tryd.prog 9 #[vN x, vN y] w fun e w' => e = .returned (.bool true) ∧ Below w.heap.size w w' := by
  go_enter Tryd.func9, Tryd.ntmps9
  go_wp2_with (go_at_call 26; refine stopD_of ?_)
  unfold StopD
  refine (tells_any x y _ hx hy).mono ?_
  rintro e w1 ⟨rfl, hb⟩
  have hB := call2 (Below.refl _ w) hb
  clear hb
  go_wp2_with (go_at_call 13; refine stopD_of ?_)
  unfold StopD
  refine (nawake_true _).mono ?_
  rintro e w2 ⟨rfl, hb⟩
  replace hB := call0 hB hb
  clear hb
  go_wp2_with fail
  go_ret
  exact ⟨rfl, hB⟩

theorem NatTells_walk (a0 a1 a2 a3 b0 b1 b2 b3 : Int) (w : World) (ha : (0 ≤ a0 ∧ a0 ≤ 4294967295) ∧ (0 ≤ a1 ∧ a1 ≤ 4294967295) ∧ (0 ≤ a2 ∧ a2 ≤ 4294967295) ∧ (0 ≤ a3 ∧ a3 ≤ 4294967295)) (hb : (0 ≤ b0 ∧ b0 ≤ 4294967295) ∧ (0 ≤ b1 ∧ b1 ≤ 4294967295) ∧ (0 ≤ b2 ∧ b2 ≤ 4294967295) ∧ (0 ≤ b3 ∧ b3 ≤ 4294967295)) :
    Calls Tryd.prog 9 #[.agg #[.int .u32 a0, .int .u32 a1, .int .u32 a2, .int .u32 a3], .agg #[.int .u32 b0, .int .u32 b1, .int .u32 b2, .int .u32 b3]] w fun e w' => e = .returned (.bool true) ∧ Below w.heap.size w w' := by
  obtain ⟨x, hx, ex⟩ := vN_all a0 a1 a2 a3 ha
  obtain ⟨y, hy, ey⟩ := vN_all b0 b1 b2 b3 hb
  rw [ex, ey]
  exact NatTells_nat x y w hx hy

end Go.Proofs.YtfciebajiihcfaaDoor
