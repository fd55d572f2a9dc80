/- NatDivides, walked -/
import Derived.Test.YtfciebajiihcfaaDoorSteps
namespace Go.Proofs.YtfciebajiihcfaaDoor
open Go.RowKit
set_option linter.unusedVariables false
set_option linter.unusedSimpArgs false
set_option maxRecDepth 100000
set_option maxHeartbeats 4000000

theorem bel1 {w a : World} {o : Obj} (h : Below w.heap.size w a) : Below w.heap.size w (a.alloc o) := h.alloc h.size o
theorem bel2 {w a : World} {o o' : Obj} (h : Below w.heap.size w a) : Below w.heap.size w ((a.alloc o).alloc o') := bel1 (bel1 h)

theorem dg_same (x : Nat) : ((dg 0 x == dg 0 x) && ((dg 1 x == dg 1 x) && ((dg 2 x == dg 2 x) && (dg 3 x == dg 3 x)))) = true := by simp
theorem gcd_left (x y : Nat) (hy : 0 < y) : Nat.gcd (x / Nat.gcd x y) (y / Nat.gcd x y) = 1 := by
  have hg : 0 < Nat.gcd x y := Nat.gcd_pos_of_pos_right x hy
  rw [Nat.gcd_div (Nat.gcd_dvd_left x y) (Nat.gcd_dvd_right x y), Nat.div_self hg]

theorem NatDivides_nat (x y : Nat) (w : World) (hx : x < big) (hy : y < big) :
    Calls Tryd.prog 6 #[vN x, vN y] w fun e w' => e = .returned (.bool true) ∧ Below w.heap.size w w' := by
  have d00 : dg 0 0 = 0 := rfl
  have d10 : dg 1 0 = 0 := rfl
  have d20 : dg 2 0 = 0 := rfl
  have d30 : dg 3 0 = 0 := rfl
  have d01 : dg 0 1 = 1 := rfl
  have d11 : dg 1 1 = 0 := rfl
  have d21 : dg 2 1 = 0 := rfl
  have d31 : dg 3 1 = 0 := rfl
  obtain ⟨g, hg⟩ : ∃ g, Nat.gcd x y = g := ⟨_, rfl⟩
  have hgb : g < big := by
    rw [← hg]
    rcases Nat.eq_zero_or_pos y with h | h
    · rw [h, Nat.gcd_zero_right]; exact hx
    · exact Nat.lt_of_le_of_lt (Nat.gcd_le_right x h) hy
  have HG := Lib.hid hg
  clear hg
  go_enter Tryd.func6, Tryd.ntmps6
  go_wp2_with (go_at_call 13; refine stop_of ?_)
  unfold Stop
  refine (nawake_true _).mono ?_
  rintro e w1 ⟨rfl, hb⟩
  obtain ⟨RX, RY⟩ := new2 hb
  have hB := call2 (Below.refl _ w) hb
  clear hb
  obtain ⟨cX0, cX1, cX2, cX3, -⟩ := row4 RX
  have zX := RX.lt
  obtain ⟨cY0, cY1, cY2, cY3, -⟩ := row4 RY
  have zY := RY.lt
  have yY := Nat.lt_of_succ_lt zY
  rcases Nat.eq_zero_or_pos y with hy0 | hy0
  · subst hy0
    have hgx : g = x := by rw [← HG.out, Nat.gcd_zero_right]
    have HGX := Lib.hid hgx
    clear hgx
    go_wp2_with (go_at_call 18; refine stop_of ?_)
    unfold Stop
    refine (Gcd_any x 0 _ hx hy).mono ?_
    rintro e w2 ⟨rfl, hb⟩
    rw [HG.out]
    clear cX0 cX1 cX2 cX3 cY0 cY1 cY2 cY3 zX zY yY
    replace RX := row0 RX hb
    replace RY := row0 RY hb
    replace hB := call0 hB hb
    clear hb
    obtain ⟨cX0, cX1, cX2, cX3, -⟩ := row4 RX
    have zX := RX.lt
    obtain ⟨cY0, cY1, cY2, cY3, -⟩ := row4 RY
    have zY := RY.lt
    have yY := Nat.lt_of_succ_lt zY
    go_wp2_with (go_at_call 19; refine stop_of ?_)
    unfold Stop
    refine (Div_no x _).mono ?_
    rintro e w3 ⟨rfl, hb⟩
    clear cX0 cX1 cX2 cX3 cY0 cY1 cY2 cY3 zX zY yY
    replace RX := row1 RX hb
    replace RY := row1 RY hb
    have RG := new1 hb
    replace hB := call1 hB hb
    clear hb
    obtain ⟨cG0, cG1, cG2, cG3, -⟩ := row4 RG
    have zG := RG.lt
    obtain ⟨cX0, cX1, cX2, cX3, -⟩ := row4 RX
    have zX := RX.lt
    have hgx := HGX.out
    subst hgx
    go_wp2_with fail
    go_ret
    exact ⟨by simp, bel2 hB⟩
  · have hz := dg_zero y hy hy0
    have hg0 : 0 < g := by rw [← HG.out]; exact Nat.gcd_pos_of_pos_right x hy0
    obtain ⟨q, hq⟩ : ∃ q, x / y = q := ⟨_, rfl⟩
    obtain ⟨r, hr⟩ : ∃ r, x % y = r := ⟨_, rfl⟩
    have hqr : q * y + r = x := by rw [← hq, ← hr, Nat.mul_comm]; exact Nat.div_add_mod x y
    have hry : r < y := by rw [← hr]; exact Nat.mod_lt _ hy0
    have hqx : q ≤ x := by rw [← hq]; exact Nat.div_le_self x y
    obtain ⟨p, hp⟩ : ∃ p, q * y = p := ⟨_, rfl⟩
    rw [hp] at hqr
    have hpb : p < big := by omega
    have hqb : q < big := by omega
    have hrb : r < big := by omega
    obtain ⟨u, hu⟩ : ∃ u, x / g = u := ⟨_, rfl⟩
    obtain ⟨v, hv⟩ : ∃ v, y / g = v := ⟨_, rfl⟩
    have hub : u < big := by rw [← hu]; exact Nat.lt_of_le_of_lt (Nat.div_le_self x g) hx
    have hvb : v < big := by rw [← hv]; exact Nat.lt_of_le_of_lt (Nat.div_le_self y g) hy
    have hm0 : x % g = 0 := by rw [← HG.out]; exact Nat.mod_eq_zero_of_dvd (Nat.gcd_dvd_left x y)
    have hn0 : y % g = 0 := by rw [← HG.out]; exact Nat.mod_eq_zero_of_dvd (Nat.gcd_dvd_right x y)
    have huv : Nat.gcd u v = 1 := by rw [← hu, ← hv, ← HG.out]; exact gcd_left x y hy0
    have hcm : cmpN r y = -1 := by unfold cmpN; rw [if_pos hry]
    have H := Lib.hid (And.intro hq (And.intro hr (And.intro hqr (And.intro hp (And.intro hu (And.intro hv (And.intro hm0 (And.intro hn0 (And.intro huv hcm)))))))))
    have HI := Lib.hid (And.intro hry hqx)
    clear hq hr hqr hp hu hv hm0 hn0 huv hcm hry hqx
    go_wp2_with (go_at_call 18; refine stop_of ?_)
    unfold Stop
    refine (Gcd_any x y _ hx hy).mono ?_
    rintro e w2 ⟨rfl, hb⟩
    rw [HG.out]
    clear cX0 cX1 cX2 cX3 cY0 cY1 cY2 cY3 zX zY yY
    replace RX := row0 RX hb
    replace RY := row0 RY hb
    replace hB := call0 hB hb
    clear hb
    obtain ⟨cX0, cX1, cX2, cX3, -⟩ := row4 RX
    have zX := RX.lt
    obtain ⟨cY0, cY1, cY2, cY3, -⟩ := row4 RY
    have zY := RY.lt
    have yY := Nat.lt_of_succ_lt zY
    go_wp2_with (go_at_call 19; refine stop_of ?_)
    unfold Stop
    refine (Div_yes x y _ hx hy hy0).mono ?_
    rintro e w3 ⟨rfl, hb⟩
    rw [H.out.1, H.out.2.1]
    clear cX0 cX1 cX2 cX3 cY0 cY1 cY2 cY3 zX zY yY
    replace RX := row1 RX hb
    replace RY := row1 RY hb
    have RG := new1 hb
    replace hB := call1 hB hb
    clear hb
    obtain ⟨cY0, cY1, cY2, cY3, -⟩ := row4 RY
    have zY := RY.lt
    have yY := Nat.lt_of_succ_lt zY
    go_wp2_with (go_at_call 17; refine stop_of ?_)
    unfold Stop
    refine (Mul2_yes _ _ q y (by simp only [World.size_alloc]) hqb hy (by rw [H.out.2.2.2.1]; exact hpb)).mono ?_
    rintro e w4 ⟨rfl, hb⟩
    rw [H.out.2.2.2.1]
    clear cY0 cY1 cY2 cY3 zY yY
    replace RX := row3 RX hb
    replace RY := row3 RY hb
    replace RG := row3 RG hb
    obtain ⟨RQ, RM, -⟩ := new3 hb
    replace hB := call3 hB hb
    clear hb
    obtain ⟨cM0, cM1, cM2, cM3, -⟩ := row4 RM
    have zM := RM.lt
    have yM := Nat.lt_of_succ_lt zM
    clear RQ
    go_wp2_with (go_at_call 15; refine stop_of ?_)
    unfold Stop
    refine (Add_yes p r _ hpb hrb (by rw [H.out.2.2.1]; exact hx)).mono ?_
    rintro e w5 ⟨rfl, hb⟩
    rw [H.out.2.2.1]
    clear cM0 cM1 cM2 cM3 zM yM
    replace RX := row1 RX hb
    replace RY := row1 RY hb
    replace RG := row1 RG hb
    replace RM := row1 RM hb
    have RP := new1 hb
    replace hB := call1 hB hb
    clear hb
    obtain ⟨cX0, cX1, cX2, cX3, -⟩ := row4 RX
    have zX := RX.lt
    obtain ⟨cG0, cG1, cG2, cG3, -⟩ := row4 RG
    have zG := RG.lt
    clear RP
    go_wp2_with (go_at_call 19; refine stop_of ?_)
    unfold Stop
    refine (Div_yes x g _ hx hgb hg0).mono ?_
    rintro e w6 ⟨rfl, hb⟩
    rw [H.out.2.2.2.2.1, H.out.2.2.2.2.2.2.1]
    clear cX0 cX1 cX2 cX3 cG0 cG1 cG2 cG3 zX zG
    replace RX := row1 RX hb
    replace RY := row1 RY hb
    replace RG := row1 RG hb
    replace RM := row1 RM hb
    have RK := new1 hb
    replace hB := call1 hB hb
    clear hb
    obtain ⟨cY0, cY1, cY2, cY3, -⟩ := row4 RY
    have zY := RY.lt
    have yY := Nat.lt_of_succ_lt zY
    obtain ⟨cG0, cG1, cG2, cG3, -⟩ := row4 RG
    have zG := RG.lt
    go_wp2_with (go_at_call 19; refine stop_of ?_)
    unfold Stop
    refine (Div_yes y g _ hy hgb hg0).mono ?_
    rintro e w7 ⟨rfl, hb⟩
    rw [H.out.2.2.2.2.2.1, H.out.2.2.2.2.2.2.2.1]
    clear cY0 cY1 cY2 cY3 cG0 cG1 cG2 cG3 zY zG yY
    replace RX := row2 RX hb
    replace RY := row2 RY hb
    replace RG := row2 RG hb
    replace RM := row2 RM hb
    replace RK := row2 RK hb
    obtain ⟨RU, RE⟩ := new2 hb
    replace hB := call2 hB hb
    clear hb
    obtain ⟨cK0, cK1, cK2, cK3, -⟩ := row4 RK
    have zK := RK.lt
    obtain ⟨cX0, cX1, cX2, cX3, -⟩ := row4 RX
    have zX := RX.lt
    obtain ⟨cM0, cM1, cM2, cM3, -⟩ := row4 RM
    have zM := RM.lt
    have yM := Nat.lt_of_succ_lt zM
    obtain ⟨cY0, cY1, cY2, cY3, -⟩ := row4 RY
    have zY := RY.lt
    have yY := Nat.lt_of_succ_lt zY
    go_wp2_with (go_at_call 20; refine stop_of ?_)
    unfold Stop
    refine (Cmp_any r y _ hrb hy).mono ?_
    rintro e w8 ⟨rfl, hb⟩
    rw [H.out.2.2.2.2.2.2.2.2.2]
    clear cK0 cK1 cK2 cK3 cX0 cX1 cX2 cX3 cM0 cM1 cM2 cM3 cY0 cY1 cY2 cY3 zK zX zM zY yM yY
    replace RX := row2 RX hb
    replace RY := row2 RY hb
    replace RG := row2 RG hb
    replace RM := row2 RM hb
    replace RK := row2 RK hb
    replace RU := row2 RU hb
    replace RE := row2 RE hb
    obtain ⟨RV, RF⟩ := new2 hb
    replace hB := call2 hB hb
    clear hb
    obtain ⟨cE0, cE1, cE2, cE3, -⟩ := row4 RE
    have zE := RE.lt
    have yE := Nat.lt_of_succ_lt zE
    obtain ⟨cF0, cF1, cF2, cF3, -⟩ := row4 RF
    have zF := RF.lt
    have yF := Nat.lt_of_succ_lt zF
    obtain ⟨cU0, cU1, cU2, cU3, -⟩ := row4 RU
    have zU := RU.lt
    obtain ⟨cV0, cV1, cV2, cV3, -⟩ := row4 RV
    have zV := RV.lt
    go_wp2_with (go_at_call 18; refine stop_of ?_)
    unfold Stop
    refine (Gcd_any u v _ hub hvb).mono ?_
    rintro e w9 ⟨rfl, hb⟩
    rw [H.out.2.2.2.2.2.2.2.2.1]
    clear cE0 cE1 cE2 cE3 cF0 cF1 cF2 cF3 cU0 cU1 cU2 cU3 cV0 cV1 cV2 cV3 zE zF zU zV yE yF
    replace RX := row0 RX hb
    replace RY := row0 RY hb
    replace RG := row0 RG hb
    replace RM := row0 RM hb
    replace RK := row0 RK hb
    replace RU := row0 RU hb
    replace RE := row0 RE hb
    replace RV := row0 RV hb
    replace RF := row0 RF hb
    replace hB := call0 hB hb
    clear hb
    obtain ⟨cX0, cX1, cX2, cX3, -⟩ := row4 RX
    have zX := RX.lt
    obtain ⟨cY0, cY1, cY2, cY3, -⟩ := row4 RY
    have zY := RY.lt
    have yY := Nat.lt_of_succ_lt zY
    clear RG RM RK RU RE RV RF
    by_cases hsum : x + y < big
    · obtain ⟨n, hn⟩ : ∃ n, x + y = n := ⟨_, rfl⟩
      have hnb : n < big := by rw [← hn]; exact hsum
      have hns : n - y = x := by omega
      have hyn : y ≤ n := by omega
      have HS := Lib.hid (And.intro hn hns)
      clear hn hns
      go_wp2_with (go_at_call 15; refine stop_of ?_)
      unfold Stop
      refine (Add_yes x y _ hx hy hsum).mono ?_
      rintro e w10 ⟨rfl, hb⟩
      rw [HS.out.1]
      clear cX0 cX1 cX2 cX3 cY0 cY1 cY2 cY3 zX zY yY
      replace RX := row0 RX hb
      replace RY := row0 RY hb
      replace hB := call0 hB hb
      clear hb
      obtain ⟨cY0, cY1, cY2, cY3, -⟩ := row4 RY
      have zY := RY.lt
      have yY := Nat.lt_of_succ_lt zY
      clear hsum
      go_wp2_with (go_at_call 21; refine stop_of ?_)
      unfold Stop
      refine (Sub_yes n y _ hnb hy hyn).mono ?_
      rintro e w11 ⟨rfl, hb⟩
      rw [HS.out.2]
      clear cY0 cY1 cY2 cY3 zY yY
      replace RX := row1 RX hb
      replace RY := row1 RY hb
      have RN := new1 hb
      replace hB := call1 hB hb
      clear hb
      obtain ⟨cX0, cX1, cX2, cX3, -⟩ := row4 RX
      have zX := RX.lt
      obtain ⟨cY0, cY1, cY2, cY3, -⟩ := row4 RY
      have zY := RY.lt
      have yY := Nat.lt_of_succ_lt zY
      clear RN
      by_cases hmul : x * y < big
      · obtain ⟨m, hm⟩ : ∃ m, x * y = m := ⟨_, rfl⟩
        have hmb : m < big := by rw [← hm]; exact hmul
        have hmd : m / y = x ∧ m % y = 0 := by rw [← hm]; exact ⟨Nat.mul_div_cancel x hy0, Nat.mul_mod_left x y⟩
        have HM := Lib.hid (And.intro hm hmd)
        clear hm hmd
        go_wp2_with (go_at_call 17; refine stop_of ?_)
        unfold Stop
        refine (Mul2_yes _ _ x y (by simp only [World.size_alloc]) hx hy hmul).mono ?_
        rintro e w12 ⟨rfl, hb⟩
        rw [HM.out.1]
        clear cX0 cX1 cX2 cX3 cY0 cY1 cY2 cY3 zX zY yY
        replace RX := row2 RX hb
        replace RY := row2 RY hb
        obtain ⟨-, -⟩ := new2 hb
        replace hB := call2 hB hb
        clear hb
        obtain ⟨cY0, cY1, cY2, cY3, -⟩ := row4 RY
        have zY := RY.lt
        have yY := Nat.lt_of_succ_lt zY
        clear hmul
        go_wp2_with (go_at_call 19; refine stop_of ?_)
        unfold Stop
        refine (Div_yes m y _ hmb hy hy0).mono ?_
        rintro e w13 ⟨rfl, hb⟩
        rw [HM.out.2.1, HM.out.2.2]
        clear cY0 cY1 cY2 cY3 zY yY
        replace RX := row1 RX hb
        replace RY := row1 RY hb
        have RT := new1 hb
        replace hB := call1 hB hb
        clear hb
        obtain ⟨cX0, cX1, cX2, cX3, -⟩ := row4 RX
        have zX := RX.lt
        obtain ⟨cY0, cY1, cY2, cY3, -⟩ := row4 RY
        have zY := RY.lt
        have yY := Nat.lt_of_succ_lt zY
        by_cases hle : y ≤ x
        · have hcp : cmpN x y = if y < x then 1 else 0 := by unfold cmpN; rw [if_neg (by omega)]
          obtain ⟨cc, hcc⟩ : ∃ cc, cmpN x y = cc := ⟨_, rfl⟩
          have hc0 : 0 ≤ cc := by rw [← hcc, hcp]; split <;> omega
          have hc1 : ¬ cc < 0 := by omega
          have HC := Lib.hid hcc
          clear hcp hcc
          go_wp2_with (go_at_call 21; refine stop_of ?_)
          unfold Stop
          refine (Sub_yes x y _ hx hy hle).mono ?_
          rintro e w14 ⟨rfl, hb⟩
          clear cX0 cX1 cX2 cX3 cY0 cY1 cY2 cY3 zX zY yY
          replace RX := row2 RX hb
          replace RY := row2 RY hb
          replace RT := row2 RT hb
          obtain ⟨-, -⟩ := new2 hb
          replace hB := call2 hB hb
          clear hb
          obtain ⟨cX0, cX1, cX2, cX3, -⟩ := row4 RX
          have zX := RX.lt
          obtain ⟨cY0, cY1, cY2, cY3, -⟩ := row4 RY
          have zY := RY.lt
          have yY := Nat.lt_of_succ_lt zY
          go_wp2_with (go_at_call 20; refine stop_of ?_)
          unfold Stop
          refine (Cmp_any x y _ hx hy).mono ?_
          rintro e w15 ⟨rfl, hb⟩
          rw [HC.out]
          clear cX0 cX1 cX2 cX3 cY0 cY1 cY2 cY3 zX zY yY
          replace RX := row1 RX hb
          replace RY := row1 RY hb
          replace RT := row1 RT hb
          replace hB := call1 hB hb
          clear hb
          obtain ⟨cX0, cX1, cX2, cX3, -⟩ := row4 RX
          have zX := RX.lt
          obtain ⟨cY0, cY1, cY2, cY3, -⟩ := row4 RY
          have zY := RY.lt
          have yY := Nat.lt_of_succ_lt zY
          go_wp2_with (go_at_call 20; refine stop_of ?_)
          unfold Stop
          refine (Cmp_any x y _ hx hy).mono ?_
          rintro e w16 ⟨rfl, hb⟩
          rw [HC.out]
          clear cX0 cX1 cX2 cX3 cY0 cY1 cY2 cY3 zX zY yY
          replace RX := row0 RX hb
          replace RY := row0 RY hb
          replace RT := row0 RT hb
          replace hB := call0 hB hb
          clear hb
          go_wp2_with fail
          go_ret
          exact ⟨by simp; try omega, hB⟩
        · have hcp : cmpN x y = -1 := by unfold cmpN; rw [if_pos (by omega)]
          have HC := Lib.hid hcp
          clear hcp
          go_wp2_with (go_at_call 21; refine stop_of ?_)
          unfold Stop
          refine (Sub_no x y _ hx hy (by omega)).mono ?_
          rintro e w14 ⟨rfl, hb⟩
          clear cX0 cX1 cX2 cX3 cY0 cY1 cY2 cY3 zX zY yY
          replace RX := row2 RX hb
          replace RY := row2 RY hb
          replace RT := row2 RT hb
          obtain ⟨-, -⟩ := new2 hb
          replace hB := call2 hB hb
          clear hb
          obtain ⟨cX0, cX1, cX2, cX3, -⟩ := row4 RX
          have zX := RX.lt
          obtain ⟨cY0, cY1, cY2, cY3, -⟩ := row4 RY
          have zY := RY.lt
          have yY := Nat.lt_of_succ_lt zY
          go_wp2_with (go_at_call 20; refine stop_of ?_)
          unfold Stop
          refine (Cmp_any x y _ hx hy).mono ?_
          rintro e w15 ⟨rfl, hb⟩
          rw [HC.out]
          clear cX0 cX1 cX2 cX3 cY0 cY1 cY2 cY3 zX zY yY
          replace RX := row1 RX hb
          replace RY := row1 RY hb
          replace RT := row1 RT hb
          replace hB := call1 hB hb
          clear hb
          obtain ⟨cX0, cX1, cX2, cX3, -⟩ := row4 RX
          have zX := RX.lt
          obtain ⟨cY0, cY1, cY2, cY3, -⟩ := row4 RY
          have zY := RY.lt
          have yY := Nat.lt_of_succ_lt zY
          go_wp2_with (go_at_call 20; refine stop_of ?_)
          unfold Stop
          refine (Cmp_any x y _ hx hy).mono ?_
          rintro e w16 ⟨rfl, hb⟩
          rw [HC.out]
          clear cX0 cX1 cX2 cX3 cY0 cY1 cY2 cY3 zX zY yY
          replace RX := row0 RX hb
          replace RY := row0 RY hb
          replace RT := row0 RT hb
          replace hB := call0 hB hb
          clear hb
          go_wp2_with fail
          go_ret
          exact ⟨by simp; try omega, hB⟩
      · skip
        go_wp2_with (go_at_call 17; refine stop_of ?_)
        unfold Stop
        refine (Mul2_no _ _ x y (by simp only [World.size_alloc]) hx hy hmul).mono ?_
        rintro e w12 ⟨rfl, hb⟩
        clear cX0 cX1 cX2 cX3 cY0 cY1 cY2 cY3 zX zY yY
        replace RX := row2 RX hb
        replace RY := row2 RY hb
        obtain ⟨-, -⟩ := new2 hb
        replace hB := call2 hB hb
        clear hb
        obtain ⟨cX0, cX1, cX2, cX3, -⟩ := row4 RX
        have zX := RX.lt
        obtain ⟨cY0, cY1, cY2, cY3, -⟩ := row4 RY
        have zY := RY.lt
        have yY := Nat.lt_of_succ_lt zY
        clear hmul
        by_cases hle : y ≤ x
        · have hcp : cmpN x y = if y < x then 1 else 0 := by unfold cmpN; rw [if_neg (by omega)]
          obtain ⟨cc, hcc⟩ : ∃ cc, cmpN x y = cc := ⟨_, rfl⟩
          have hc0 : 0 ≤ cc := by rw [← hcc, hcp]; split <;> omega
          have hc1 : ¬ cc < 0 := by omega
          have HC := Lib.hid hcc
          clear hcp hcc
          go_wp2_with (go_at_call 21; refine stop_of ?_)
          unfold Stop
          refine (Sub_yes x y _ hx hy hle).mono ?_
          rintro e w14 ⟨rfl, hb⟩
          clear cX0 cX1 cX2 cX3 cY0 cY1 cY2 cY3 zX zY yY
          replace RX := row1 RX hb
          replace RY := row1 RY hb
          replace hB := call1 hB hb
          clear hb
          obtain ⟨cX0, cX1, cX2, cX3, -⟩ := row4 RX
          have zX := RX.lt
          obtain ⟨cY0, cY1, cY2, cY3, -⟩ := row4 RY
          have zY := RY.lt
          have yY := Nat.lt_of_succ_lt zY
          go_wp2_with (go_at_call 20; refine stop_of ?_)
          unfold Stop
          refine (Cmp_any x y _ hx hy).mono ?_
          rintro e w15 ⟨rfl, hb⟩
          rw [HC.out]
          clear cX0 cX1 cX2 cX3 cY0 cY1 cY2 cY3 zX zY yY
          replace RX := row1 RX hb
          replace RY := row1 RY hb
          replace hB := call1 hB hb
          clear hb
          obtain ⟨cX0, cX1, cX2, cX3, -⟩ := row4 RX
          have zX := RX.lt
          obtain ⟨cY0, cY1, cY2, cY3, -⟩ := row4 RY
          have zY := RY.lt
          have yY := Nat.lt_of_succ_lt zY
          go_wp2_with (go_at_call 20; refine stop_of ?_)
          unfold Stop
          refine (Cmp_any x y _ hx hy).mono ?_
          rintro e w16 ⟨rfl, hb⟩
          rw [HC.out]
          clear cX0 cX1 cX2 cX3 cY0 cY1 cY2 cY3 zX zY yY
          replace RX := row0 RX hb
          replace RY := row0 RY hb
          replace hB := call0 hB hb
          clear hb
          go_wp2_with fail
          go_ret
          exact ⟨by simp; try omega, hB⟩
        · have hcp : cmpN x y = -1 := by unfold cmpN; rw [if_pos (by omega)]
          have HC := Lib.hid hcp
          clear hcp
          go_wp2_with (go_at_call 21; refine stop_of ?_)
          unfold Stop
          refine (Sub_no x y _ hx hy (by omega)).mono ?_
          rintro e w14 ⟨rfl, hb⟩
          clear cX0 cX1 cX2 cX3 cY0 cY1 cY2 cY3 zX zY yY
          replace RX := row1 RX hb
          replace RY := row1 RY hb
          replace hB := call1 hB hb
          clear hb
          obtain ⟨cX0, cX1, cX2, cX3, -⟩ := row4 RX
          have zX := RX.lt
          obtain ⟨cY0, cY1, cY2, cY3, -⟩ := row4 RY
          have zY := RY.lt
          have yY := Nat.lt_of_succ_lt zY
          go_wp2_with (go_at_call 20; refine stop_of ?_)
          unfold Stop
          refine (Cmp_any x y _ hx hy).mono ?_
          rintro e w15 ⟨rfl, hb⟩
          rw [HC.out]
          clear cX0 cX1 cX2 cX3 cY0 cY1 cY2 cY3 zX zY yY
          replace RX := row1 RX hb
          replace RY := row1 RY hb
          replace hB := call1 hB hb
          clear hb
          obtain ⟨cX0, cX1, cX2, cX3, -⟩ := row4 RX
          have zX := RX.lt
          obtain ⟨cY0, cY1, cY2, cY3, -⟩ := row4 RY
          have zY := RY.lt
          have yY := Nat.lt_of_succ_lt zY
          go_wp2_with (go_at_call 20; refine stop_of ?_)
          unfold Stop
          refine (Cmp_any x y _ hx hy).mono ?_
          rintro e w16 ⟨rfl, hb⟩
          rw [HC.out]
          clear cX0 cX1 cX2 cX3 cY0 cY1 cY2 cY3 zX zY yY
          replace RX := row0 RX hb
          replace RY := row0 RY hb
          replace hB := call0 hB hb
          clear hb
          go_wp2_with fail
          go_ret
          exact ⟨by simp; try omega, hB⟩
    · skip
      go_wp2_with (go_at_call 15; refine stop_of ?_)
      unfold Stop
      refine (Add_no x y _ hx hy (by omega)).mono ?_
      rintro e w10 ⟨rfl, hb⟩
      clear cX0 cX1 cX2 cX3 cY0 cY1 cY2 cY3 zX zY yY
      replace RX := row0 RX hb
      replace RY := row0 RY hb
      replace hB := call0 hB hb
      clear hb
      obtain ⟨cX0, cX1, cX2, cX3, -⟩ := row4 RX
      have zX := RX.lt
      obtain ⟨cY0, cY1, cY2, cY3, -⟩ := row4 RY
      have zY := RY.lt
      have yY := Nat.lt_of_succ_lt zY
      clear hsum
      by_cases hmul : x * y < big
      · obtain ⟨m, hm⟩ : ∃ m, x * y = m := ⟨_, rfl⟩
        have hmb : m < big := by rw [← hm]; exact hmul
        have hmd : m / y = x ∧ m % y = 0 := by rw [← hm]; exact ⟨Nat.mul_div_cancel x hy0, Nat.mul_mod_left x y⟩
        have HM := Lib.hid (And.intro hm hmd)
        clear hm hmd
        go_wp2_with (go_at_call 17; refine stop_of ?_)
        unfold Stop
        refine (Mul2_yes _ _ x y (by simp only [World.size_alloc]) hx hy hmul).mono ?_
        rintro e w12 ⟨rfl, hb⟩
        rw [HM.out.1]
        clear cX0 cX1 cX2 cX3 cY0 cY1 cY2 cY3 zX zY yY
        replace RX := row2 RX hb
        replace RY := row2 RY hb
        obtain ⟨-, -⟩ := new2 hb
        replace hB := call2 hB hb
        clear hb
        obtain ⟨cY0, cY1, cY2, cY3, -⟩ := row4 RY
        have zY := RY.lt
        have yY := Nat.lt_of_succ_lt zY
        clear hmul
        go_wp2_with (go_at_call 19; refine stop_of ?_)
        unfold Stop
        refine (Div_yes m y _ hmb hy hy0).mono ?_
        rintro e w13 ⟨rfl, hb⟩
        rw [HM.out.2.1, HM.out.2.2]
        clear cY0 cY1 cY2 cY3 zY yY
        replace RX := row1 RX hb
        replace RY := row1 RY hb
        have RT := new1 hb
        replace hB := call1 hB hb
        clear hb
        obtain ⟨cX0, cX1, cX2, cX3, -⟩ := row4 RX
        have zX := RX.lt
        obtain ⟨cY0, cY1, cY2, cY3, -⟩ := row4 RY
        have zY := RY.lt
        have yY := Nat.lt_of_succ_lt zY
        by_cases hle : y ≤ x
        · have hcp : cmpN x y = if y < x then 1 else 0 := by unfold cmpN; rw [if_neg (by omega)]
          obtain ⟨cc, hcc⟩ : ∃ cc, cmpN x y = cc := ⟨_, rfl⟩
          have hc0 : 0 ≤ cc := by rw [← hcc, hcp]; split <;> omega
          have hc1 : ¬ cc < 0 := by omega
          have HC := Lib.hid hcc
          clear hcp hcc
          go_wp2_with (go_at_call 21; refine stop_of ?_)
          unfold Stop
          refine (Sub_yes x y _ hx hy hle).mono ?_
          rintro e w14 ⟨rfl, hb⟩
          clear cX0 cX1 cX2 cX3 cY0 cY1 cY2 cY3 zX zY yY
          replace RX := row2 RX hb
          replace RY := row2 RY hb
          replace RT := row2 RT hb
          obtain ⟨-, -⟩ := new2 hb
          replace hB := call2 hB hb
          clear hb
          obtain ⟨cX0, cX1, cX2, cX3, -⟩ := row4 RX
          have zX := RX.lt
          obtain ⟨cY0, cY1, cY2, cY3, -⟩ := row4 RY
          have zY := RY.lt
          have yY := Nat.lt_of_succ_lt zY
          go_wp2_with (go_at_call 20; refine stop_of ?_)
          unfold Stop
          refine (Cmp_any x y _ hx hy).mono ?_
          rintro e w15 ⟨rfl, hb⟩
          rw [HC.out]
          clear cX0 cX1 cX2 cX3 cY0 cY1 cY2 cY3 zX zY yY
          replace RX := row1 RX hb
          replace RY := row1 RY hb
          replace RT := row1 RT hb
          replace hB := call1 hB hb
          clear hb
          obtain ⟨cX0, cX1, cX2, cX3, -⟩ := row4 RX
          have zX := RX.lt
          obtain ⟨cY0, cY1, cY2, cY3, -⟩ := row4 RY
          have zY := RY.lt
          have yY := Nat.lt_of_succ_lt zY
          go_wp2_with (go_at_call 20; refine stop_of ?_)
          unfold Stop
          refine (Cmp_any x y _ hx hy).mono ?_
          rintro e w16 ⟨rfl, hb⟩
          rw [HC.out]
          clear cX0 cX1 cX2 cX3 cY0 cY1 cY2 cY3 zX zY yY
          replace RX := row0 RX hb
          replace RY := row0 RY hb
          replace RT := row0 RT hb
          replace hB := call0 hB hb
          clear hb
          go_wp2_with fail
          go_ret
          exact ⟨by simp; try omega, hB⟩
        · have hcp : cmpN x y = -1 := by unfold cmpN; rw [if_pos (by omega)]
          have HC := Lib.hid hcp
          clear hcp
          go_wp2_with (go_at_call 21; refine stop_of ?_)
          unfold Stop
          refine (Sub_no x y _ hx hy (by omega)).mono ?_
          rintro e w14 ⟨rfl, hb⟩
          clear cX0 cX1 cX2 cX3 cY0 cY1 cY2 cY3 zX zY yY
          replace RX := row2 RX hb
          replace RY := row2 RY hb
          replace RT := row2 RT hb
          obtain ⟨-, -⟩ := new2 hb
          replace hB := call2 hB hb
          clear hb
          obtain ⟨cX0, cX1, cX2, cX3, -⟩ := row4 RX
          have zX := RX.lt
          obtain ⟨cY0, cY1, cY2, cY3, -⟩ := row4 RY
          have zY := RY.lt
          have yY := Nat.lt_of_succ_lt zY
          go_wp2_with (go_at_call 20; refine stop_of ?_)
          unfold Stop
          refine (Cmp_any x y _ hx hy).mono ?_
          rintro e w15 ⟨rfl, hb⟩
          rw [HC.out]
          clear cX0 cX1 cX2 cX3 cY0 cY1 cY2 cY3 zX zY yY
          replace RX := row1 RX hb
          replace RY := row1 RY hb
          replace RT := row1 RT hb
          replace hB := call1 hB hb
          clear hb
          obtain ⟨cX0, cX1, cX2, cX3, -⟩ := row4 RX
          have zX := RX.lt
          obtain ⟨cY0, cY1, cY2, cY3, -⟩ := row4 RY
          have zY := RY.lt
          have yY := Nat.lt_of_succ_lt zY
          go_wp2_with (go_at_call 20; refine stop_of ?_)
          unfold Stop
          refine (Cmp_any x y _ hx hy).mono ?_
          rintro e w16 ⟨rfl, hb⟩
          rw [HC.out]
          clear cX0 cX1 cX2 cX3 cY0 cY1 cY2 cY3 zX zY yY
          replace RX := row0 RX hb
          replace RY := row0 RY hb
          replace RT := row0 RT hb
          replace hB := call0 hB hb
          clear hb
          go_wp2_with fail
          go_ret
          exact ⟨by simp; try omega, hB⟩
      · skip
        go_wp2_with (go_at_call 17; refine stop_of ?_)
        unfold Stop
        refine (Mul2_no _ _ x y (by simp only [World.size_alloc]) hx hy hmul).mono ?_
        rintro e w12 ⟨rfl, hb⟩
        clear cX0 cX1 cX2 cX3 cY0 cY1 cY2 cY3 zX zY yY
        replace RX := row2 RX hb
        replace RY := row2 RY hb
        obtain ⟨-, -⟩ := new2 hb
        replace hB := call2 hB hb
        clear hb
        obtain ⟨cX0, cX1, cX2, cX3, -⟩ := row4 RX
        have zX := RX.lt
        obtain ⟨cY0, cY1, cY2, cY3, -⟩ := row4 RY
        have zY := RY.lt
        have yY := Nat.lt_of_succ_lt zY
        clear hmul
        by_cases hle : y ≤ x
        · have hcp : cmpN x y = if y < x then 1 else 0 := by unfold cmpN; rw [if_neg (by omega)]
          obtain ⟨cc, hcc⟩ : ∃ cc, cmpN x y = cc := ⟨_, rfl⟩
          have hc0 : 0 ≤ cc := by rw [← hcc, hcp]; split <;> omega
          have hc1 : ¬ cc < 0 := by omega
          have HC := Lib.hid hcc
          clear hcp hcc
          go_wp2_with (go_at_call 21; refine stop_of ?_)
          unfold Stop
          refine (Sub_yes x y _ hx hy hle).mono ?_
          rintro e w14 ⟨rfl, hb⟩
          clear cX0 cX1 cX2 cX3 cY0 cY1 cY2 cY3 zX zY yY
          replace RX := row1 RX hb
          replace RY := row1 RY hb
          replace hB := call1 hB hb
          clear hb
          obtain ⟨cX0, cX1, cX2, cX3, -⟩ := row4 RX
          have zX := RX.lt
          obtain ⟨cY0, cY1, cY2, cY3, -⟩ := row4 RY
          have zY := RY.lt
          have yY := Nat.lt_of_succ_lt zY
          go_wp2_with (go_at_call 20; refine stop_of ?_)
          unfold Stop
          refine (Cmp_any x y _ hx hy).mono ?_
          rintro e w15 ⟨rfl, hb⟩
          rw [HC.out]
          clear cX0 cX1 cX2 cX3 cY0 cY1 cY2 cY3 zX zY yY
          replace RX := row1 RX hb
          replace RY := row1 RY hb
          replace hB := call1 hB hb
          clear hb
          obtain ⟨cX0, cX1, cX2, cX3, -⟩ := row4 RX
          have zX := RX.lt
          obtain ⟨cY0, cY1, cY2, cY3, -⟩ := row4 RY
          have zY := RY.lt
          have yY := Nat.lt_of_succ_lt zY
          go_wp2_with (go_at_call 20; refine stop_of ?_)
          unfold Stop
          refine (Cmp_any x y _ hx hy).mono ?_
          rintro e w16 ⟨rfl, hb⟩
          rw [HC.out]
          clear cX0 cX1 cX2 cX3 cY0 cY1 cY2 cY3 zX zY yY
          replace RX := row0 RX hb
          replace RY := row0 RY hb
          replace hB := call0 hB hb
          clear hb
          go_wp2_with fail
          go_ret
          exact ⟨by simp; try omega, hB⟩
        · have hcp : cmpN x y = -1 := by unfold cmpN; rw [if_pos (by omega)]
          have HC := Lib.hid hcp
          clear hcp
          go_wp2_with (go_at_call 21; refine stop_of ?_)
          unfold Stop
          refine (Sub_no x y _ hx hy (by omega)).mono ?_
          rintro e w14 ⟨rfl, hb⟩
          clear cX0 cX1 cX2 cX3 cY0 cY1 cY2 cY3 zX zY yY
          replace RX := row1 RX hb
          replace RY := row1 RY hb
          replace hB := call1 hB hb
          clear hb
          obtain ⟨cX0, cX1, cX2, cX3, -⟩ := row4 RX
          have zX := RX.lt
          obtain ⟨cY0, cY1, cY2, cY3, -⟩ := row4 RY
          have zY := RY.lt
          have yY := Nat.lt_of_succ_lt zY
          go_wp2_with (go_at_call 20; refine stop_of ?_)
          unfold Stop
          refine (Cmp_any x y _ hx hy).mono ?_
          rintro e w15 ⟨rfl, hb⟩
          rw [HC.out]
          clear cX0 cX1 cX2 cX3 cY0 cY1 cY2 cY3 zX zY yY
          replace RX := row1 RX hb
          replace RY := row1 RY hb
          replace hB := call1 hB hb
          clear hb
          obtain ⟨cX0, cX1, cX2, cX3, -⟩ := row4 RX
          have zX := RX.lt
          obtain ⟨cY0, cY1, cY2, cY3, -⟩ := row4 RY
          have zY := RY.lt
          have yY := Nat.lt_of_succ_lt zY
          go_wp2_with (go_at_call 20; refine stop_of ?_)
          unfold Stop
          refine (Cmp_any x y _ hx hy).mono ?_
          rintro e w16 ⟨rfl, hb⟩
          rw [HC.out]
          clear cX0 cX1 cX2 cX3 cY0 cY1 cY2 cY3 zX zY yY
          replace RX := row0 RX hb
          replace RY := row0 RY hb
          replace hB := call0 hB hb
          clear hb
          go_wp2_with fail
          go_ret
          exact ⟨by simp; try omega, hB⟩

theorem NatDivides_walk (a0 a1 a2 a3 b0 b1 b2 b3 : Int) (w : World) (ha : (0 ≤ a0 ∧ a0 ≤ 4294967295) ∧ (0 ≤ a1 ∧ a1 ≤ 4294967295) ∧ (0 ≤ a2 ∧ a2 ≤ 4294967295) ∧ (0 ≤ a3 ∧ a3 ≤ 4294967295)) (hb : (0 ≤ b0 ∧ b0 ≤ 4294967295) ∧ (0 ≤ b1 ∧ b1 ≤ 4294967295) ∧ (0 ≤ b2 ∧ b2 ≤ 4294967295) ∧ (0 ≤ b3 ∧ b3 ≤ 4294967295)) :
    Calls Tryd.prog 6 #[.agg #[.int .u32 a0, .int .u32 a1, .int .u32 a2, .int .u32 a3], .agg #[.int .u32 b0, .int .u32 b1, .int .u32 b2, .int .u32 b3]] w fun e w' => e = .returned (.bool true) ∧ Below w.heap.size w w' := by
  obtain ⟨x, hx, ex⟩ := vN_all a0 a1 a2 a3 ha
  obtain ⟨y, hy, ey⟩ := vN_all b0 b1 b2 b3 hb
  rw [ex, ey]
  exact NatDivides_nat x y w hx hy

end Go.Proofs.YtfciebajiihcfaaDoor
