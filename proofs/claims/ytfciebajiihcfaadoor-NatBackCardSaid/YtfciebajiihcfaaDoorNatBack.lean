/- NatBack, walked -/
import Derived.Test.YtfciebajiihcfaaDoorSteps
import Derived.Test.YtfciebajiihcfaaDoorNatV
namespace Go.Proofs.YtfciebajiihcfaaDoor
open Go.RowKit
set_option linter.unusedVariables false
set_option linter.unusedSimpArgs false
set_option maxRecDepth 100000
set_option maxHeartbeats 4000000

theorem txF_len (f n : Nat) : (txF f n).length ≤ f := by
  induction f generalizing n with
  | zero => simp [txF]
  | succ f ih =>
    unfold txF
    split
    · simp
    · rw [List.length_append]
      have := ih (n / 10)
      simp
      omega

theorem less_self (l : List UInt8) : Op.bytesLess l l = false := by
  induction l with
  | nil => rfl
  | cons c l ih =>
    have h2 : ¬ c < c := fun e => by have : c.toNat < c.toNat := e; omega
    show (decide (c < c) || (c == c && Op.bytesLess l l)) = false
    rw [ih]
    simp [h2]

theorem bel1 {w a : World} {o : Obj} (h : Below w.heap.size w a) : Below w.heap.size w (a.alloc o) := h.alloc h.size o
theorem Of_nat (m : Nat) (w : World) (h : (m : Int) ≤ 9223372036854775807) : Calls Tryd.prog 23 #[.int .i64 (m : Int)] w fun e w' => e = .returned (.tuple #[vN m, .int .i64 0]) ∧ Below w.heap.size w w' := by
  have h1 := Of_yes (m : Int) w (by omega) h
  rw [Int.toNat_natCast] at h1
  exact h1
theorem Cmp_lim (x : Nat) (w : World) (hx : x < big) (h : 9223372036854775808 ≤ x) : Calls Tryd.prog 20 #[vN x, .agg #[.int .u32 4294967295, .int .u32 2147483647, .int .u32 0, .int .u32 0]] w fun e w' => e = .returned (.int .i64 1) ∧ Below w.heap.size w w' := by
  have hc := Cmp_any x 9223372036854775807 w hx (by decide)
  rw [show cmpN x 9223372036854775807 = 1 by unfold cmpN; rw [if_neg (by omega), if_pos (by omega)], show vN 9223372036854775807 = .agg #[.int .u32 4294967295, .int .u32 2147483647, .int .u32 0, .int .u32 0] by kernel_rfl] at hc
  exact hc
theorem txt_ne (n : Nat) : txt n ≠ [] := by
  by_cases h : n < 10
  · rw [txt_small h]; simp
  · rw [txt_step (by omega)]; simp

theorem Text_c (x : Nat) (S : ByteArray) (hx : x < big) (hS : (⟨(txt x).toArray⟩ : ByteArray) = S) (w : World) :
    Calls Tryd.prog 24 #[.agg #[.int .u32 (dg 0 x), .int .u32 (dg 1 x), .int .u32 (dg 2 x), .int .u32 (dg 3 x)]] w fun e w' => e = .returned (.string S) ∧ Below w.heap.size w w' := by
  rw [← hS]
  exact NText_any x w hx

theorem NatBack_nat (x y : Nat) (n : Int) (w : World) (hx : x < big) (hy : y < big) (hn1 : -9223372036854775808 ≤ n) (hn2 : n ≤ 9223372036854775807) :
    Calls Tryd.prog 10 #[vN x, vN y, .int .i64 n] w fun e w' => e = .returned (.bool true) ∧ Below w.heap.size w w' := by
  have d00 : dg 0 0 = 0 := rfl
  have d10 : dg 1 0 = 0 := rfl
  have d20 : dg 2 0 = 0 := rfl
  have d30 : dg 3 0 = 0 := rfl
  obtain ⟨S, hS⟩ : ∃ S : ByteArray, (⟨(txt x).toArray⟩ : ByteArray) = S := ⟨_, rfl⟩
  obtain ⟨T, hT⟩ : ∃ T : ByteArray, (⟨(txt y).toArray⟩ : ByteArray) = T := ⟨_, rfl⟩
  have hct := Text_c x S hx hS
  have hcu := Text_c y T hy hT
  have HT := Lib.hid (And.intro hct hcu)
  clear hct hcu
  have hSz : S.size = (txt x).length := by rw [← hS]; simp [ByteArray.size]
  have hTz : T.size = (txt y).length := by rw [← hT]; simp [ByteArray.size]
  have hS1 : S.toList = txt x := by rw [Lib.toList_data, ← hS]
  have hT1 : T.toList = txt y := by rw [Lib.toList_data, ← hT]
  have hrd : vNRead S.data.toList = .tuple #[vN x, .int .i64 0] := by rw [← hS]; exact read_txt x hx
  have hSl : S.size ≤ 9223372036854775807 := by
    rw [hSz, ← txF_dig 39 x (Nat.lt_of_lt_of_le hx (by decide)) (by decide)]
    have := txF_len 39 x
    omega
  have hord : (S.size < T.size ∧ cmpN x y = -1) ∨ (T.size < S.size ∧ cmpN x y = 1) ∨ (S.size = T.size ∧ x < y ∧ Op.bytesLess S.toList T.toList = true ∧ cmpN x y = -1) ∨ (S.size = T.size ∧ y < x ∧ (Op.bytesLess S.toList T.toList = false ∧ (S.toList == T.toList) = false) ∧ cmpN x y = 1) ∨ (x = y ∧ cmpN x y = 0) := by
    rw [hSz, hTz, hS1, hT1]
    unfold cmpN
    rcases Nat.lt_trichotomy x y with h | h | h
    · rcases Nat.lt_or_ge (txt x).length (txt y).length with hl | hl
      · exact Or.inl ⟨hl, if_pos h⟩
      · have he := Nat.le_antisymm (len_mono y x (Nat.le_of_lt h)) hl
        exact Or.inr (Or.inr (Or.inl ⟨he, h, (less_txt h he).1, if_pos h⟩))
    · exact Or.inr (Or.inr (Or.inr (Or.inr ⟨h, by rw [if_neg (by omega), if_neg (by omega)]⟩)))
    · rcases Nat.lt_or_ge (txt y).length (txt x).length with hl | hl
      · exact Or.inr (Or.inl ⟨hl, by rw [if_neg (by omega), if_pos h]⟩)
      · have he := Nat.le_antisymm (len_mono x y (Nat.le_of_lt h)) hl
        refine Or.inr (Or.inr (Or.inr (Or.inl ⟨he.symm, h, ⟨(less_txt h he).2, ?_⟩, by rw [if_neg (by omega), if_pos h]⟩)))
        rw [beq_eq_false_iff_ne]
        intro e
        have := txt_inj e
        omega
  have hq1 : (S.toList == []) = false := by rw [beq_eq_false_iff_ne, hS1]; exact txt_ne x
  have hq2 : S.toList.isEmpty = false := by rw [← Bool.not_eq_true, List.isEmpty_iff, hS1]; exact txt_ne x
  have HV := Lib.hid (And.intro hrd hord)
  clear hrd hord hSz hTz hS1 hT1
  go_enter Tryd.func10, Tryd.ntmps10
  go_wp2_with (go_at_call 13; refine stop_of ?_)
  unfold Stop
  refine (nawake_true _).mono ?_
  rintro e w1 ⟨rfl, hb⟩
  obtain ⟨RX, RY⟩ := new2 hb
  have hB := call2 (Below.refl _ w) hb
  clear hb
  obtain ⟨cX0, cX1, cX2, cX3, -⟩ := row4 RX
  have zX := RX.lt
  obtain ⟨cY0, cY1, cY2, cY3, -⟩ := row4 RY
  have zY := RY.lt
  have yY := Nat.lt_of_succ_lt zY
  go_wp2_with fail
  go_region_with (go_at_call 24; (first | (with_reducible refine (HT.out.1 _).mono ?_) | (with_reducible refine (HT.out.2 _).mono ?_)); rintro e w2 ⟨rfl, hb⟩; (first | (have RX2 := RX.below hb RX.lt; have RY2 := RY.below hb RY.lt; have hB2 := hB.trans (hb.mono hB.size)) | (have RX2 := RX.drew.below hb RX.lt; have RY2 := RY.drew.below hb RY.lt; have hB2 := hB.drew.trans (hb.mono hB.size))); clear hb RX RY hB cX0 cX1 cX2 cX3 cY0 cY1 cY2 cY3 zX zY yY; have RX := RX2; have RY := RY2; have hB := hB2; clear RX2 RY2 hB2; obtain ⟨cX0, cX1, cX2, cX3, -⟩ := row4 RX; obtain ⟨cY0, cY1, cY2, cY3, -⟩ := row4 RY; have zX := RX.lt; have zY := RY.lt; have yY := Nat.lt_of_succ_lt zY)
  all_goals
    go_wp2_with (go_at_call 25; refine stop_of ?_)
    unfold Stop
    refine (NRead_any S _ (by omega)).mono ?_
    rintro e w4 ⟨rfl, hb⟩
    rw [HV.out.1]
    clear cX0 cX1 cX2 cX3 cY0 cY1 cY2 cY3 zX zY yY
    replace RX := row0 RX hb
    replace RY := row0 RY hb
    replace hB := call0 hB hb
    clear hb
    obtain ⟨cX0, cX1, cX2, cX3, -⟩ := row4 RX
    have zX := RX.lt
    obtain ⟨cY0, cY1, cY2, cY3, -⟩ := row4 RY
    have zY := RY.lt
    have yY := Nat.lt_of_succ_lt zY
    rcases HV.out.2 with ⟨h1, h2⟩ | ⟨h1, h2⟩ | ⟨h1, h2, h3, h4⟩ | ⟨h1, h2, ⟨h3, h5⟩, h4⟩ | ⟨h1, h2⟩
    · have hne : x ≠ y := by rintro rfl; unfold cmpN at h2; simp at h2
      have h1i : (S.size : Int) < (T.size : Int) := by omega
      have hxy := dg_ne x y hx hy hne
      have HC := Lib.hid h2
      clear h2 hne
      go_wp2_with (go_at_call 20; refine stop_of ?_)
      unfold Stop
      refine (Cmp_any x y _ hx hy).mono ?_
      rintro e w5 ⟨rfl, hb⟩
      rw [HC.out]
      clear cX0 cX1 cX2 cX3 cY0 cY1 cY2 cY3 zX zY yY
      replace RX := row1 RX hb
      replace RY := row1 RY hb
      have RK := new1 hb
      replace hB := call1 hB hb
      clear hb
      obtain ⟨cX0, cX1, cX2, cX3, -⟩ := row4 RX
      have zX := RX.lt
      obtain ⟨cY0, cY1, cY2, cY3, -⟩ := row4 RY
      have zY := RY.lt
      have yY := Nat.lt_of_succ_lt zY
      by_cases hn0 : n < 0
      · skip
        go_wp2_with (go_at_call 23; refine stop_of ?_)
        unfold Stop
        refine (Of_no n _ hn0).mono ?_
        rintro e w6 ⟨rfl, hb⟩
        clear cX0 cX1 cX2 cX3 cY0 cY1 cY2 cY3 zX zY yY
        replace RX := row0 RX hb
        replace RY := row0 RY hb
        replace RK := row0 RK hb
        replace hB := call0 hB hb
        clear hb
        obtain ⟨cX0, cX1, cX2, cX3, -⟩ := row4 RX
        have zX := RX.lt
        go_wp2_with fail
        go_ret
        exact ⟨by simp, bel1 hB⟩
      · obtain ⟨m, rfl⟩ : ∃ m : Nat, n = m := ⟨n.toNat, by omega⟩
        go_wp2_with (go_at_call 23; refine stop_of ?_)
        unfold Stop
        refine (Of_nat m _ (by omega)).mono ?_
        rintro e w6 ⟨rfl, hb⟩
        clear cX0 cX1 cX2 cX3 cY0 cY1 cY2 cY3 zX zY yY
        replace RX := row0 RX hb
        replace RY := row0 RY hb
        replace RK := row0 RK hb
        replace hB := call0 hB hb
        clear hb
        obtain ⟨cX0, cX1, cX2, cX3, -⟩ := row4 RX
        have zX := RX.lt
        go_wp2_with (go_at_call 27; refine stop_of ?_)
        unfold Stop
        refine (Int_yes m _ (by omega)).mono ?_
        rintro e w7 ⟨rfl, hb⟩
        clear cX0 cX1 cX2 cX3 zX
        replace RX := row1 RX hb
        replace RY := row1 RY hb
        replace RK := row1 RK hb
        have RO := new1 hb
        replace hB := call1 hB hb
        clear hb
        obtain ⟨cX0, cX1, cX2, cX3, -⟩ := row4 RX
        have zX := RX.lt
        by_cases hf : x < 9223372036854775808
        · skip
          go_wp2_with (go_at_call 27; refine stop_of ?_)
          unfold Stop
          refine (Int_yes x _ hf).mono ?_
          rintro e w8 ⟨rfl, hb⟩
          clear cX0 cX1 cX2 cX3 zX
          replace RX := row0 RX hb
          replace RY := row0 RY hb
          replace RK := row0 RK hb
          replace RO := row0 RO hb
          replace hB := call0 hB hb
          clear hb
          obtain ⟨cX0, cX1, cX2, cX3, -⟩ := row4 RX
          have zX := RX.lt
          go_wp2_with (go_at_call 23; refine stop_of ?_)
          unfold Stop
          refine (Of_nat x _ (by omega)).mono ?_
          rintro e w9 ⟨rfl, hb⟩
          clear cX0 cX1 cX2 cX3 zX
          replace RX := row0 RX hb
          replace RY := row0 RY hb
          replace RK := row0 RK hb
          replace RO := row0 RO hb
          replace hB := call0 hB hb
          clear hb
          obtain ⟨cX0, cX1, cX2, cX3, -⟩ := row4 RX
          have zX := RX.lt
          go_wp2_with fail
          go_ret
          exact ⟨by simp, bel1 hB⟩
        · skip
          go_wp2_with (go_at_call 27; refine stop_of ?_)
          unfold Stop
          refine (Int_no x _ (by omega) hx).mono ?_
          rintro e w8 ⟨rfl, hb⟩
          clear cX0 cX1 cX2 cX3 zX
          replace RX := row0 RX hb
          replace RY := row0 RY hb
          replace RK := row0 RK hb
          replace RO := row0 RO hb
          replace hB := call0 hB hb
          clear hb
          obtain ⟨cX0, cX1, cX2, cX3, -⟩ := row4 RX
          have zX := RX.lt
          go_wp2_with (go_at_call 23; refine stop_of ?_)
          unfold Stop
          refine (Of_nat 0 _ (by omega)).mono ?_
          rintro e w9 ⟨rfl, hb⟩
          clear cX0 cX1 cX2 cX3 zX
          replace RX := row0 RX hb
          replace RY := row0 RY hb
          replace RK := row0 RK hb
          replace RO := row0 RO hb
          replace hB := call0 hB hb
          clear hb
          obtain ⟨cX0, cX1, cX2, cX3, -⟩ := row4 RX
          have zX := RX.lt
          go_wp2_with (go_at_call 20; refine stop_of ?_)
          unfold Stop
          refine (Cmp_lim x _ hx (by omega)).mono ?_
          rintro e w10 ⟨rfl, hb⟩
          clear cX0 cX1 cX2 cX3 zX
          replace RX := row1 RX hb
          replace RY := row1 RY hb
          replace RK := row1 RK hb
          replace RO := row1 RO hb
          have RZ := new1 hb
          replace hB := call1 hB hb
          clear hb
          go_wp2_with fail
          go_ret
          exact ⟨by simp, hB⟩
    · have hne : x ≠ y := by rintro rfl; unfold cmpN at h2; simp at h2
      have h1i : (T.size : Int) < (S.size : Int) := by omega
      have hxy := dg_ne x y hx hy hne
      have HC := Lib.hid h2
      clear h2 hne
      go_wp2_with (go_at_call 20; refine stop_of ?_)
      unfold Stop
      refine (Cmp_any x y _ hx hy).mono ?_
      rintro e w5 ⟨rfl, hb⟩
      rw [HC.out]
      clear cX0 cX1 cX2 cX3 cY0 cY1 cY2 cY3 zX zY yY
      replace RX := row1 RX hb
      replace RY := row1 RY hb
      have RK := new1 hb
      replace hB := call1 hB hb
      clear hb
      obtain ⟨cX0, cX1, cX2, cX3, -⟩ := row4 RX
      have zX := RX.lt
      obtain ⟨cY0, cY1, cY2, cY3, -⟩ := row4 RY
      have zY := RY.lt
      have yY := Nat.lt_of_succ_lt zY
      by_cases hn0 : n < 0
      · skip
        go_wp2_with (go_at_call 23; refine stop_of ?_)
        unfold Stop
        refine (Of_no n _ hn0).mono ?_
        rintro e w6 ⟨rfl, hb⟩
        clear cX0 cX1 cX2 cX3 cY0 cY1 cY2 cY3 zX zY yY
        replace RX := row0 RX hb
        replace RY := row0 RY hb
        replace RK := row0 RK hb
        replace hB := call0 hB hb
        clear hb
        obtain ⟨cX0, cX1, cX2, cX3, -⟩ := row4 RX
        have zX := RX.lt
        go_wp2_with fail
        go_ret
        exact ⟨by simp, bel1 hB⟩
      · obtain ⟨m, rfl⟩ : ∃ m : Nat, n = m := ⟨n.toNat, by omega⟩
        go_wp2_with (go_at_call 23; refine stop_of ?_)
        unfold Stop
        refine (Of_nat m _ (by omega)).mono ?_
        rintro e w6 ⟨rfl, hb⟩
        clear cX0 cX1 cX2 cX3 cY0 cY1 cY2 cY3 zX zY yY
        replace RX := row0 RX hb
        replace RY := row0 RY hb
        replace RK := row0 RK hb
        replace hB := call0 hB hb
        clear hb
        obtain ⟨cX0, cX1, cX2, cX3, -⟩ := row4 RX
        have zX := RX.lt
        go_wp2_with (go_at_call 27; refine stop_of ?_)
        unfold Stop
        refine (Int_yes m _ (by omega)).mono ?_
        rintro e w7 ⟨rfl, hb⟩
        clear cX0 cX1 cX2 cX3 zX
        replace RX := row1 RX hb
        replace RY := row1 RY hb
        replace RK := row1 RK hb
        have RO := new1 hb
        replace hB := call1 hB hb
        clear hb
        obtain ⟨cX0, cX1, cX2, cX3, -⟩ := row4 RX
        have zX := RX.lt
        by_cases hf : x < 9223372036854775808
        · skip
          go_wp2_with (go_at_call 27; refine stop_of ?_)
          unfold Stop
          refine (Int_yes x _ hf).mono ?_
          rintro e w8 ⟨rfl, hb⟩
          clear cX0 cX1 cX2 cX3 zX
          replace RX := row0 RX hb
          replace RY := row0 RY hb
          replace RK := row0 RK hb
          replace RO := row0 RO hb
          replace hB := call0 hB hb
          clear hb
          obtain ⟨cX0, cX1, cX2, cX3, -⟩ := row4 RX
          have zX := RX.lt
          go_wp2_with (go_at_call 23; refine stop_of ?_)
          unfold Stop
          refine (Of_nat x _ (by omega)).mono ?_
          rintro e w9 ⟨rfl, hb⟩
          clear cX0 cX1 cX2 cX3 zX
          replace RX := row0 RX hb
          replace RY := row0 RY hb
          replace RK := row0 RK hb
          replace RO := row0 RO hb
          replace hB := call0 hB hb
          clear hb
          obtain ⟨cX0, cX1, cX2, cX3, -⟩ := row4 RX
          have zX := RX.lt
          go_wp2_with fail
          go_ret
          exact ⟨by simp, bel1 hB⟩
        · skip
          go_wp2_with (go_at_call 27; refine stop_of ?_)
          unfold Stop
          refine (Int_no x _ (by omega) hx).mono ?_
          rintro e w8 ⟨rfl, hb⟩
          clear cX0 cX1 cX2 cX3 zX
          replace RX := row0 RX hb
          replace RY := row0 RY hb
          replace RK := row0 RK hb
          replace RO := row0 RO hb
          replace hB := call0 hB hb
          clear hb
          obtain ⟨cX0, cX1, cX2, cX3, -⟩ := row4 RX
          have zX := RX.lt
          go_wp2_with (go_at_call 23; refine stop_of ?_)
          unfold Stop
          refine (Of_nat 0 _ (by omega)).mono ?_
          rintro e w9 ⟨rfl, hb⟩
          clear cX0 cX1 cX2 cX3 zX
          replace RX := row0 RX hb
          replace RY := row0 RY hb
          replace RK := row0 RK hb
          replace RO := row0 RO hb
          replace hB := call0 hB hb
          clear hb
          obtain ⟨cX0, cX1, cX2, cX3, -⟩ := row4 RX
          have zX := RX.lt
          go_wp2_with (go_at_call 20; refine stop_of ?_)
          unfold Stop
          refine (Cmp_lim x _ hx (by omega)).mono ?_
          rintro e w10 ⟨rfl, hb⟩
          clear cX0 cX1 cX2 cX3 zX
          replace RX := row1 RX hb
          replace RY := row1 RY hb
          replace RK := row1 RK hb
          replace RO := row1 RO hb
          have RZ := new1 hb
          replace hB := call1 hB hb
          clear hb
          go_wp2_with fail
          go_ret
          exact ⟨by simp, hB⟩
    · have hne : x ≠ y := by omega
      have h2 := h4
      clear h4
      have hxy := dg_ne x y hx hy hne
      have HC := Lib.hid h2
      clear h2 hne
      go_wp2_with (go_at_call 20; refine stop_of ?_)
      unfold Stop
      refine (Cmp_any x y _ hx hy).mono ?_
      rintro e w5 ⟨rfl, hb⟩
      rw [HC.out]
      clear cX0 cX1 cX2 cX3 cY0 cY1 cY2 cY3 zX zY yY
      replace RX := row1 RX hb
      replace RY := row1 RY hb
      have RK := new1 hb
      replace hB := call1 hB hb
      clear hb
      obtain ⟨cX0, cX1, cX2, cX3, -⟩ := row4 RX
      have zX := RX.lt
      obtain ⟨cY0, cY1, cY2, cY3, -⟩ := row4 RY
      have zY := RY.lt
      have yY := Nat.lt_of_succ_lt zY
      by_cases hn0 : n < 0
      · skip
        go_wp2_with (go_at_call 23; refine stop_of ?_)
        unfold Stop
        refine (Of_no n _ hn0).mono ?_
        rintro e w6 ⟨rfl, hb⟩
        clear cX0 cX1 cX2 cX3 cY0 cY1 cY2 cY3 zX zY yY
        replace RX := row0 RX hb
        replace RY := row0 RY hb
        replace RK := row0 RK hb
        replace hB := call0 hB hb
        clear hb
        obtain ⟨cX0, cX1, cX2, cX3, -⟩ := row4 RX
        have zX := RX.lt
        go_wp2_with fail
        go_ret
        exact ⟨by simp, bel1 hB⟩
      · obtain ⟨m, rfl⟩ : ∃ m : Nat, n = m := ⟨n.toNat, by omega⟩
        go_wp2_with (go_at_call 23; refine stop_of ?_)
        unfold Stop
        refine (Of_nat m _ (by omega)).mono ?_
        rintro e w6 ⟨rfl, hb⟩
        clear cX0 cX1 cX2 cX3 cY0 cY1 cY2 cY3 zX zY yY
        replace RX := row0 RX hb
        replace RY := row0 RY hb
        replace RK := row0 RK hb
        replace hB := call0 hB hb
        clear hb
        obtain ⟨cX0, cX1, cX2, cX3, -⟩ := row4 RX
        have zX := RX.lt
        go_wp2_with (go_at_call 27; refine stop_of ?_)
        unfold Stop
        refine (Int_yes m _ (by omega)).mono ?_
        rintro e w7 ⟨rfl, hb⟩
        clear cX0 cX1 cX2 cX3 zX
        replace RX := row1 RX hb
        replace RY := row1 RY hb
        replace RK := row1 RK hb
        have RO := new1 hb
        replace hB := call1 hB hb
        clear hb
        obtain ⟨cX0, cX1, cX2, cX3, -⟩ := row4 RX
        have zX := RX.lt
        by_cases hf : x < 9223372036854775808
        · skip
          go_wp2_with (go_at_call 27; refine stop_of ?_)
          unfold Stop
          refine (Int_yes x _ hf).mono ?_
          rintro e w8 ⟨rfl, hb⟩
          clear cX0 cX1 cX2 cX3 zX
          replace RX := row0 RX hb
          replace RY := row0 RY hb
          replace RK := row0 RK hb
          replace RO := row0 RO hb
          replace hB := call0 hB hb
          clear hb
          obtain ⟨cX0, cX1, cX2, cX3, -⟩ := row4 RX
          have zX := RX.lt
          go_wp2_with (go_at_call 23; refine stop_of ?_)
          unfold Stop
          refine (Of_nat x _ (by omega)).mono ?_
          rintro e w9 ⟨rfl, hb⟩
          clear cX0 cX1 cX2 cX3 zX
          replace RX := row0 RX hb
          replace RY := row0 RY hb
          replace RK := row0 RK hb
          replace RO := row0 RO hb
          replace hB := call0 hB hb
          clear hb
          obtain ⟨cX0, cX1, cX2, cX3, -⟩ := row4 RX
          have zX := RX.lt
          go_wp2_with fail
          go_ret
          exact ⟨by simp, bel1 hB⟩
        · skip
          go_wp2_with (go_at_call 27; refine stop_of ?_)
          unfold Stop
          refine (Int_no x _ (by omega) hx).mono ?_
          rintro e w8 ⟨rfl, hb⟩
          clear cX0 cX1 cX2 cX3 zX
          replace RX := row0 RX hb
          replace RY := row0 RY hb
          replace RK := row0 RK hb
          replace RO := row0 RO hb
          replace hB := call0 hB hb
          clear hb
          obtain ⟨cX0, cX1, cX2, cX3, -⟩ := row4 RX
          have zX := RX.lt
          go_wp2_with (go_at_call 23; refine stop_of ?_)
          unfold Stop
          refine (Of_nat 0 _ (by omega)).mono ?_
          rintro e w9 ⟨rfl, hb⟩
          clear cX0 cX1 cX2 cX3 zX
          replace RX := row0 RX hb
          replace RY := row0 RY hb
          replace RK := row0 RK hb
          replace RO := row0 RO hb
          replace hB := call0 hB hb
          clear hb
          obtain ⟨cX0, cX1, cX2, cX3, -⟩ := row4 RX
          have zX := RX.lt
          go_wp2_with (go_at_call 20; refine stop_of ?_)
          unfold Stop
          refine (Cmp_lim x _ hx (by omega)).mono ?_
          rintro e w10 ⟨rfl, hb⟩
          clear cX0 cX1 cX2 cX3 zX
          replace RX := row1 RX hb
          replace RY := row1 RY hb
          replace RK := row1 RK hb
          replace RO := row1 RO hb
          have RZ := new1 hb
          replace hB := call1 hB hb
          clear hb
          go_wp2_with fail
          go_ret
          exact ⟨by simp, hB⟩
    · have hne : x ≠ y := by omega
      have h2 := h4
      clear h4
      have hxy := dg_ne x y hx hy hne
      have HC := Lib.hid h2
      clear h2 hne
      go_wp2_with (go_at_call 20; refine stop_of ?_)
      unfold Stop
      refine (Cmp_any x y _ hx hy).mono ?_
      rintro e w5 ⟨rfl, hb⟩
      rw [HC.out]
      clear cX0 cX1 cX2 cX3 cY0 cY1 cY2 cY3 zX zY yY
      replace RX := row1 RX hb
      replace RY := row1 RY hb
      have RK := new1 hb
      replace hB := call1 hB hb
      clear hb
      obtain ⟨cX0, cX1, cX2, cX3, -⟩ := row4 RX
      have zX := RX.lt
      obtain ⟨cY0, cY1, cY2, cY3, -⟩ := row4 RY
      have zY := RY.lt
      have yY := Nat.lt_of_succ_lt zY
      by_cases hn0 : n < 0
      · skip
        go_wp2_with (go_at_call 23; refine stop_of ?_)
        unfold Stop
        refine (Of_no n _ hn0).mono ?_
        rintro e w6 ⟨rfl, hb⟩
        clear cX0 cX1 cX2 cX3 cY0 cY1 cY2 cY3 zX zY yY
        replace RX := row0 RX hb
        replace RY := row0 RY hb
        replace RK := row0 RK hb
        replace hB := call0 hB hb
        clear hb
        obtain ⟨cX0, cX1, cX2, cX3, -⟩ := row4 RX
        have zX := RX.lt
        go_wp2_with fail
        go_ret
        exact ⟨by simp, bel1 hB⟩
      · obtain ⟨m, rfl⟩ : ∃ m : Nat, n = m := ⟨n.toNat, by omega⟩
        go_wp2_with (go_at_call 23; refine stop_of ?_)
        unfold Stop
        refine (Of_nat m _ (by omega)).mono ?_
        rintro e w6 ⟨rfl, hb⟩
        clear cX0 cX1 cX2 cX3 cY0 cY1 cY2 cY3 zX zY yY
        replace RX := row0 RX hb
        replace RY := row0 RY hb
        replace RK := row0 RK hb
        replace hB := call0 hB hb
        clear hb
        obtain ⟨cX0, cX1, cX2, cX3, -⟩ := row4 RX
        have zX := RX.lt
        go_wp2_with (go_at_call 27; refine stop_of ?_)
        unfold Stop
        refine (Int_yes m _ (by omega)).mono ?_
        rintro e w7 ⟨rfl, hb⟩
        clear cX0 cX1 cX2 cX3 zX
        replace RX := row1 RX hb
        replace RY := row1 RY hb
        replace RK := row1 RK hb
        have RO := new1 hb
        replace hB := call1 hB hb
        clear hb
        obtain ⟨cX0, cX1, cX2, cX3, -⟩ := row4 RX
        have zX := RX.lt
        by_cases hf : x < 9223372036854775808
        · skip
          go_wp2_with (go_at_call 27; refine stop_of ?_)
          unfold Stop
          refine (Int_yes x _ hf).mono ?_
          rintro e w8 ⟨rfl, hb⟩
          clear cX0 cX1 cX2 cX3 zX
          replace RX := row0 RX hb
          replace RY := row0 RY hb
          replace RK := row0 RK hb
          replace RO := row0 RO hb
          replace hB := call0 hB hb
          clear hb
          obtain ⟨cX0, cX1, cX2, cX3, -⟩ := row4 RX
          have zX := RX.lt
          go_wp2_with (go_at_call 23; refine stop_of ?_)
          unfold Stop
          refine (Of_nat x _ (by omega)).mono ?_
          rintro e w9 ⟨rfl, hb⟩
          clear cX0 cX1 cX2 cX3 zX
          replace RX := row0 RX hb
          replace RY := row0 RY hb
          replace RK := row0 RK hb
          replace RO := row0 RO hb
          replace hB := call0 hB hb
          clear hb
          obtain ⟨cX0, cX1, cX2, cX3, -⟩ := row4 RX
          have zX := RX.lt
          go_wp2_with fail
          go_ret
          exact ⟨by simp, bel1 hB⟩
        · skip
          go_wp2_with (go_at_call 27; refine stop_of ?_)
          unfold Stop
          refine (Int_no x _ (by omega) hx).mono ?_
          rintro e w8 ⟨rfl, hb⟩
          clear cX0 cX1 cX2 cX3 zX
          replace RX := row0 RX hb
          replace RY := row0 RY hb
          replace RK := row0 RK hb
          replace RO := row0 RO hb
          replace hB := call0 hB hb
          clear hb
          obtain ⟨cX0, cX1, cX2, cX3, -⟩ := row4 RX
          have zX := RX.lt
          go_wp2_with (go_at_call 23; refine stop_of ?_)
          unfold Stop
          refine (Of_nat 0 _ (by omega)).mono ?_
          rintro e w9 ⟨rfl, hb⟩
          clear cX0 cX1 cX2 cX3 zX
          replace RX := row0 RX hb
          replace RY := row0 RY hb
          replace RK := row0 RK hb
          replace RO := row0 RO hb
          replace hB := call0 hB hb
          clear hb
          obtain ⟨cX0, cX1, cX2, cX3, -⟩ := row4 RX
          have zX := RX.lt
          go_wp2_with (go_at_call 20; refine stop_of ?_)
          unfold Stop
          refine (Cmp_lim x _ hx (by omega)).mono ?_
          rintro e w10 ⟨rfl, hb⟩
          clear cX0 cX1 cX2 cX3 zX
          replace RX := row1 RX hb
          replace RY := row1 RY hb
          replace RK := row1 RK hb
          replace RO := row1 RO hb
          have RZ := new1 hb
          replace hB := call1 hB hb
          clear hb
          go_wp2_with fail
          go_ret
          exact ⟨by simp, hB⟩
    · subst h1
      have hselfS := less_self S.toList
      have hselfT := less_self T.toList
      have hTS : T = S := hT.symm.trans hS
      subst hTS
      have HC := Lib.hid h2
      clear h2
      go_wp2_with (go_at_call 20; refine stop_of ?_)
      unfold Stop
      refine (Cmp_any x x _ hx hx).mono ?_
      rintro e w5 ⟨rfl, hb⟩
      rw [HC.out]
      clear cX0 cX1 cX2 cX3 cY0 cY1 cY2 cY3 zX zY yY
      replace RX := row1 RX hb
      replace RY := row1 RY hb
      have RK := new1 hb
      replace hB := call1 hB hb
      clear hb
      obtain ⟨cX0, cX1, cX2, cX3, -⟩ := row4 RX
      have zX := RX.lt
      obtain ⟨cY0, cY1, cY2, cY3, -⟩ := row4 RY
      have zY := RY.lt
      have yY := Nat.lt_of_succ_lt zY
      by_cases hn0 : n < 0
      · skip
        go_wp2_with (go_at_call 23; refine stop_of ?_)
        unfold Stop
        refine (Of_no n _ hn0).mono ?_
        rintro e w6 ⟨rfl, hb⟩
        clear cX0 cX1 cX2 cX3 cY0 cY1 cY2 cY3 zX zY yY
        replace RX := row0 RX hb
        replace RY := row0 RY hb
        replace RK := row0 RK hb
        replace hB := call0 hB hb
        clear hb
        obtain ⟨cX0, cX1, cX2, cX3, -⟩ := row4 RX
        have zX := RX.lt
        go_wp2_with fail
        go_ret
        exact ⟨by simp, bel1 hB⟩
      · obtain ⟨m, rfl⟩ : ∃ m : Nat, n = m := ⟨n.toNat, by omega⟩
        go_wp2_with (go_at_call 23; refine stop_of ?_)
        unfold Stop
        refine (Of_nat m _ (by omega)).mono ?_
        rintro e w6 ⟨rfl, hb⟩
        clear cX0 cX1 cX2 cX3 cY0 cY1 cY2 cY3 zX zY yY
        replace RX := row0 RX hb
        replace RY := row0 RY hb
        replace RK := row0 RK hb
        replace hB := call0 hB hb
        clear hb
        obtain ⟨cX0, cX1, cX2, cX3, -⟩ := row4 RX
        have zX := RX.lt
        go_wp2_with (go_at_call 27; refine stop_of ?_)
        unfold Stop
        refine (Int_yes m _ (by omega)).mono ?_
        rintro e w7 ⟨rfl, hb⟩
        clear cX0 cX1 cX2 cX3 zX
        replace RX := row1 RX hb
        replace RY := row1 RY hb
        replace RK := row1 RK hb
        have RO := new1 hb
        replace hB := call1 hB hb
        clear hb
        obtain ⟨cX0, cX1, cX2, cX3, -⟩ := row4 RX
        have zX := RX.lt
        by_cases hf : x < 9223372036854775808
        · skip
          go_wp2_with (go_at_call 27; refine stop_of ?_)
          unfold Stop
          refine (Int_yes x _ hf).mono ?_
          rintro e w8 ⟨rfl, hb⟩
          clear cX0 cX1 cX2 cX3 zX
          replace RX := row0 RX hb
          replace RY := row0 RY hb
          replace RK := row0 RK hb
          replace RO := row0 RO hb
          replace hB := call0 hB hb
          clear hb
          obtain ⟨cX0, cX1, cX2, cX3, -⟩ := row4 RX
          have zX := RX.lt
          go_wp2_with (go_at_call 23; refine stop_of ?_)
          unfold Stop
          refine (Of_nat x _ (by omega)).mono ?_
          rintro e w9 ⟨rfl, hb⟩
          clear cX0 cX1 cX2 cX3 zX
          replace RX := row0 RX hb
          replace RY := row0 RY hb
          replace RK := row0 RK hb
          replace RO := row0 RO hb
          replace hB := call0 hB hb
          clear hb
          obtain ⟨cX0, cX1, cX2, cX3, -⟩ := row4 RX
          have zX := RX.lt
          go_wp2_with fail
          go_ret
          exact ⟨by simp, bel1 hB⟩
        · skip
          go_wp2_with (go_at_call 27; refine stop_of ?_)
          unfold Stop
          refine (Int_no x _ (by omega) hx).mono ?_
          rintro e w8 ⟨rfl, hb⟩
          clear cX0 cX1 cX2 cX3 zX
          replace RX := row0 RX hb
          replace RY := row0 RY hb
          replace RK := row0 RK hb
          replace RO := row0 RO hb
          replace hB := call0 hB hb
          clear hb
          obtain ⟨cX0, cX1, cX2, cX3, -⟩ := row4 RX
          have zX := RX.lt
          go_wp2_with (go_at_call 23; refine stop_of ?_)
          unfold Stop
          refine (Of_nat 0 _ (by omega)).mono ?_
          rintro e w9 ⟨rfl, hb⟩
          clear cX0 cX1 cX2 cX3 zX
          replace RX := row0 RX hb
          replace RY := row0 RY hb
          replace RK := row0 RK hb
          replace RO := row0 RO hb
          replace hB := call0 hB hb
          clear hb
          obtain ⟨cX0, cX1, cX2, cX3, -⟩ := row4 RX
          have zX := RX.lt
          go_wp2_with (go_at_call 20; refine stop_of ?_)
          unfold Stop
          refine (Cmp_lim x _ hx (by omega)).mono ?_
          rintro e w10 ⟨rfl, hb⟩
          clear cX0 cX1 cX2 cX3 zX
          replace RX := row1 RX hb
          replace RY := row1 RY hb
          replace RK := row1 RK hb
          replace RO := row1 RO hb
          have RZ := new1 hb
          replace hB := call1 hB hb
          clear hb
          go_wp2_with fail
          go_ret
          exact ⟨by simp, hB⟩

theorem NatBack_walk (a0 a1 a2 a3 b0 b1 b2 b3 n : Int) (w : World) (ha : (0 ≤ a0 ∧ a0 ≤ 4294967295) ∧ (0 ≤ a1 ∧ a1 ≤ 4294967295) ∧ (0 ≤ a2 ∧ a2 ≤ 4294967295) ∧ (0 ≤ a3 ∧ a3 ≤ 4294967295)) (hb : (0 ≤ b0 ∧ b0 ≤ 4294967295) ∧ (0 ≤ b1 ∧ b1 ≤ 4294967295) ∧ (0 ≤ b2 ∧ b2 ≤ 4294967295) ∧ (0 ≤ b3 ∧ b3 ≤ 4294967295)) (hn : -9223372036854775808 ≤ n ∧ n ≤ 9223372036854775807) :
    Calls Tryd.prog 10 #[.agg #[.int .u32 a0, .int .u32 a1, .int .u32 a2, .int .u32 a3], .agg #[.int .u32 b0, .int .u32 b1, .int .u32 b2, .int .u32 b3], .int .i64 n] w fun e w' => e = .returned (.bool true) ∧ Below w.heap.size w w' := by
  obtain ⟨x, hx, ex⟩ := vN_all a0 a1 a2 a3 ha
  obtain ⟨y, hy, ey⟩ := vN_all b0 b1 b2 b3 hb
  rw [ex, ey]
  exact NatBack_nat x y n w hx hy hn.1 hn.2

end Go.Proofs.YtfciebajiihcfaaDoor
