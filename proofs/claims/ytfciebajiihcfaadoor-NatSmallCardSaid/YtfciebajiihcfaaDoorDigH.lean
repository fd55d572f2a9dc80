/- finesseref02: what it exports -/
import Derived.Test.YtfciebajiihcfaaDoorDigG
import Derived.Test.YtfciebajiihcfaaDoorNatB
import Derived.Test.YtfciebajiihcfaaDoorNatE
namespace Go.Proofs.YtfciebajiihcfaaDoor
open Go.RowKit
set_option linter.unusedVariables false
set_option linter.unusedSimpArgs false
set_option maxRecDepth 100000
set_option maxHeartbeats 2000000
attribute [local go_sem ↓] Go.wp_at_zero Go.wp_at_succ

theorem dc0 {w a b : World} (h : Below w.heap.size w a) (hb : Below a.heap.size a b) : Below w.heap.size w b := h.trans (hb.mono h.size)
theorem dr0 {a b : World} {k : Nat} {t : TypeId} {vs : Array Value} (r : Row a k t vs) (hb : Below a.heap.size a b) : Row b k t vs := r.below hb r.lt

theorem rOf_yes (n : Nat) (w : World) (hn : n < 9223372036854775808) :
    Calls Tryd.prog 31 #[.int .i64 (n : Int)] w fun e w' => e = .returned (.tuple #[vN n, .int .i64 0]) ∧ Below w.heap.size w w' := by
  have hl : (dgs n).length ≤ 50000 := Nat.le_trans (dgs_len_le (k := 19) (by omega)) (by decide)
  have hv : vParts n = .tuple #[vN n, .int .i64 0] := by unfold vParts; rw [if_pos (by unfold big; omega)]
  have HV := Lib.hid hv
  clear hv
  go_enter Tryd.func31, Tryd.ntmps31
  go_wp2_with (go_at_call 51; refine stopD_of ?_)
  unfold StopD
  refine (of_dg n _ hn).mono ?_
  rintro e w1 ⟨v1, rfl, hv1, hb1⟩
  obtain ⟨r2, hB, z2⟩ := rows1 hb1
  have H1 := Lib.hid (And.intro hv1 (And.intro r2 hB))
  clear hv1 hb1 r2 hB
  go_wp2_with (go_at_call 47; refine stopD_of ?_)
  unfold StopD
  refine (parts_dg _ n _ H1.out.1 hl).mono ?_
  rintro e w2 ⟨rfl, hb2⟩
  rw [HV.out]
  have r2 := dr0 H1.out.2.1 hb2
  have hB := dc0 H1.out.2.2 hb2
  clear hb2 H1
  obtain ⟨c20, c21, c22, c23, f20, f21, f22, f23⟩ := row4 r2
  go_wp2_with fail
  refine bodyPost_ret (res_ct rfl rfl (load4' (r2.stored4 _ _ _ _))) rfl ⟨rfl, Below.stored4 hB (Nat.le_refl _) _ _ _ _⟩

theorem rOf_no (n : Int) (w : World) (hn : n < 0) :
    Calls Tryd.prog 31 #[.int .i64 n] w fun e w' => e = .returned (.tuple #[vN 0, .int .i64 21]) ∧ Below w.heap.size w w' := by
  go_enter Tryd.func31, Tryd.ntmps31
  go_wp2
  refine bodyPost_ret (res_ct rfl rfl (load4' (Row.new _ _ _))) rfl ⟨rfl, ?_⟩
  exact (Below.refl _ _).alloc (Nat.le_refl _) _

theorem rInt_yes (x : Nat) (w : World) (hx : x < big) (h : x < 9223372036854775808) :
    Calls Tryd.prog 43 #[vN x] w fun e w' => e = .returned (.tuple #[.int .i64 (x : Int), .int .i64 0]) ∧ Below w.heap.size w w' := by
  have hl : (dgs x).length ≤ 1000000 := Nat.le_trans (len_big x hx) (by decide)
  have hl2 : (dgs 9223372036854775807).length ≤ 1000000 := Nat.le_trans (dgs_len_le (k := 19) (by decide)) (by decide)
  have hlt : decide (9223372036854775807 < x) = false := by
    exact decide_eq_false (by omega)
  have HL := Lib.hid (And.intro hlt h)
  clear hlt h
  go_enter Tryd.func43, Tryd.ntmps43
  go_wp2_with (go_at_call 50; refine stopD_of ?_)
  unfold StopD
  refine (digits_dg x _ hx).mono ?_
  rintro e w1 ⟨v1, rfl, hv1, hb1⟩
  obtain ⟨-, hB, z2⟩ := rows1 hb1
  have H1 := Lib.hid (And.intro hv1 hB)
  clear hv1 hb1 hB
  go_wp2_with (go_at_call 51; refine stopD_of ?_)
  unfold StopD
  refine (of_dg 9223372036854775807 _ (by decide)).mono ?_
  rintro e w2 ⟨v2, rfl, hv2, hb2⟩
  have H2 := Lib.hid (And.intro (H1.out.1.later hb2) (And.intro hv2 (dc0 H1.out.2 hb2)))
  clear hv2 hb2 H1
  go_wp2_with (go_at_call 63; refine stopD_of ?_)
  unfold StopD
  refine (less_any _ _ 9223372036854775807 x _ H2.out.2.1 H2.out.1 hl2 hl).mono ?_
  rintro e w3 ⟨rfl, hb3⟩
  rw [HL.out.1]
  have H3 := Lib.hid (And.intro (H2.out.1.later hb3) (dc0 H2.out.2.2 hb3))
  clear hb3 H2
  go_wp2_with (go_at_call 65; refine stopD_of ?_)
  unfold StopD
  refine (value_dg _ x _ H3.out.1 HL.out.2).mono ?_
  rintro e w4 ⟨rfl, rfl⟩
  go_wp2_with fail
  go_ret2
  exact ⟨rfl, H3.out.2⟩

theorem rInt_no (x : Nat) (w : World) (hx : x < big) (h : ¬ x < 9223372036854775808) :
    Calls Tryd.prog 43 #[vN x] w fun e w' => e = .returned (.tuple #[.int .i64 0, .int .i64 3]) ∧ Below w.heap.size w w' := by
  have hl : (dgs x).length ≤ 1000000 := Nat.le_trans (len_big x hx) (by decide)
  have hl2 : (dgs 9223372036854775807).length ≤ 1000000 := Nat.le_trans (dgs_len_le (k := 19) (by decide)) (by decide)
  have hlt : decide (9223372036854775807 < x) = true := by
    exact decide_eq_true (by omega)
  have HL := Lib.hid (And.intro hlt h)
  clear hlt h
  go_enter Tryd.func43, Tryd.ntmps43
  go_wp2_with (go_at_call 50; refine stopD_of ?_)
  unfold StopD
  refine (digits_dg x _ hx).mono ?_
  rintro e w1 ⟨v1, rfl, hv1, hb1⟩
  obtain ⟨-, hB, z2⟩ := rows1 hb1
  have H1 := Lib.hid (And.intro hv1 hB)
  clear hv1 hb1 hB
  go_wp2_with (go_at_call 51; refine stopD_of ?_)
  unfold StopD
  refine (of_dg 9223372036854775807 _ (by decide)).mono ?_
  rintro e w2 ⟨v2, rfl, hv2, hb2⟩
  have H2 := Lib.hid (And.intro (H1.out.1.later hb2) (And.intro hv2 (dc0 H1.out.2 hb2)))
  clear hv2 hb2 H1
  go_wp2_with (go_at_call 63; refine stopD_of ?_)
  unfold StopD
  refine (less_any _ _ 9223372036854775807 x _ H2.out.2.1 H2.out.1 hl2 hl).mono ?_
  rintro e w3 ⟨rfl, hb3⟩
  rw [HL.out.1]
  have H3 := Lib.hid (And.intro (H2.out.1.later hb3) (dc0 H2.out.2.2 hb3))
  clear hb3 H2
  go_wp2_with fail
  go_ret2
  exact ⟨rfl, H3.out.2⟩


theorem rCmp_any (x y : Nat) (w : World) (hx : x < big) (hy : y < big) :
    Calls Tryd.prog 45 #[vN x, vN y] w fun e w' => e = .returned (.int .i64 (cmpN x y)) ∧ Below w.heap.size w w' := by
  have hlx : (dgs x).length ≤ 1000000 := Nat.le_trans (len_big x hx) (by decide)
  have hly : (dgs y).length ≤ 1000000 := Nat.le_trans (len_big y hy) (by decide)
  go_enter Tryd.func45, Tryd.ntmps45
  go_wp2_with fail
  go_region_held3 (fun w' => w'.cell? ⟨w.heap.size, 0, none⟩ = some (.int .u32 (dg 0 x)) ∧ w'.cell? ⟨w.heap.size, 1, none⟩ = some (.int .u32 (dg 1 x)) ∧ w'.cell? ⟨w.heap.size, 2, none⟩ = some (.int .u32 (dg 2 x)) ∧ w'.cell? ⟨w.heap.size, 3, none⟩ = some (.int .u32 (dg 3 x)) ∧ w'.cell? ⟨w.heap.size + 1, 0, none⟩ = some (.int .u32 (dg 0 y)) ∧ w'.cell? ⟨w.heap.size + 1, 1, none⟩ = some (.int .u32 (dg 1 y)) ∧ w'.cell? ⟨w.heap.size + 1, 2, none⟩ = some (.int .u32 (dg 2 y)) ∧ w'.cell? ⟨w.heap.size + 1, 3, none⟩ = some (.int .u32 (dg 3 y))) (((try dsimp only); ((repeat' apply And.intro) <;> (first | (go_keep; done) | (refine keep_cellD hby ?_; go_keep; done) | (refine keep_cellD hbx ?_; go_keep; done)))))
    (first
      | ((go_at_call 50); (with_reducible refine (digits_dg x _ hx).mono ?_); (rintro e wx ⟨vx, rfl, hvx, hbx⟩))
      | ((go_at_call 50); (with_reducible refine (digits_dg y _ hy).mono ?_); (rintro e wy ⟨vy, rfl, hvy, hby⟩)))
  all_goals
    have hB : Below w.heap.size w wy := dc0 (Below.trans (((Below.refl _ _).alloc (Nat.le_refl _) _).alloc (by simp) _).drew (hbx.mono (by simp; omega))) hby
    have H1 := Lib.hid (And.intro (hvx.later hby) (And.intro hvy hB))
    clear hvx hvy hbx hby hB
    go_wp2_with (go_at_call 63; refine stopD_of ?_)
    unfold StopD
    refine (less_any _ _ x y _ H1.out.1 H1.out.2.1 hlx hly).mono ?_
    rintro e w3 ⟨rfl, hb3⟩
    have H3 := Lib.hid (And.intro (H1.out.1.later hb3) (And.intro (H1.out.2.1.later hb3) (dc0 H1.out.2.2 hb3)))
    clear hb3 H1
    by_cases h : x < y
    · rw [decide_eq_true h]
      have HH := Lib.hid h
      clear h
      go_wp2_with fail
      go_ret
      exact ⟨ret_int (by unfold cmpN; rw [if_pos HH.out]), H3.out.2.2⟩
    · rw [decide_eq_false h]
      have HH := Lib.hid h
      clear h
      go_wp2_with (go_at_call 63; refine stopD_of ?_)
      unfold StopD
      refine (less_any _ _ y x _ H3.out.2.1 H3.out.1 hly hlx).mono ?_
      rintro e w4 ⟨rfl, hb4⟩
      have hB4 := Lib.hid (dc0 H3.out.2.2 hb4)
      clear hb4 H3
      by_cases h : y < x
      · rw [decide_eq_true h]
        have HH2 := Lib.hid h
        clear h
        go_wp2_with fail
        go_ret
        exact ⟨ret_int (by unfold cmpN; rw [if_neg HH.out, if_pos HH2.out]), hB4.out⟩
      · rw [decide_eq_false h]
        have HH2 := Lib.hid h
        clear h
        go_wp2_with fail
        go_ret
        exact ⟨ret_int (by unfold cmpN; rw [if_neg HH.out, if_neg HH2.out]), hB4.out⟩

theorem rAdd_any (x y : Nat) (w : World) (hx : x < big) (hy : y < big) :
    Calls Tryd.prog 40 #[vN x, vN y] w fun e w' => e = .returned (vParts (x + y)) ∧ Below w.heap.size w w' := by
  have m1 : (dgs x).length ≤ 100000 := Nat.le_trans (len_big x hx) (by decide)
  have m2 : (dgs y).length ≤ 100000 := Nat.le_trans (len_big y hy) (by decide)
  have m3 : (dgs (x + y)).length ≤ 50000 := Nat.le_trans (dgs_len_le (k := 40) (by unfold big at hx hy; omega)) (by decide)
  obtain ⟨n, e9, hpv⟩ : ∃ (n : Nat) (e9 : Int), vParts (x + y) = .tuple #[vN n, .int .i64 e9] := by
    unfold vParts
    split
    · exact ⟨_, _, rfl⟩
    · exact ⟨_, _, rfl⟩
  rw [hpv]
  have HM := Lib.hid (And.intro m1 (And.intro m2 (And.intro m3 hpv)))
  clear m1 m2 m3 hpv
  go_enter Tryd.func40, Tryd.ntmps40
  go_wp2_with fail
  have q0 : w.heap.size + 1 + 1 ≠ w.heap.size := by omega
  have q1 : w.heap.size + 1 + 1 ≠ w.heap.size + 1 := by omega
  go_region_held3 (fun w' => w'.cell? ⟨w.heap.size, 0, none⟩ = some (.int .u32 (dg 0 x)) ∧ w'.cell? ⟨w.heap.size, 1, none⟩ = some (.int .u32 (dg 1 x)) ∧ w'.cell? ⟨w.heap.size, 2, none⟩ = some (.int .u32 (dg 2 x)) ∧ w'.cell? ⟨w.heap.size, 3, none⟩ = some (.int .u32 (dg 3 x)) ∧ w'.cell? ⟨w.heap.size + 1, 0, none⟩ = some (.int .u32 (dg 0 y)) ∧ w'.cell? ⟨w.heap.size + 1, 1, none⟩ = some (.int .u32 (dg 1 y)) ∧ w'.cell? ⟨w.heap.size + 1, 2, none⟩ = some (.int .u32 (dg 2 y)) ∧ w'.cell? ⟨w.heap.size + 1, 3, none⟩ = some (.int .u32 (dg 3 y))) (((try dsimp only); ((repeat' apply And.intro) <;> (first | (go_keep; done) | (refine keep_cellD hby ?_; go_keep; done) | (refine keep_cellD hbx ?_; go_keep; done) | (refine keep_cellD hba ?_; go_keep; done) | (refine keep_cellD hbp ?_; go_keep; done)))))
    (first
      | ((go_at_call 50); (with_reducible refine (digits_dg x _ hx).mono ?_); (rintro e wx ⟨vx, rfl, hvx, hbx⟩))
      | ((go_at_call 50); (with_reducible refine (digits_dg y _ hy).mono ?_); (rintro e wy ⟨vy, rfl, hvy, hby⟩))
      | ((go_at_call 62); (have q2 := hvx.later hby); (refine (add_dg _ _ x y _ q2 hvy HM.out.1 HM.out.2.1).mono ?_); (rintro e wa ⟨va, rfl, hva, hba⟩))
      | ((go_at_call 47); (refine (parts_dg _ (x + y) _ hva HM.out.2.2.1).mono ?_); (rintro e wp ⟨rfl, hbp⟩); (rw [HM.out.2.2.2]); (have hBp := dc0 (dc0 (dc0 hbx hby) hba) hbp); (have rO := dr0 (show Row _ (w.heap.size + 1 + 1) 27 (pN 0) from (rows3 (w := w) (v0 := pN x) (v1 := pN y) (v2 := pN 0) (t0 := 27) (t1 := 27) (t2 := 27) (Below.refl _ _)).2.2.1.drew) hBp); (obtain ⟨co0, co1, co2, co3, fo0, fo1, fo2, fo3⟩ := row4 rO)))
  all_goals
    have hB0 : Below w.heap.size w wp := ((((Below.refl _ _).alloc (Nat.le_refl _) _).alloc (by simp) _).alloc (by simp; omega) _).drew.trans (hBp.mono (by simp; omega))
    have HB := Lib.hid hB0
    clear hB0 hBp hbx hby hba hbp hvx hvy hva
    go_wp2_with fail
    refine bodyPost_ret (res_ct rfl rfl (load4' (rO.stored4 _ _ _ _))) rfl ⟨rfl, Below.stored4 HB.out (by omega) _ _ _ _⟩

theorem rSub_any (x y : Nat) (w : World) (hx : x < big) (hy : y < big) :
    Calls Tryd.prog 41 #[vN x, vN y] w fun e w' => e = .returned (if x < y then .tuple #[vN 0, .int .i64 21] else .tuple #[vN (x - y), .int .i64 0]) ∧ Below w.heap.size w w' := by
  have m1 : (dgs x).length ≤ 100000 := Nat.le_trans (len_big x hx) (by decide)
  have m2 : (dgs y).length ≤ 100000 := Nat.le_trans (len_big y hy) (by decide)
  have hxy : x - y < big := Nat.lt_of_le_of_lt (Nat.sub_le _ _) hx
  have m3 : (dgs (x - y)).length ≤ 50000 := Nat.le_trans (len_big _ hxy) (by decide)
  have hpv : vParts (x - y) = .tuple #[vN (x - y), .int .i64 0] := by unfold vParts; rw [if_pos hxy]
  have d00 : dg 0 0 = 0 := rfl
  have d10 : dg 1 0 = 0 := rfl
  have d20 : dg 2 0 = 0 := rfl
  have d30 : dg 3 0 = 0 := rfl
  have HM := Lib.hid (And.intro m1 (And.intro m2 (And.intro m3 hpv)))
  clear m1 m2 m3 hpv hxy
  by_cases h : x < y
  · rw [if_pos h]
    have HH := Lib.hid h
    clear h
    go_enter Tryd.func41, Tryd.ntmps41
    go_wp2_with fail
    go_region_held3 (fun w' => w'.cell? ⟨w.heap.size, 0, none⟩ = some (.int .u32 (dg 0 x)) ∧ w'.cell? ⟨w.heap.size, 1, none⟩ = some (.int .u32 (dg 1 x)) ∧ w'.cell? ⟨w.heap.size, 2, none⟩ = some (.int .u32 (dg 2 x)) ∧ w'.cell? ⟨w.heap.size, 3, none⟩ = some (.int .u32 (dg 3 x)) ∧ w'.cell? ⟨w.heap.size + 1, 0, none⟩ = some (.int .u32 (dg 0 y)) ∧ w'.cell? ⟨w.heap.size + 1, 1, none⟩ = some (.int .u32 (dg 1 y)) ∧ w'.cell? ⟨w.heap.size + 1, 2, none⟩ = some (.int .u32 (dg 2 y)) ∧ w'.cell? ⟨w.heap.size + 1, 3, none⟩ = some (.int .u32 (dg 3 y))) (((try dsimp only); ((repeat' apply And.intro) <;> (first | (go_keep; done) | (refine keep_cellD hbl ?_; go_keep; done) | (refine keep_cellD hby ?_; go_keep; done) | (refine keep_cellD hbx ?_; go_keep; done)))))
      (first
        | ((go_at_call 50); (with_reducible refine (digits_dg x _ hx).mono ?_); (rintro e wx ⟨vx, rfl, hvx, hbx⟩))
        | ((go_at_call 50); (with_reducible refine (digits_dg y _ hy).mono ?_); (rintro e wy ⟨vy, rfl, hvy, hby⟩))
        | ((go_at_call 63); (have q2 := hvx.later hby); (refine (less_any _ _ x y _ q2 hvy (Nat.le_trans HM.out.1 (by decide)) (Nat.le_trans HM.out.2.1 (by decide))).mono ?_); (rintro e wl ⟨rfl, hbl⟩); (rw [decide_eq_true HH.out]); (have hBl := dc0 (dc0 hbx hby) hbl); (have rO := dr0 (show Row _ (w.heap.size + 1 + 1) 27 (pN 0) from (rows3 (w := w) (v0 := pN x) (v1 := pN y) (v2 := pN 0) (t0 := 27) (t1 := 27) (t2 := 27) (Below.refl _ _)).2.2.1.drew) hBl)))
    all_goals
      have hB0 : Below w.heap.size w wl := ((((Below.refl _ _).alloc (Nat.le_refl _) _).alloc (by simp) _).alloc (by simp; omega) _).drew.trans (hBl.mono (by simp; omega))
      have HB := Lib.hid hB0
      clear hB0 hBl hbx hby hbl hvx hvy
      obtain ⟨co0, co1, co2, co3, fo0, fo1, fo2, fo3⟩ := row4 rO
      go_wp2_with fail
      refine bodyPost_ret (res_ct rfl rfl (load4' (rO.stored4 _ _ _ _))) rfl ⟨rfl, Below.stored4 HB.out (by omega) _ _ _ _⟩
  · rw [if_neg h]
    have HH := Lib.hid h
    clear h
    go_enter Tryd.func41, Tryd.ntmps41
    go_wp2_with fail
    go_region_held3 (fun w' => w'.cell? ⟨w.heap.size, 0, none⟩ = some (.int .u32 (dg 0 x)) ∧ w'.cell? ⟨w.heap.size, 1, none⟩ = some (.int .u32 (dg 1 x)) ∧ w'.cell? ⟨w.heap.size, 2, none⟩ = some (.int .u32 (dg 2 x)) ∧ w'.cell? ⟨w.heap.size, 3, none⟩ = some (.int .u32 (dg 3 x)) ∧ w'.cell? ⟨w.heap.size + 1, 0, none⟩ = some (.int .u32 (dg 0 y)) ∧ w'.cell? ⟨w.heap.size + 1, 1, none⟩ = some (.int .u32 (dg 1 y)) ∧ w'.cell? ⟨w.heap.size + 1, 2, none⟩ = some (.int .u32 (dg 2 y)) ∧ w'.cell? ⟨w.heap.size + 1, 3, none⟩ = some (.int .u32 (dg 3 y))) (((try dsimp only); ((repeat' apply And.intro) <;> (first | (go_keep; done) | (refine keep_cellD hbl ?_; go_keep; done) | (refine keep_cellD hby ?_; go_keep; done) | (refine keep_cellD hbx ?_; go_keep; done)))))
      (first
        | ((go_at_call 50); (with_reducible refine (digits_dg x _ hx).mono ?_); (rintro e wx ⟨vx, rfl, hvx, hbx⟩))
        | ((go_at_call 50); (with_reducible refine (digits_dg y _ hy).mono ?_); (rintro e wy ⟨vy, rfl, hvy, hby⟩))
        | ((go_at_call 63); (have q2 := hvx.later hby); (refine (less_any _ _ x y _ q2 hvy (Nat.le_trans HM.out.1 (by decide)) (Nat.le_trans HM.out.2.1 (by decide))).mono ?_); (rintro e wl ⟨rfl, hbl⟩); (rw [decide_eq_false HH.out]); (have hBl := dc0 (dc0 hbx hby) hbl); (have rO := dr0 (show Row _ (w.heap.size + 1 + 1) 27 (pN 0) from (rows3 (w := w) (v0 := pN x) (v1 := pN y) (v2 := pN 0) (t0 := 27) (t1 := 27) (t2 := 27) (Below.refl _ _)).2.2.1.drew) hBl); (have rX := dr0 (show Row _ w.heap.size 27 (pN x) from (rows3 (w := w) (v0 := pN x) (v1 := pN y) (v2 := pN 0) (t0 := 27) (t1 := 27) (t2 := 27) (Below.refl _ _)).1.drew) hBl); (have rY := dr0 (show Row _ (w.heap.size + 1) 27 (pN y) from (rows3 (w := w) (v0 := pN x) (v1 := pN y) (v2 := pN 0) (t0 := 27) (t1 := 27) (t2 := 27) (Below.refl _ _)).2.1.drew) hBl)))
    all_goals
      have hB0 : Below w.heap.size w wl := ((((Below.refl _ _).alloc (Nat.le_refl _) _).alloc (by simp) _).alloc (by simp; omega) _).drew.trans (hBl.mono (by simp; omega))
      have HB := Lib.hid (And.intro hB0 rO)
      obtain ⟨cx0, cx1, cx2, cx3, -⟩ := row4 rX
      obtain ⟨cy0, cy1, cy2, cy3, -⟩ := row4 rY
      have q0 : w.heap.size + 1 + 1 ≠ w.heap.size := by omega
      have q1 : w.heap.size + 1 + 1 ≠ w.heap.size + 1 := by omega
      clear hB0 hBl hbx hby hbl hvx hvy rO
      go_wp2_with fail
      go_region_held3 (fun w' => w'.cell? ⟨w.heap.size, 0, none⟩ = some (.int .u32 (dg 0 x)) ∧ w'.cell? ⟨w.heap.size, 1, none⟩ = some (.int .u32 (dg 1 x)) ∧ w'.cell? ⟨w.heap.size, 2, none⟩ = some (.int .u32 (dg 2 x)) ∧ w'.cell? ⟨w.heap.size, 3, none⟩ = some (.int .u32 (dg 3 x)) ∧ w'.cell? ⟨w.heap.size + 1, 0, none⟩ = some (.int .u32 (dg 0 y)) ∧ w'.cell? ⟨w.heap.size + 1, 1, none⟩ = some (.int .u32 (dg 1 y)) ∧ w'.cell? ⟨w.heap.size + 1, 2, none⟩ = some (.int .u32 (dg 2 y)) ∧ w'.cell? ⟨w.heap.size + 1, 3, none⟩ = some (.int .u32 (dg 3 y))) (((try dsimp only); ((repeat' apply And.intro) <;> (first | (go_keep; done) | (refine keep_cellD hby ?_; go_keep; done) | (refine keep_cellD hbx ?_; go_keep; done) | (refine keep_cellD hba ?_; go_keep; done) | (refine keep_cellD hbp ?_; go_keep; done)))))
        (first
          | ((go_at_call 50); (with_reducible refine (digits_dg x _ hx).mono ?_); (rintro e wx ⟨vx, rfl, hvx, hbx⟩))
          | ((go_at_call 50); (with_reducible refine (digits_dg y _ hy).mono ?_); (rintro e wy ⟨vy, rfl, hvy, hby⟩))
          | ((go_at_call 64); (have q2 := hvx.later hby); (refine (sub_dg _ _ x y _ q2 hvy HM.out.1 (Nat.le_of_not_lt HH.out)).mono ?_); (rintro e wa ⟨va, rfl, hva, hba⟩))
          | ((go_at_call 47); (refine (parts_dg _ (x - y) _ hva HM.out.2.2.1).mono ?_); (rintro e wp ⟨rfl, hbp⟩); (rw [HM.out.2.2.2]); (have hBp := dc0 (dc0 (dc0 hbx hby) hba) hbp); (have rP := dr0 (show Row wl.drew (w.heap.size + 1 + 1) 27 (pN 0) from HB.out.2) hBp); (obtain ⟨co0, co1, co2, co3, fo0, fo1, fo2, fo3⟩ := row4 rP)))
      all_goals
        have HB2 := Lib.hid (HB.out.1.drew.trans (hBp.mono HB.out.1.size))
        clear hBp hbx hby hba hbp hvx hvy hva
        go_wp2_with fail
        refine bodyPost_ret (res_ct rfl rfl (load4' (rP.stored4 _ _ _ _))) rfl ⟨rfl, Below.stored4 HB2.out (by omega) _ _ _ _⟩

theorem dgs_len_pos {y : Nat} (h : 0 < y) : 0 < (dgs y).length := by rw [dgs_pos h]; simp

theorem rDiv_no (x : Nat) (w : World) :
    Calls Tryd.prog 42 #[vN x, vN 0] w fun e w' => e = .returned (.tuple #[vN 0, vN 0, .int .i64 2]) ∧ Below w.heap.size w w' := by
  have hy : 0 < big := by decide
  go_enter Tryd.func42, Tryd.ntmps42
  go_wp2_with (go_at_call 50; refine stopD_of ?_)
  unfold StopD
  refine (digits_dg 0 _ hy).mono ?_
  rintro e w1 ⟨v1, rfl, hv1, hb1⟩
  obtain ⟨-, -, r4, r5, hB, z0, z1, z2, z3⟩ := rows4 hb1
  obtain ⟨a1, c1, rfl⟩ := Rd.shape hv1
  have hl : (dgs 0).length = 0 := by rw [dgs_zero]; rfl
  rw [hl]
  obtain ⟨c40, c41, c42, c43, f40, f41, f42, f43⟩ := row4 r4
  obtain ⟨c50, c51, c52, c53, f50, f51, f52, f53⟩ := row4 r5
  clear hl hv1 hb1
  go_wp2_with fail
  refine bodyPost_ret (res_cct rfl rfl rfl (load4' ((r4.stored4 (vU 0) (vU 0) (vU 0) (vU 0)).other4 (by omega) _ _ _ _)) (load4' ((r5.other4 (by omega) (vU 0) (vU 0) (vU 0) (vU 0)).stored4 _ _ _ _))) rfl ⟨rfl, ?_⟩
  exact Below.stored4 (Below.stored4 hB (by omega) _ _ _ _) (by omega) _ _ _ _

theorem rDiv_yes (x y : Nat) (w : World) (hx : x < big) (hy : y < big) (h0 : 0 < y) :
    Calls Tryd.prog 42 #[vN x, vN y] w fun e w' => e = .returned (.tuple #[vN (x / y), vN (x % y), .int .i64 0]) ∧ Below w.heap.size w w' := by
  have m1 : (dgs x).length ≤ 50000 := Nat.le_trans (len_big x hx) (by decide)
  have m2 : (dgs y).length ≤ 50000 := Nat.le_trans (len_big y hy) (by decide)
  have hqb : x / y < big := Nat.lt_of_le_of_lt (Nat.div_le_self _ _) hx
  have hrb : x % y < big := Nat.lt_of_le_of_lt (Nat.mod_le _ _) hx
  obtain ⟨Q, hQ⟩ : ∃ Q, x / y = Q := ⟨_, rfl⟩
  obtain ⟨R, hR⟩ : ∃ R, x % y = R := ⟨_, rfl⟩
  rw [hQ] at hqb ⊢
  rw [hR] at hrb ⊢
  have m3 : (dgs Q).length ≤ 50000 := Nat.le_trans (len_big _ hqb) (by decide)
  have m4 : (dgs R).length ≤ 50000 := Nat.le_trans (len_big _ hrb) (by decide)
  have hpQ : vParts Q = .tuple #[vN Q, .int .i64 0] := by unfold vParts; rw [if_pos hqb]
  have hpR : vParts R = .tuple #[vN R, .int .i64 0] := by unfold vParts; rw [if_pos hrb]
  have hl := dgs_len_pos h0
  have HM := Lib.hid (And.intro m1 (And.intro m2 (And.intro m3 (And.intro m4 (And.intro hpQ (And.intro hpR (And.intro hQ hR)))))))
  clear m1 m2 m3 m4 hpQ hpR hQ hR hqb hrb
  go_enter Tryd.func42, Tryd.ntmps42
  go_wp2_with (go_at_call 50; refine stopD_of ?_)
  unfold StopD
  refine (digits_dg y _ hy).mono ?_
  rintro e w1 ⟨v1, rfl, hv1, hb1⟩
  obtain ⟨rX, rY, r4, r5, hB, z0, z1, z2, z3⟩ := rows4 hb1
  obtain ⟨a1, c1, rfl⟩ := Rd.shape hv1
  obtain ⟨n1, hn1⟩ : ∃ n, (dgs y).length = n := ⟨_, rfl⟩
  rw [hn1] at hl ⊢
  have hne : ((n1 : Int) == 0) = false := by rw [beq_eq_false_iff_ne]; omega
  have HR := Lib.hid (And.intro r4 (And.intro r5 hB))
  obtain ⟨cx0, cx1, cx2, cx3, -⟩ := row4 rX
  obtain ⟨cy0, cy1, cy2, cy3, -⟩ := row4 rY
  clear hn1 hv1 hb1 r4 r5 hB
  go_wp2_with fail
  go_region_held3 (fun w' => w'.cell? ⟨w.heap.size, 0, none⟩ = some (.int .u32 (dg 0 x)) ∧ w'.cell? ⟨w.heap.size, 1, none⟩ = some (.int .u32 (dg 1 x)) ∧ w'.cell? ⟨w.heap.size, 2, none⟩ = some (.int .u32 (dg 2 x)) ∧ w'.cell? ⟨w.heap.size, 3, none⟩ = some (.int .u32 (dg 3 x)) ∧ w'.cell? ⟨w.heap.size + 1, 0, none⟩ = some (.int .u32 (dg 0 y)) ∧ w'.cell? ⟨w.heap.size + 1, 1, none⟩ = some (.int .u32 (dg 1 y)) ∧ w'.cell? ⟨w.heap.size + 1, 2, none⟩ = some (.int .u32 (dg 2 y)) ∧ w'.cell? ⟨w.heap.size + 1, 3, none⟩ = some (.int .u32 (dg 3 y))) (((try dsimp only); ((repeat' apply And.intro) <;> (first | (go_keep; done) | (refine keep_cellD hby ?_; go_keep; done) | (refine keep_cellD hbx ?_; go_keep; done) | (refine keep_cellD hbd ?_; go_keep; done)))))
    (first
      | ((go_at_call 50); (with_reducible refine (digits_dg x _ hx).mono ?_); (rintro e wx ⟨vx, rfl, hvx, hbx⟩))
      | ((go_at_call 50); (with_reducible refine (digits_dg y _ hy).mono ?_); (rintro e wy ⟨vy, rfl, hvy, hby⟩))
      | ((go_at_call 52); (have q2 := hvx.later hby); (refine (div_dg _ _ x y _ q2 hvy HM.out.1 HM.out.2.1 h0).mono ?_); (rintro e wd ⟨vq, vr, rfl, hvq, hvr, hbd⟩)))
  all_goals
    have hb3 := dc0 (dc0 hbx hby) hbd
    have r4 := dr0 (show Row w1.drew (w.heap.size + 1 + 1) 27 (pN 0) from HR.out.1) hb3
    have r5 := dr0 (show Row w1.drew (w.heap.size + 1 + 1 + 1) 27 (pN 0) from HR.out.2.1) hb3
    have hB := HR.out.2.2.drew.trans (hb3.mono HR.out.2.2.size)
    rw [HM.out.2.2.2.2.2.2.1] at hvq
    rw [HM.out.2.2.2.2.2.2.2] at hvr
    have H2 := Lib.hid (And.intro hvq (And.intro hvr (And.intro r4 (And.intro r5 hB))))
    clear hb3 r4 r5 hB hvq hvr hbx hby hbd hvx hvy cx0 cx1 cx2 cx3 cy0 cy1 cy2 cy3 HR rX rY
    go_wp2_with (go_at_call 47; refine stopD_of ?_)
    unfold StopD
    refine (parts_dg _ Q _ H2.out.1 HM.out.2.2.1).mono ?_
    rintro e w3 ⟨rfl, hb⟩
    rw [HM.out.2.2.2.2.1]
    have H3 := Lib.hid (And.intro (H2.out.2.1.later hb) (And.intro (dr0 H2.out.2.2.1 hb) (And.intro (dr0 H2.out.2.2.2.1 hb) (dc0 H2.out.2.2.2.2 hb))))
    clear hb H2
    have hbA : Below w3.heap.size w3 (w3.alloc (.cells (pN Q) 27)) := (Below.refl _ _).alloc (Nat.le_refl _) _
    have H3b := Lib.hid (H3.out.1.later hbA)
    clear hbA
    go_wp2_with (go_at_call 47; refine stopD_of ?_)
    unfold StopD
    refine (parts_dg _ R _ H3b.out HM.out.2.2.2.1).mono ?_
    rintro e w4 ⟨rfl, hb⟩
    rw [HM.out.2.2.2.2.2.1]
    have hbA : Below w3.heap.size w3 (w3.alloc (.cells (pN Q) 27)) := (Below.refl _ _).alloc (Nat.le_refl _) _
    have hb34 := hbA.trans (hb.mono (by simp))
    have r4 := dr0 H3.out.2.1 hb34
    have r5 := dr0 H3.out.2.2.1 hb34
    have hB := dc0 H3.out.2.2.2 hb34
    have rQ : Row w4 w3.heap.size 27 (pN Q) := (Row.new w3 27 (pN Q)).below hb (by simp)
    have zz : w.heap.size + 1 + 1 + 1 < w3.heap.size := H3.out.2.2.1.lt
    clear hb hb34 hbA H3 H3b
    have z4 := r4.lt
    have z5 := r5.lt
    have zQ := rQ.lt
    obtain ⟨c40, c41, c42, c43, f40, f41, f42, f43⟩ := row4 r4
    obtain ⟨c50, c51, c52, c53, f50, f51, f52, f53⟩ := row4 r5
    obtain ⟨cq0, cq1, cq2, cq3, -⟩ := row4 rQ
    have n1 : w.heap.size + 1 + 1 ≠ w3.heap.size := by omega
    have n2 : w.heap.size + 1 + 1 + 1 ≠ w3.heap.size := by omega
    have n3 : w.heap.size + 1 + 1 ≠ w4.heap.size := by omega
    have n4 : w.heap.size + 1 + 1 + 1 ≠ w4.heap.size := by omega
    go_wp2_with fail
    go_region_with (fail)
    all_goals
      go_wp2_with fail
      refine bodyPost_ret (res_cct rfl rfl rfl (load4' (((r4.stored4 _ _ _ _).other4 (by omega) _ _ _ _).alloc _).drew) (load4' (((r5.other4 (by omega) _ _ _ _).stored4 _ _ _ _).alloc _).drew)) rfl ⟨rfl, ?_⟩
      exact ((Below.stored4 (Below.stored4 hB (by omega) _ _ _ _) (by omega) _ _ _ _).alloc (by simp; have := hB.size; omega) _).drew

theorem rGcd_any (x y : Nat) (w : World) (hx : x < big) (hy : y < big) :
    Calls Tryd.prog 44 #[vN x, vN y] w fun e w' => e = .returned (vN (Nat.gcd x y)) ∧ Below w.heap.size w w' := by
  obtain ⟨G, hG⟩ : ∃ G, Nat.gcd x y = G := ⟨_, rfl⟩
  have hGb : G < big := by
    rw [← hG]
    rcases Nat.eq_zero_or_pos y with h | h
    · rw [h, Nat.gcd_zero_right]; exact hx
    · exact Nat.lt_of_le_of_lt (Nat.gcd_le_right x h) hy
  have hpv : vParts G = .tuple #[vN G, .int .i64 0] := by unfold vParts; rw [if_pos hGb]
  have hGl : (dgs G).length ≤ 50000 := Nat.le_trans (len_big _ hGb) (by decide)
  rw [hG]
  have HM := Lib.hid (And.intro hG (And.intro hpv hGl))
  clear hG hpv hGb hGl
  go_enter Tryd.func44, Tryd.ntmps44
  go_wp2_with fail
  go_region_held3 (fun w' => w'.cell? ⟨w.heap.size, 0, none⟩ = some (.int .u32 (dg 0 x)) ∧ w'.cell? ⟨w.heap.size, 1, none⟩ = some (.int .u32 (dg 1 x)) ∧ w'.cell? ⟨w.heap.size, 2, none⟩ = some (.int .u32 (dg 2 x)) ∧ w'.cell? ⟨w.heap.size, 3, none⟩ = some (.int .u32 (dg 3 x)) ∧ w'.cell? ⟨w.heap.size + 1, 0, none⟩ = some (.int .u32 (dg 0 y)) ∧ w'.cell? ⟨w.heap.size + 1, 1, none⟩ = some (.int .u32 (dg 1 y)) ∧ w'.cell? ⟨w.heap.size + 1, 2, none⟩ = some (.int .u32 (dg 2 y)) ∧ w'.cell? ⟨w.heap.size + 1, 3, none⟩ = some (.int .u32 (dg 3 y))) (((try dsimp only); ((repeat' apply And.intro) <;> (first | (go_keep; done) | (refine keep_cellD hby ?_; go_keep; done) | (refine keep_cellD hbx ?_; go_keep; done)))))
    (first
      | ((go_at_call 50); (with_reducible refine (digits_dg x _ hx).mono ?_); (rintro e wx ⟨vx, rfl, hvx, hbx⟩))
      | ((go_at_call 50); (with_reducible refine (digits_dg y _ hy).mono ?_); (rintro e wy ⟨vy, rfl, hvy, hby⟩)))
  all_goals
    have hb2 := dc0 hbx hby
    have rO := dr0 (show Row _ (w.heap.size + 1 + 1) 27 (pN 0) from (rows3 (w := w) (v0 := pN x) (v1 := pN y) (v2 := pN 0) (t0 := 27) (t1 := 27) (t2 := 27) (Below.refl _ _)).2.2.1.drew) hb2
    have hB0 : Below w.heap.size w wy := ((((Below.refl _ _).alloc (Nat.le_refl _) _).alloc (by simp) _).alloc (by simp; omega) _).drew.trans (hb2.mono (by simp; omega))
    have H1 := Lib.hid (And.intro (hvx.later hby) hvy)
    clear hvx hvy hbx hby hb2
    go_wp2_with fail
    go_loopg [5, 6] y (fun g s5 s6 wr => ∃ (v5 v6 : Value) (a : Nat), s5 = v5 ∧ s6 = v6 ∧ a < big ∧ g < big ∧ Hid (Dg wr v5 a ∧ Dg wr v6 g ∧ Nat.gcd a g = G) ∧ Row wr (w.heap.size + 1 + 1) 27 (pN 0) ∧ Below w.heap.size w wr)
    case atStart => exact ⟨vx, vy, x, rfl, rfl, hx, hy, Lib.hid ⟨H1.out.1, H1.out.2, HM.out.1⟩, rO, hB0⟩
    case round =>
      clear rO hB0 H1
      obtain ⟨v5, v6, a, h5, h6, ha, hg, hG, rO, hB⟩ := hrel
      subst h5
      obtain ⟨a6, c6, rfl⟩ := Rd.shape hG.out.2.1
      subst h6
      rcases Nat.eq_zero_or_pos gk with h0 | h0
      · have hlen : (dgs gk).length = 0 := by rw [h0, dgs_zero]; rfl
        have haG : a = G := by have := hG.out.2.2; rw [h0, Nat.gcd_zero_right] at this; exact this
        have hv := hG.out.1
        rw [haG] at hv
        have HV := Lib.hid (And.intro hv (And.intro rO hB))
        have zO := rO.lt
        rw [hlen]
        clear hlen haG hv rO hB hG h0
        go_wp2_with (go_at_call 47; refine stopD_of ?_)
        unfold StopD
        refine (parts_dg _ G _ HV.out.1 HM.out.2.2).mono ?_
        rintro e w4 ⟨rfl, hb⟩
        rw [HM.out.2.1]
        have r4 := dr0 HV.out.2.1 hb
        have hB4 := dc0 HV.out.2.2 hb
        clear hb HV
        have z4 := r4.lt
        have y4 : w.heap.size + 1 + 1 ≠ w4.heap.size := by omega
        obtain ⟨c20, c21, c22, c23, f20, f21, f22, f23⟩ := row4 r4
        go_wp2_with fail
        refine bodyPost_ret (res_c rfl rfl (load4' ((r4.stored4 _ _ _ _).alloc _))) rfl ⟨rfl, (Below.stored4 hB4 (by omega) _ _ _ _).alloc (by simp; have := hB4.size; omega) _⟩
      · have hlp := dgs_len_pos h0
        obtain ⟨n, hn⟩ : ∃ n, (dgs gk).length = n := ⟨_, rfl⟩
        rw [hn] at hlp ⊢
        have hla : (dgs a).length ≤ 50000 := Nat.le_trans (len_big _ ha) (by decide)
        have hlg : (dgs gk).length ≤ 50000 := Nat.le_trans (len_big _ hg) (by decide)
        have hnn := len_big gk hg
        rw [hn] at hnn
        have HR := Lib.hid (And.intro rO (And.intro hB (And.intro hn (And.intro hla hlg))))
        have zO := rO.lt
        clear rO hB hn hla hlg
        go_wp2_with (go_at_call 52; refine stopD_of ?_)
        unfold StopD
        have hv6 : Dg wr (.slice a6 n c6) gk := by have h := hG.out.2.1; rw [HR.out.2.2.1] at h; exact h
        refine (div_dg _ _ a gk _ hG.out.1 hv6 HR.out.2.2.2.1 HR.out.2.2.2.2 h0).mono ?_
        rintro e w4 ⟨vq, vr, rfl, hvq, hvr, hb⟩
        have HE := Lib.hid (And.intro (hv6.later hb) (And.intro hvr (And.intro (dr0 HR.out.1 hb) (dc0 HR.out.2.1 hb))))
        clear hv6 hvq hvr hb
        go_wp2_with fail
        go_roundg (a % gk)
        case measure => exact Nat.mod_lt _ h0
        case rel =>
          refine ⟨_, vr, gk, rfl, rfl, hg, Nat.lt_trans (Nat.mod_lt _ h0) hg, Lib.hid ⟨HE.out.1, HE.out.2.1, ?_⟩, HE.out.2.2.1, HE.out.2.2.2⟩
          rw [← hG.out.2.2, Nat.gcd_comm a gk, Nat.gcd_rec gk a, Nat.gcd_comm]

end Go.Proofs.YtfciebajiihcfaaDoor
