/- finesseref02: digits, parts -/
import Derived.Test.YtfciebajiihcfaaDoorDigE
import Derived.Deep.DeepCutAuto
namespace Go.Proofs.YtfciebajiihcfaaDoor
open Go.RowKit
set_option linter.unusedVariables false
set_option linter.unusedSimpArgs false
set_option maxRecDepth 100000
set_option maxHeartbeats 400000
attribute [local go_sem ↓] Go.wp_at_zero Go.wp_at_succ

theorem keep_cellD {W w' : World} {b o : Nat} {v : Value} (hb : Below W.heap.size W w') (h : W.cell? ⟨b, o, none⟩ = some v) : w'.cell? ⟨b, o, none⟩ = some v :=
  (hb.cell (p := ⟨b, o, none⟩) (World.block_lt_of_cell? W _ h)).trans h

theorem len_big (n : Nat) (h : n < big) : (dgs n).length ≤ 39 := dgs_len_le (Nat.lt_trans h (by decide))

theorem dg_cellD {w : World} {b : Nat} {t : TypeId} {x : Nat} (h : Row w b t (pN x)) (i : Nat) (hi : i < 4) : w.cell? ⟨b, i, none⟩ = some (.int .u32 (dg i x)) := by
  rw [h.cell]
  match i, hi with
  | 0, _ => rfl
  | 1, _ => rfl
  | 2, _ => rfl
  | 3, _ => rfl

theorem wstep (x i : Nat) : x / 4294967296 ^ (i + 1) * 4294967296 + x / 4294967296 ^ i % 4294967296 = x / 4294967296 ^ i := by
  rw [Nat.pow_succ, ← Nat.div_div_eq_div_mul]
  omega

theorem dig_facts (x i : Nat) (hx : x < big) : ∃ Z d : Nat, x / 4294967296 ^ (i + 1) = Z ∧ x / 4294967296 ^ i % 4294967296 = d ∧ Z * 4294967296 + d = x / 4294967296 ^ i ∧ d < 4294967296 ∧ (dgs Z).length ≤ 39 ∧ (dgs (Z * 4294967296)).length ≤ 39 ∧ (dgs d).length ≤ 39 ∧ (dgs (Z * 4294967296 + d)).length ≤ 39 := by
  have h1 := wstep x i
  have h2 : x / 4294967296 ^ i ≤ x := Nat.div_le_self _ _
  obtain ⟨Y, hY⟩ : ∃ Y, x / 4294967296 ^ i = Y := ⟨_, rfl⟩
  obtain ⟨Z, hZ⟩ : ∃ Z, x / 4294967296 ^ (i + 1) = Z := ⟨_, rfl⟩
  obtain ⟨P, hP⟩ : ∃ P, Z * 4294967296 = P := ⟨_, rfl⟩
  obtain ⟨d, hd⟩ : ∃ d, Y % 4294967296 = d := ⟨_, rfl⟩
  have hdl : d < 4294967296 := by rw [← hd]; exact Nat.mod_lt _ (by decide)
  have hZx : Z ≤ x := by rw [← hZ]; exact Nat.div_le_self _ _
  rw [hY, hZ, hP, hd] at h1
  rw [hY] at h2
  refine ⟨Z, d, hZ, by rw [hY]; exact hd, by rw [hY, hP]; exact h1, hdl, len_big _ (Nat.lt_of_le_of_lt hZx hx), ?_, ?_, ?_⟩
  · rw [hP]; exact len_big _ (Nat.lt_of_le_of_lt (by rw [← h1] at h2; exact Nat.le_trans (Nat.le_add_right _ _) h2) hx)
  · exact len_big _ (Nat.lt_trans hdl (by decide))
  · rw [hP, h1]; exact len_big _ (Nat.lt_of_le_of_lt h2 hx)

theorem digits_dg (x : Nat) (w : World) (hx : x < big) :
    Calls Tryd.prog 50 #[vN x] w (SomeD w x) := by
  have lw : (dgs 4294967296).length ≤ 50000 := Nat.le_trans (dgs_len_le (k := 10) (by decide)) (by decide)
  go_enter Tryd.func50, Tryd.ntmps50
  go_wp2_with fail
  go_loopw [3, 4] (fun o i wr => ∃ (v : Value) (i' : Int), o = v ∧ i = .int .i64 i' ∧ -1 ≤ i' ∧ i' < 4 ∧ Dg wr v (x / 4294967296 ^ (i' + 1).toNat) ∧ Row wr w.heap.size 27 (pN x) ∧ Below w.heap.size w wr) (fun _ i _ => (intOf i + 1).toNat)
  case atStart =>
    refine ⟨_, 3, rfl, rfl, by omega, by omega, ?_, Row.new _ _ _, (Below.refl _ _).alloc (Nat.le_refl _) _⟩
    rw [show x / 4294967296 ^ ((3 : Int) + 1).toNat = 0 by
      show x / 4294967296 ^ 4 = 0
      exact Nat.div_eq_of_lt hx]
    unfold Dg Ns
    rw [dgs_zero]
    exact ⟨rfl, .inl ⟨rfl, _, _, rfl, fun _ => rfl⟩⟩
  case round =>
    obtain ⟨v, i', hv, rfl, h0, h1, hz, rA, hB⟩ := hrel
    by_cases hm : i' = -1
    · subst hm
      simp only [Int.reduceNeg, Int.add_left_neg, Int.toNat_zero, Nat.pow_zero, Nat.div_one] at hz
      have H := Lib.hid (And.intro hz hB)
      have hl := len_big x hx
      clear hz hB rA
      subst hv
      go_wp2_with (go_at_call 48; refine (trim_any _ (dgs x) _ H.out.1 (dgs_lt x) (by omega)).mono ?_; rintro e w9 ⟨v', rfl, hv', rfl⟩)
      go_ret
      refine ⟨_, rfl, ?_, H.out.2⟩
      rw [dval_dgs] at hv'
      exact hv'
    · obtain ⟨i, rfl⟩ : ∃ i : Nat, i' = i := ⟨i'.toNat, by omega⟩
      have hi4 : i < 4 := by omega
      rw [show ((i : Int) + 1).toNat = i + 1 by omega] at hz
      obtain ⟨Z, d, hZ, hd, hzd, hdl, hlz, hlm, hld, hls⟩ := dig_facts x i hx
      rw [hZ] at hz
      have hcell : wr.cell? ⟨w.heap.size, i, none⟩ = some (.int .u32 (d : Int)) := by
        rw [dg_cellD rA i hi4]
        unfold dg
        rw [hd]
      have hzd' : Dg wr.drew v Z := hz
      have H := Lib.hid (And.intro hzd (And.intro rA (And.intro hB hzd')))
      have hwr : IntKind.i64.wrap (d : Int) = (d : Int) := IntWalk.i64_in _ (by omega)
      have g1 : (0 : Int) ≤ (i : Int) := by omega
      have m1 : d < 9223372036854775808 := Nat.lt_trans hdl (by decide)
      have m2 : (dgs Z).length ≤ 50000 := Nat.le_trans hlz (by decide)
      have m3 : (dgs (Z * 4294967296)).length ≤ 100000 := Nat.le_trans hlm (by decide)
      have m4 : (dgs d).length ≤ 100000 := Nat.le_trans hld (by decide)
      have HM := Lib.hid (And.intro m1 (And.intro m2 (And.intro m3 m4)))
      clear m1 m2 m3 m4 hlz hlm hld hls
      have g2 : (i : Int) < 4 := by omega
      clear hZ hd hzd hz hzd' rA hm h0 hB
      subst hv
      go_wp2_with fail
      go_region_held3 (fun w' => w'.cell? ⟨w.heap.size, i, none⟩ = some (.int .u32 (d : Int))) (first | (go_keep; done) | (refine keep_cellD hbw ?_; go_keep; done) | (refine keep_cellD hbm ?_; go_keep; done) | (refine keep_cellD hbo ?_; go_keep; done) | (refine keep_cellD hba ?_; go_keep; done))
        (first
          | (go_at_call 67; refine (word_dg _).mono ?_; rintro e ww ⟨vw, rfl, hvw, hbw⟩)
          | (go_at_call 51; refine (of_dg d _ HM.out.1).mono ?_; rintro e wo ⟨vo, rfl, hvo, hbo⟩)
          | (go_at_call 49; have q1 := H.out.2.2.2.later hbw; refine (mul_dg _ _ Z 4294967296 _ q1 hvw HM.out.2.1 lw).mono ?_; rintro e wm ⟨vm, rfl, hvm, hbm⟩)
          | (go_at_call 62; have q2 := hvm.later hbo; refine (add_dg _ _ (Z * 4294967296) d _ q2 hvo HM.out.2.2.1 HM.out.2.2.2).mono ?_; rintro e wa ⟨va, rfl, hva, hba⟩))
      all_goals
        have hBw : Below w.heap.size w wa := (((H.out.2.2.1.drew.trans (hbw.mono H.out.2.2.1.size)).trans (hbm.mono (Nat.le_trans H.out.2.2.1.size hbw.size))).trans (hbo.mono (Nat.le_trans (Nat.le_trans H.out.2.2.1.size hbw.size) hbm.size))).trans (hba.mono (Nat.le_trans (Nat.le_trans (Nat.le_trans H.out.2.2.1.size hbw.size) hbm.size) hbo.size))
        have rW : Row wa w.heap.size 27 (pN x) := (((((show Row wr.drew w.heap.size 27 (pN x) from H.out.2.1).below hbw (show w.heap.size < wr.heap.size from H.out.2.1.lt)).below hbm ((show Row wr.drew w.heap.size 27 (pN x) from H.out.2.1).below hbw H.out.2.1.lt).lt).below hbo (((show Row wr.drew w.heap.size 27 (pN x) from H.out.2.1).below hbw H.out.2.1.lt).below hbm ((show Row wr.drew w.heap.size 27 (pN x) from H.out.2.1).below hbw H.out.2.1.lt).lt).lt)).below hba (by have h1 := H.out.2.1.lt; have h2 := hbw.size; have h3 := hbm.size; have h4 := hbo.size; exact Nat.lt_of_lt_of_le h1 (Nat.le_trans h2 (Nat.le_trans h3 h4)))
        rw [H.out.1] at hva
        have HE := Lib.hid (And.intro hva (And.intro rW hBw))
        clear hva rW hBw hba hvo hbo hvm hbm hvw hbw
        go_wp2_with fail
        go_roundw
        case rel => exact ⟨va, (i : Int) - 1, rfl, rfl, by omega, by omega, by rw [show ((i : Int) - 1 + 1).toNat = i by omega]; exact HE.out.1, HE.out.2.1, HE.out.2.2⟩
        case measure => simp [intOf]

end Go.Proofs.YtfciebajiihcfaaDoor
