/- finesseref02: div -/
import Derived.Test.YtfciebajiihcfaaDoorDigM
import Derived.Laws.BytesArg
import Derived.ArgAppend
import Derived.Deep.LoopGhost
namespace Go.Proofs.YtfciebajiihcfaaDoor
open Go.RowKit
set_option linter.unusedVariables false
set_option linter.unusedSimpArgs false
set_option maxRecDepth 100000
set_option maxHeartbeats 2000000

theorem grown_reflD (w : World) (r : Option Nat) : w.grownBy w r := by
  constructor <;> intros <;> first | rfl | omega | trivial

/-- append(s, x...) of what reads as a list, which may be nil -/
theorem appendD_rd {P : Program} {w : World} {ops : Array Oper} {rest : List Oper} {o : Oper} {a : Act} {Q : Exit → Act → World → Prop} (hw : Region.wanted o (yielded ops a.tmps) = true) (s x : Operand) (t : TypeId)
    (ho : o.op = .call { callee := .builtin .append, args := #[s, x], argTypes := #[t, t] })
    (base : Nat) (e : TypeId) (i : TypeInfo) (z : Value) (size bytes : Nat) (ht : P.underlying t = some (.slice e)) (hi : P.info? e = some i) (hz : i.zero = some z)
    (hsize : i.size = size) (hby : i.bytes = bytes) (hzs : z.cells.size = size) (hsz : 0 < size)
    (v : Value) (n : Nat) (xs : List Value) (hs : a.eval s = v) (hown : w.ownsRow base e size v n xs)
    (vx : Value) (m : Nat) (news : List Value) (B : Nat) (hx : a.eval x = vx) (hrd : Rd B w size vx m news) (h1 : ∀ u ∈ news, u.oneCell' = true)
    (h63 : n + m ≤ maxLen) (hbytes : (n + m) * bytes ≤ 140737488355328) (hbase : base ≤ w.heap.size)
    (h : ∀ v' w', w'.ownsRow base e size v' (n + m) (xs ++ news) → w.grownBy w' v.ownBlock → wpList P ops Q rest (a.put o.dst v') w') :
    wpList P ops Q (o :: rest) a w := by
  refine wpList_step fun K hK => ?_
  rw [if_pos hw]
  rcases hrd.2 with ⟨rfl, ad, c, rfl, hc⟩ | ⟨h0, b, off, c, rfl, hlt, hB, hn1, hn2, hcell⟩
  · have hn0 : news = [] := List.eq_nil_of_length_eq_zero (by simpa using hrd.1)
    subst hn0
    cases ad with
    | none =>
      obtain rfl := hc rfl
      have hrun := run_append_owned_none (P := P) (w := w) base t o.type e i size ht hi v n xs hown
      unfold Oper.wp
      simp [execOp, ho, resolve, invoke, builtin, hs, hx, hrun, Result.andThen]
      exact hK _ _ (h v w (by simpa using hown) (grown_reflD _ _))
    | some ad =>
      exact wp_append_own w s x t ho base e i z size bytes ht hi hz hsize hby hzs hsz v n xs hs hown ad 0 c [] hx (by simp) (by simp) (by simp) h63 hbytes hbase (fun v' w' h2 h3 _ => hK _ _ (h v' w' h2 h3))
  · exact wp_append_own w s x t ho base e i z size bytes ht hi hz hsize hby hzs hsz v n xs hs hown ⟨b, off, none⟩ m c news hx hrd.1
      (fun j u hu => by
        rw [addr_add, hcell j (by have := (List.getElem?_eq_some_iff.1 hu).1; have := hrd.1; omega)]
        exact hu) h1 h63 hbytes hbase (fun v' w' h2 h3 _ => hK _ _ (h v' w' h2 h3))

/-- append([]int{d}, x...) -/
theorem append_front {w : World} {ops : Array Oper} {rest : List Oper} {o : Oper} {a : Act} {Q : Exit → Act → World → Prop} (hw : Region.wanted o (yielded ops a.tmps) = true) (s x : Operand)
    (ho : o.op = .call { callee := .builtin .append, args := #[s, x], argTypes := #[53, 53] }) (d : Nat) (vx : Value) (l : List Nat)
    (hs : a.eval s = .slice (some ⟨w.heap.size, 0, none⟩) 1 1) (hx : a.eval x = vx) (hrd : Ns w vx l) (hl : l.length ≤ 1000000)
    (h : ∀ v' w', Ns w' v' (d :: l) → NewD w.heap.size v' → Below w.heap.size w w' → wpList Tryd.prog ops Q rest (a.put o.dst v') w') :
    wpList Tryd.prog ops Q (o :: rest) a (w.alloc (.cells #[.int .i64 (d : Int)] 3)) := by
  obtain ⟨i0, hinf, hz0, hz1, hz2⟩ := info_parts info_i64
  have hown : (w.alloc (.cells #[.int .i64 (d : Int)] 3)).ownsRow w.heap.size 3 1 (.slice (some ⟨w.heap.size, 0, none⟩) 1 1) 1 [.int .i64 (d : Int)] :=
    ⟨rfl, .inr ⟨w.heap.size, 1, #[.int .i64 (d : Int)], rfl, Nat.le_refl _, Row.new w _ _, by simp, by simp [maxLen], rfl, rfl⟩⟩
  have hb : Below w.heap.size w (w.alloc (.cells #[.int .i64 (d : Int)] 3)) := (Below.refl _ _).alloc (Nat.le_refl _) _
  refine appendD_rd hw s x 53 ho w.heap.size 3 i0 (.int .i64 0) 1 8 Tryd.underlying53 hinf hz0 hz1 hz2 rfl (by decide) _ 1 _ hs hown vx l.length (nts l) _ hx (hrd.below hb (Nat.le_refl _)) (nts_one l) (by unfold maxLen; omega) (by omega) hb.size ?_
  intro v' w' hown' hg
  refine h v' w' ?_ (NewD.own hown') (below_append hb hg hown (Nat.le_refl _) hb.size)
  have h9 := Rd.of_own hown'
  unfold Ns
  rw [List.length_cons, Nat.add_comm]
  exact h9

/-- where the division stands: k digits are still to come -/
def DivInv (l : List Nat) (y n k R : Nat) (M : List Nat) : Prop :=
  M.length = n ∧ R = dval (l.drop k) % y ∧ dval M = dval (l.drop k) / y * 10 ^ k ∧ (∀ j, j < k → M.getD j 0 = 0) ∧ (∀ j, M.getD j 0 < 10)

theorem DivInv.start (l : List Nat) (y : Nat) (hy : 0 < y) : DivInv l y l.length l.length 0 (List.replicate l.length 0) := by
  have hz : ∀ j, (List.replicate l.length 0).getD j 0 = 0 := fun j => by
    rw [List.getD_eq_getElem?_getD, List.getElem?_replicate]
    split <;> rfl
  refine ⟨by simp, by simp [dval], by simp [dval_zeros, dval], fun j _ => hz j, fun j => by rw [hz]; omega⟩

theorem DivInv.step {l : List Nat} {y n i R c z : Nat} {M : List Nat} (h : DivInv l y n (i + 1) R M) (hn : l.length = n) (hi : i < n) (hy : 0 < y) (hl : ∀ d ∈ l, d < 10) (hX : z + c * y = l.getD i 0 + 10 * R) (hz : z < y) :
    DivInv l y n i z (M.set i c) := by
  obtain ⟨h1, h2, h3, h4, h5⟩ := h
  have hd := getD_lt hl i
  obtain ⟨D, hD⟩ : ∃ D, dval (l.drop (i + 1)) = D := ⟨_, rfl⟩
  have hD' : dval (l.drop i) = l.getD i 0 + 10 * D := by rw [dval_drop (by omega), hD]
  rw [hD] at h2 h3
  have hdm := Nat.div_add_mod D y
  rw [← h2] at hdm
  have hsum : dval (l.drop i) = z + y * (10 * (D / y) + c) := by
    rw [hD']
    have e1 : y * (10 * (D / y) + c) = 10 * (y * (D / y)) + c * y := by rw [Nat.mul_add, Nat.mul_left_comm, Nat.mul_comm y c]
    rw [e1]
    omega
  have hq : dval (l.drop i) / y = 10 * (D / y) + c := by
    rw [hsum, Nat.add_mul_div_left _ _ hy, Nat.div_eq_of_lt hz, Nat.zero_add]
  have hr : dval (l.drop i) % y = z := by
    rw [hsum, Nat.add_mul_mod_self_left, Nat.mod_eq_of_lt hz]
  have hRy : R < y := by rw [h2]; exact Nat.mod_lt _ hy
  have hc : c < 10 := by
    rcases Nat.lt_or_ge c 10 with h | h
    · exact h
    · have : 10 * y ≤ c * y := Nat.mul_le_mul_right _ h
      omega
  refine ⟨by simpa using h1, hr.symm, ?_, fun j hj => ?_, fun j => ?_⟩
  · have e := dval_set M i c (by omega)
    rw [h4 i (by omega), Nat.mul_zero, Nat.add_zero, h3] at e
    rw [e, hq, Nat.pow_succ, Nat.add_mul]
    congr 1 <;> ac_rfl
  · rw [getD_set _ _ _ _ (by omega), if_neg (by omega)]
    exact h4 j (by omega)
  · rw [getD_set _ _ _ _ (by omega)]
    split
    · exact hc
    · exact h5 j

theorem set_zero {M : List Nat} {i : Nat} (h : M.getD i 0 = 0) (hi : i < M.length) : M.set i 0 = M := by
  apply List.ext_getElem?
  intro j
  rw [List.getElem?_set]
  by_cases e : i = j
  · subst e
    rw [if_pos rfl, if_pos hi, List.getElem?_eq_getElem hi]
    rw [List.getD_eq_getElem?_getD, List.getElem?_eq_getElem hi] at h
    exact congrArg some h.symm
  · rw [if_neg e]

theorem div_new (va vb : Value) (x y : Nat) (w : World) (ha : Dg w va x) (hb : Dg w vb y) (hx : (dgs x).length ≤ 50000) (hy : (dgs y).length ≤ 50000) (h0 : 0 < y) :
    Calls Tryd.prog 52 #[va, vb] w fun e w' => ∃ v1 v2, e = .returned (.tuple #[v1, v2]) ∧ (Dg w' v1 (x / y) ∧ NewD w.heap.size v1) ∧ Dg w' v2 (x % y) ∧ Below w.heap.size w w' := by
  obtain ⟨a1, c1, rfl, hc1⟩ := Ns.cells ha
  have H := Lib.hid (And.intro hc1 hb)
  obtain ⟨l, hl⟩ : ∃ l, dgs x = l := ⟨_, rfl⟩
  rw [hl] at H
  rw [hl] at hx ⊢
  obtain ⟨n1, hn1⟩ : ∃ n, l.length = n := ⟨_, rfl⟩
  rw [hn1] at hx ⊢
  have HL := Lib.hid (And.intro hl hn1)
  have HY := Lib.hid hy
  clear hc1 hl ha hb hn1 hy
  go_enter Tryd.func52, Tryd.ntmps52
  go_wp2_with (at_make; refine stopD_of ?_)
  unfold StopD
  refine make_ints rfl _ _ rfl n1 _ _ rfl rfl rfl rfl (by omega) ?_
  intro w1 hown hB
  go_wp2_with fail
  go_loopw [7, 8] (fun r i wr => ∃ (R i' : Int) (Rn : Nat) (vr : Value) (M : List Nat), r = vr ∧ i = .int .i64 i' ∧ -1 ≤ i' ∧ i' < n1 ∧ Dg wr vr Rn ∧ Rn < y ∧ wr.ownsRow w.heap.size 3 1 (.slice (some ⟨w.heap.size, 0, none⟩) n1 n1) n1 (nts M) ∧ Below w.heap.size w wr ∧ Hid (DivInv l y n1 (i' + 1).toNat Rn M)) (fun _ i _ => (intOf i + 1).toNat)
  case atStart =>
    refine ⟨0, (n1 : Int) - 1, 0, .slice none 0 0, List.replicate n1 0, rfl, by rfl, by omega, by omega, ?_, h0, hown, hB, Lib.hid ?_⟩
    · unfold Dg Ns
      rw [dgs_zero]
      exact ⟨rfl, .inl ⟨rfl, _, _, rfl, fun _ => rfl⟩⟩
    · rw [show ((n1 : Int) - 1 + 1).toNat = n1 by omega]
      have := DivInv.start l y h0
      rwa [HL.out.2] at this
  case round =>
    clear hown hB
    obtain ⟨-, i', Rn, vr, M, rfl, rfl, hi0, hi1, hR, hRy, hown, hB, hG⟩ := hrel
    have hsz := hB.size
    by_cases hm : i' = -1
    · subst hm
      have hg := hG.out
      simp only [Int.reduceNeg, Int.add_left_neg, Int.toNat_zero] at hg
      obtain ⟨g1, g2, g3, g4, g5⟩ := hg
      rw [List.drop_zero] at g2 g3
      rw [Nat.pow_zero, Nat.mul_one, ← HL.out.1, dval_dgs] at g3
      rw [← HL.out.1, dval_dgs] at g2
      have hd : ∀ d ∈ M, d < 10 := by
        intro d hd
        obtain ⟨j, hj, rfl⟩ := List.getElem_of_mem hd
        have := g5 j
        rwa [List.getD_eq_getElem?_getD, List.getElem?_eq_getElem hj] at this
      have HN9 : Hid (Ns wr (.slice (some ⟨w.heap.size, 0, none⟩) n1 n1) M) := Lib.hid (by unfold Ns; rw [g1]; exact Rd.of_own hown)
      have HF := Lib.hid (And.intro hd (And.intro g3 (And.intro g1 (And.intro g2 (And.intro hR hB)))))
      clear hd g1 g2 g3 g4 g5 hown hB hG hR
      go_wp2_with (go_at_call 48; refine (trim_at _ M _ HN9.out HF.out.1 (by have := HF.out.2.2.1; omega)).mono ?_; rintro e w9 ⟨v', rfl, ⟨hv', hat⟩, rfl⟩)
      go_ret2
      obtain ⟨f1, f2, f3, f4, f5, f6⟩ := HF.out
      refine ⟨_, _, rfl, ⟨?_, NewD.at (fun b off n c e => by cases e; exact Nat.le_refl _) hat⟩, by rw [← f4]; exact f5, f6⟩
      unfold Dg
      rw [← f2]
      exact hv'
    · obtain ⟨i, rfl⟩ : ∃ i : Nat, i' = i := ⟨i'.toNat, by omega⟩
      have hin : i < n1 := by omega
      obtain ⟨b1, o1, rfl, hb1, hlc1, hcm1, hc1⟩ := H.out.1 i (by have := HL.out; omega)
      unfold maxLen at hcm1
      obtain ⟨p, hp⟩ : ∃ p, l.getD i 0 = p := ⟨_, rfl⟩
      rw [hp] at hc1
      have hp9 : p ≤ 9 := by rw [← hp, ← HL.out.1]; have := getD_lt (dgs_lt x) i; omega
      have hca := (hB.cell (p := ⟨b1, o1 + i, none⟩) hb1).trans hc1
      have hRl : (dgs Rn).length ≤ 50000 := Nat.le_trans (dgs_len_mono (Nat.le_of_lt hRy)) HY.out
      have HA := Lib.hid (And.intro hp (And.intro hR (And.intro hown hB)))
      have hg := hG.out
      rw [show ((i : Int) + 1).toNat = i + 1 by omega] at hg
      have HG := Lib.hid hg
      clear hp hc1 hlc1 hR hown hG hg hm hi0
      obtain ⟨ar, cr, rfl⟩ := Rd.shape HA.out.2.1
      go_wp2_with (at_builtin; refine stopD_of ?_)
      unfold StopD
      refine append_front (by rfl) _ _ (by rfl) p _ (dgs Rn) (by rfl) (by rfl) HA.out.2.1 (by omega) ?_
      intro v8 w8 hn8 hnew8 hb8
      have hbig : w.heap.size + 1 ≤ wr.heap.size := by obtain ⟨g, hg, -, h, -⟩ := own_some HA.out.2.2.1 (by omega); cases hg; exact h
      have HB8 := Lib.hid (And.intro hn8 (And.intro hb8 (hnew8.mono hbig)))
      clear hn8 hb8 hnew8 hB hca
      go_wp2_with (go_at_call 48; refine stopD_of ?_)
      unfold StopD
      refine (trim_at _ (p :: dgs Rn) _ HB8.out.1 (by intro d hd; rcases List.mem_cons.1 hd with rfl | hd; omega; exact dgs_lt _ d hd) (by simp; omega)).mono ?_
      rintro e w9 ⟨v9, rfl, ⟨hv9, hat9⟩, rfl⟩
      obtain ⟨a8, c8, rfl⟩ := Rd.shape HB8.out.1
      have hnew9 : NewD (w.heap.size + 1) v9 := HB8.out.2.2.at hat9
      have hX : dval (p :: dgs Rn) = p + 10 * Rn := by rw [dval, dval_dgs]
      rw [hX] at hv9
      have hXlt : p + 10 * Rn < 10 * y := by omega
      have hown8 := own_below HA.out.2.2.1 HB8.out.2.1
      have hB8 : Below w.heap.size w w8 := HA.out.2.2.2.trans (HB8.out.2.1.mono HA.out.2.2.2.size)
      go_wp2_with fail
      obtain ⟨g1, g2, g3, g4, g5⟩ := HG.out
      have hMi : M.set i 0 = M := set_zero (g4 i (by omega)) (by omega)
      have hwsz : w.heap.size < w8.heap.size := by obtain ⟨g, hg, -, h, -⟩ := own_some hown8 (by omega); cases hg; exact h
      have HM := Lib.hid (And.intro g1 (And.intro hMi hRy))
      clear g1 g2 g3 g4 g5 hMi
      go_loopg [7] (p + 10 * Rn) (fun g r wx => ∃ (v : Value) (c : Nat), r = v ∧ Hid (g + c * y = p + 10 * Rn) ∧ g ≤ p + 10 * Rn ∧ Dg wx v g ∧ NewD (w.heap.size + 1) v ∧ wx.ownsRow w.heap.size 3 1 (.slice (some ⟨w.heap.size, 0, none⟩) n1 n1) n1 (nts (M.set i c)) ∧ Below w.heap.size w wx)
      case atStart => exact ⟨v9, 0, rfl, Lib.hid (by omega), Nat.le_refl _, hv9, hnew9, by rw [HM.out.2.1]; exact hown8, hB8⟩
      case round =>
        clear hv9 hnew9 hown8 hB8 hX hXlt
        obtain ⟨v, c, hvr, hzc, hgle, hv, hvn, hown, hB⟩ := hrel
        subst hvr
        have hlen : (dgs gk).length ≤ 50001 := by
          have h1 : gk < 10 ^ ((dgs y).length + 1) := by
            have := dgs_upper y
            rw [Nat.pow_succ]
            have := HM.out.2.2
            omega
          have := dgs_len_le h1
          have := HY.out
          omega
        have HV := Lib.hid (And.intro hv (And.intro hown hB))
        have hsz := hB.size
        clear hv hown hB
        go_wp2_with (go_at_call 63; refine stopD_of ?_)
        unfold StopD
        refine (less_any _ _ gk y _ HV.out.1 (H.out.2.below HV.out.2.2 (Nat.le_refl _) |>.mono hsz (Nat.le_refl _)) (by omega) (by have := HY.out; omega)).mono ?_
        rintro e w10 ⟨rfl, hb10⟩
        have hB10 := HV.out.2.2.trans (hb10.mono hsz)
        have hv10 := HV.out.1.later hb10
        have hown10 := own_below HV.out.2.1 hb10
        by_cases hlt : gk < y
        · rw [decide_eq_true hlt]
          have hdiv := DivInv.step HG.out HL.out.2 hin h0 (by rw [← HL.out.1]; exact dgs_lt x) (by rw [HA.out.1]; exact hzc.out) hlt
          have HD := Lib.hid (And.intro hdiv (And.intro hv10 (And.intro hown10 hB10)))
          clear hdiv hv10 hown10 hB10 hb10
          go_wp2_with fail
          go_roundw
          case rel =>
            obtain ⟨d1, d2, d3, d4⟩ := HD.out
            exact ⟨0, (i : Int) - 1, gk, _, M.set i c, rfl, rfl, by omega, by omega, d2, hlt, d3, d4, Lib.hid (by rw [show ((i : Int) - 1 + 1).toNat = i by omega]; exact d1)⟩
          case measure => simp [intOf]
        · rw [decide_eq_false hlt]
          have hge : y ≤ gk := by omega
          have HD := Lib.hid (And.intro hv10 (And.intro hown10 hB10))
          have hsz10 := hB10.size
          clear hv10 hown10 hB10 hb10 hlt
          go_wp2_with (go_at_call 64; refine stopD_of ?_)
          unfold StopD
          refine (sub_new _ _ gk y _ HD.out.1 (H.out.2.below HD.out.2.2 (Nat.le_refl _) |>.mono hsz10 (Nat.le_refl _)) (by omega) hge).mono ?_
          rintro e w11 ⟨v11, rfl, ⟨hv11, hn11⟩, hb11⟩
          have hown11 := own_below HD.out.2.1 hb11
          have hB11 := HD.out.2.2.trans (hb11.mono hsz10)
          have hML := HM.out.1
          have hcw := hown11.cellAt i (by omega)
          have hcM : (M.set i c).getD i 0 = c := by rw [getD_set _ _ _ _ (by omega), if_pos rfl]
          rw [nts_get _ _ (by simp; omega), hcM] at hcw
          have hfw := hown11.frozenAt i
          have hc9 : c ≤ 100 := by
            rcases Nat.lt_or_ge 100 c with h | h
            · have h1 := hzc.out
              have h2 := HM.out.2.2
              have h3 : 101 * y ≤ c * y := Nat.mul_le_mul_right _ h
              omega
            · exact h
          have hbig11 : w.heap.size + 1 ≤ w10.heap.size := by obtain ⟨g, hg, -, h, -⟩ := own_some HD.out.2.1 (by omega); cases hg; exact h
          have HE := Lib.hid (And.intro hv11 (And.intro hown11 (And.intro hB11 (hn11.mono hbig11))))
          have hsz11 := hB11.size
          clear hv11 hown11 hB11 hb11 hn11 hML hcM
          go_wp2_with fail
          go_roundg (gk - y)
          case measure => omega
          case rel =>
            obtain ⟨e1, e2, e3, e4⟩ := HE.out
            have ho := (e2.stored i (.int .i64 ((c : Int) + 1))).1
            have he2 : (nts (M.set i c)).set i (.int .i64 ((c : Int) + 1)) = nts (M.set i (c + 1)) := by
              rw [show ((c : Int) + 1) = ((c + 1 : Nat) : Int) by omega, nts_set, List.set_set]
            rw [he2] at ho
            refine ⟨v11, c + 1, rfl, Lib.hid (by have := hzc.out; rw [Nat.add_mul]; omega), by omega, Ns.setOther e1 e4 _ _ (Nat.lt_succ_self _) _, e4, ho, e3.setCell (p := ⟨w.heap.size, i, none⟩) (Nat.le_refl _) _⟩

theorem div_dg (va vb : Value) (x y : Nat) (w : World) (ha : Dg w va x) (hb : Dg w vb y) (hx : (dgs x).length ≤ 50000) (hy : (dgs y).length ≤ 50000) (h0 : 0 < y) :
    Calls Tryd.prog 52 #[va, vb] w fun e w' => ∃ v1 v2, e = .returned (.tuple #[v1, v2]) ∧ Dg w' v1 (x / y) ∧ Dg w' v2 (x % y) ∧ Below w.heap.size w w' :=
  (div_new va vb x y w ha hb hx hy h0).mono fun e w' ⟨v1, v2, h1, h2, h3, h4⟩ => ⟨v1, v2, h1, h2.1, h3, h4⟩

end Go.Proofs.YtfciebajiihcfaaDoor
