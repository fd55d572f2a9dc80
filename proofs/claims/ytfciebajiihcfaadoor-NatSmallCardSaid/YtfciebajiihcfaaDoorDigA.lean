/- finesseref02: trim, less, add, sub -/
import Derived.Test.YtfciebajiihcfaaDoorProg
import Derived.Test.YtfciebajiihcfaaDoorDigP
import Derived.OwnWalk
namespace Go.Proofs.YtfciebajiihcfaaDoor
open Go.RowKit
set_option linter.unusedVariables false
set_option linter.unusedSimpArgs false
set_option maxRecDepth 100000
set_option maxHeartbeats 2000000

/-- a walk stands here -/
def StopD (p : Prop) : Prop := p
theorem stopD_of {p : Prop} (h : StopD p) : p := h

theorem info_i64 : (Tryd.prog.info? 3).map (fun i => (i.zero, i.size, i.bytes)) = some (some (.int .i64 0), 1, 8) := by kernel_rfl

/-- append(out, d) of one int -/
theorem append_int {w wr : World} {ops : Array Oper} {rest : List Oper} {o : Oper} {a : Act} {Q : Exit → Act → World → Prop} (hw : o.guard = none) (s x : Operand)
    (ho : o.op = .call { callee := .builtin .append, args := #[s, x], argTypes := #[53, 53] }) (B0 base : Nat) (v : Value) (n : Nat) (L : List Value) (d : Int)
    (hs : a.eval s = v) (hx : a.eval x = .slice (some ⟨wr.heap.size, 0, none⟩) 1 1) (hown : wr.ownsRow base 3 1 v n L) (hn : n ≤ 1000000) (hbase : base ≤ wr.heap.size) (hB : Below B0 w wr) (hB0 : B0 ≤ base)
    (h : ∀ v' w', w'.ownsRow base 3 1 v' (n + 1) (L ++ [.int .i64 d]) → Below B0 w w' → wpList Tryd.prog ops Q rest (a.put o.dst v') w') :
    wpList Tryd.prog ops Q (o :: rest) a (wr.alloc (.cells #[.int .i64 d] 3)) := by
  obtain ⟨i0, hinf, hz0, hz1, hz2⟩ := info_parts info_i64
  have hown5 := own_below hown ((Below.refl wr.heap.size wr).alloc (Nat.le_refl _) (.cells #[.int .i64 d] 3))
  have hB5 : Below B0 w (wr.alloc (.cells #[.int .i64 d] 3)) := hB.alloc (by omega) _
  have hnew : ∀ j u, ([Value.int .i64 d])[j]? = some u → (wr.alloc (.cells #[.int .i64 d] 3)).cell? ((⟨wr.heap.size, 0, none⟩ : Addr).add j) = some u := by
    intro j u hu
    rw [addr_add, (Row.new wr 3 #[.int .i64 d]).cell (0 + j), Nat.zero_add]
    simpa using hu
  have hbs5 := hB5.size
  refine wpList_append_own _ hw s x 53 ho base 3 i0 (.int .i64 0) 1 8 Tryd.underlying53 hinf hz0 hz1 hz2 rfl (by decide) v n L hs hown5 ⟨wr.heap.size, 0, none⟩ 1 1 [.int .i64 d] hx rfl hnew (by intro u hu; simp only [List.mem_singleton] at hu; subst hu; rfl) (by unfold maxLen; omega) (by omega) (by simp; omega) ?_
  intro v' w8 hown1 hgrow _
  exact h v' w8 hown1 (below_append hB5 hgrow hown5 hB0 (by simp; omega))

theorem trim_at (v : Value) (l : List Nat) (w : World) (h : Ns w v l) (hd : ∀ d ∈ l, d < 10) (hlen : l.length ≤ 1000000) :
    Calls Tryd.prog 48 #[v] w fun e w' => ∃ v', e = .returned v' ∧ (Ns w v' (dgs (dval l)) ∧ AtD v v') ∧ w = w' := by
  by_cases hn : l.length = 0
  · obtain ⟨a, c, rfl⟩ := Rd.shape h
    obtain rfl : l = [] := List.eq_nil_of_length_eq_zero hn
    have H := Lib.hid h
    clear h hn hlen hd
    go_enter Tryd.func48, Tryd.ntmps48
    go_wp2_with fail
    go_loop [0] (fun s => s = .slice a 0 c) (fun _ => 0)
    case atStart => rfl
    case round =>
      subst hrel
      go_wp2_with fail
      go_ret
      exact ⟨_, rfl, ⟨by rw [show dval [] = 0 from rfl, dgs_zero]; exact H.out, fun a n c e => ⟨n, e⟩⟩, rfl⟩
  · obtain ⟨b, off, c, rfl, hb, hlc, hc, hcell⟩ := h.open (by omega)
    unfold maxLen at hc
    have H := Lib.hid (And.intro h (And.intro hd hcell))
    obtain ⟨n, hn9⟩ : ∃ n, l.length = n := ⟨_, rfl⟩
    have HN := Lib.hid hn9
    rw [hn9] at hlen hlc hn ⊢
    clear h hd hcell hn9
    go_enter Tryd.func48, Tryd.ntmps48
    go_wp2_with fail
    go_loop [0] (fun s => ∃ m : Nat, s = .slice (some ⟨b, off, none⟩) m c ∧ m ≤ n ∧ Hid (dval (l.take m) = dval l)) (fun s => match s with | .slice _ m _ => m | _ => 0)
    case atStart => exact ⟨n, rfl, Nat.le_refl _, Lib.hid (by rw [← HN.out, List.take_length])⟩
    case round =>
      obtain ⟨m, rfl, hm, hG⟩ := hrel
      have fin : ∀ m' : Nat, m' ≤ n → dval (l.take m') = dval l → (m' = 0 ∨ 0 < l.getD (m' - 1) 0) → Ns w (.slice (some ⟨b, off, none⟩) m' c) (dgs (dval l)) := by
        intro m' hm' hv ht
        obtain ⟨hns, hd, hcell⟩ := H.out
        have hln := HN.out
        have e : l.take m' = dgs (dval l) := by
          rw [← hv]
          rcases Nat.eq_zero_or_pos m' with rfl | h0
          · simp [dval, dgs_zero]
          · obtain ⟨j, rfl⟩ : ∃ j, m' = j + 1 := ⟨m' - 1, by omega⟩
            rw [take_snoc (by omega)]
            refine dgs_canon_last _ _ ?_ (by rcases ht with h | h; omega; simpa using h)
            rw [← take_snoc (by omega)]
            exact fun d hd' => hd d (List.mem_of_mem_take hd')
        have hl2 : (dgs (dval l)).length = m' := by rw [← e, List.length_take]; omega
        refine ⟨by simp, ?_⟩
        rcases Nat.eq_zero_or_pos m' with h0 | h0
        · exact .inl ⟨by omega, _, _, by rw [h0], fun h => by cases h⟩
        · refine .inr ⟨by omega, b, off, c, by rw [hl2], hb, Nat.le_refl _, by omega, by unfold maxLen; omega, fun j hj => ?_⟩
          rw [hcell j (by omega), nts_get _ _ (by omega), ← e]
          congr 3
          rw [List.getD_eq_getElem?_getD, List.getD_eq_getElem?_getD, List.getElem?_take, if_pos (by omega)]
      have HF := Lib.hid fin
      clear fin
      rcases Nat.eq_zero_or_pos m with rfl | h0
      · go_wp2_with fail
        go_ret
        exact ⟨_, rfl, ⟨HF.out 0 (by omega) hG.out (.inl rfl), fun a n c e => by cases e; exact ⟨_, rfl⟩⟩, rfl⟩
      · obtain ⟨j, rfl⟩ : ∃ j, m = j + 1 := ⟨m - 1, by omega⟩
        have hcj := H.out.2.2 j (by have := HN.out; omega)
        obtain ⟨x, hx⟩ : ∃ x, l.getD j 0 = x := ⟨_, rfl⟩
        rw [hx] at hcj
        have HX := Lib.hid hx
        clear hx h0
        by_cases hx0 : x = 0
        · subst hx0
          go_wp2_with fail
          go_round
          case rel => exact ⟨j, rfl, by omega, Lib.hid (by have h1 := hG.out; rw [dval_take_succ (by have := HN.out; omega), HX.out] at h1; simpa using h1)⟩
          case measure => simp
        · have hx1 : ((x : Int) == 0) = false := by rw [beq_eq_false_iff_ne]; omega
          have HXP := Lib.hid (Nat.pos_of_ne_zero hx0)
          clear hx0
          go_wp2_with fail
          go_ret
          exact ⟨_, rfl, ⟨HF.out (j + 1) hm hG.out (.inr (by rw [Nat.add_sub_cancel, HX.out]; exact HXP.out)), fun a n c e => by cases e; exact ⟨_, rfl⟩⟩, rfl⟩

theorem trim_any (v : Value) (l : List Nat) (w : World) (h : Ns w v l) (hd : ∀ d ∈ l, d < 10) (hlen : l.length ≤ 1000000) :
    Calls Tryd.prog 48 #[v] w fun e w' => ∃ v', e = .returned v' ∧ Ns w v' (dgs (dval l)) ∧ w = w' :=
  (trim_at v l w h hd hlen).mono fun e w' ⟨v', h1, h2, h3⟩ => ⟨v', h1, h2.1, h3⟩

theorem less_any (va vb : Value) (x y : Nat) (w : World) (ha : Dg w va x) (hb : Dg w vb y) (hx : (dgs x).length ≤ 1000000) (hy : (dgs y).length ≤ 1000000) :
    Calls Tryd.prog 63 #[va, vb] w fun e w' => e = .returned (.bool (decide (x < y))) ∧ Below w.heap.size w w' := by
  obtain ⟨r, hr⟩ : ∃ r, decide (x < y) = r := ⟨_, rfl⟩
  have HR := Lib.hid hr
  rw [hr]
  clear hr
  by_cases hne : (dgs x).length = (dgs y).length
  · by_cases hn0 : (dgs x).length = 0
    · have ex : x = 0 := by
        rcases Nat.eq_zero_or_pos x with h | h
        · exact h
        · rw [dgs_pos h] at hn0; simp at hn0
      have ey : y = 0 := by
        rcases Nat.eq_zero_or_pos y with h | h
        · exact h
        · rw [hne, dgs_pos h] at hn0; simp at hn0
      have er : r = false := by rw [← HR.out, ex, ey]; rfl
      obtain ⟨a1, c1, rfl⟩ := Rd.shape ha
      obtain ⟨a2, c2, rfl⟩ := Rd.shape hb
      rw [← hne, hn0]
      subst er
      clear ha hb hne hn0 hx hy ex ey
      go_enter Tryd.func63, Tryd.ntmps63
      go_wp2_with fail
      go_loop [5] (fun i => i = .int .i64 (-1)) (fun _ => 0)
      case atStart => rfl
      case round =>
        subst hrel
        go_wp2_with fail
        go_ret
        exact ⟨rfl, Below.refl _ _⟩
    · obtain ⟨b1, o1, c1, rfl, hb1, -, -, hc1⟩ := ha.open (by omega)
      obtain ⟨b2, o2, c2, rfl, hb2, -, -, hc2⟩ := hb.open (by omega)
      obtain ⟨n, hn9⟩ : ∃ n, (dgs x).length = n := ⟨_, rfl⟩
      have H := Lib.hid (And.intro hc1 (And.intro hc2 (And.intro hn9 hne)))
      rw [← hne, hn9]
      rw [hn9] at hx hn0
      clear hc1 hc2 hn9 hne ha hb hy
      go_enter Tryd.func63, Tryd.ntmps63
      go_wp2_with fail
      go_loopw [5] (fun i wr => ∃ i' : Int, i = .int .i64 i' ∧ -1 ≤ i' ∧ i' < n ∧ Hid ((dgs x).drop (i' + 1).toNat = (dgs y).drop (i' + 1).toNat) ∧ ∃ k, wr = w.drewN k) (fun i _ => (intOf i + 1).toNat)
      case atStart => exact ⟨(n : Int) - 1, by rfl, by omega, by omega, Lib.hid (by
          obtain ⟨h1, h2, h3, h4⟩ := H.out
          rw [show ((n : Int) - 1 + 1).toNat = n by omega, List.drop_eq_nil_of_le (by omega), List.drop_eq_nil_of_le (by omega)]), 0, rfl⟩
      case round =>
        obtain ⟨i', rfl, hi0, hi1, hG, k, rfl⟩ := hrel
        by_cases hm : i' = -1
        · subst hm
          have er : r = false := by
            have h := hG.out
            simp only [Int.reduceNeg, Int.add_left_neg, Int.toNat_zero, List.drop_zero] at h
            rw [← HR.out, dgs_inj h]
            simp
          subst er
          go_wp2_with fail
          go_ret
          exact ⟨rfl, Below.drewN (Below.refl _ _) _⟩
        · obtain ⟨j, rfl⟩ : ∃ j : Nat, i' = j := ⟨i'.toNat, by omega⟩
          have hjn : j < n := by omega
          obtain ⟨h1, h2, h3, h4⟩ := H.out
          have e1 := h1 j (by omega)
          have e2 := h2 j (by omega)
          obtain ⟨p, hp⟩ : ∃ p, (dgs x).getD j 0 = p := ⟨_, rfl⟩
          obtain ⟨q, hq⟩ : ∃ q, (dgs y).getD j 0 = q := ⟨_, rfl⟩
          rw [hp] at e1
          rw [hq] at e2
          have hG' := hG.out
          rw [show ((j : Int) + 1).toNat = j + 1 by omega] at hG'
          have hlt : p < q → x < y := by
            intro h
            have := dval_order (dgs x) (dgs y) (dgs_lt x) (dgs_lt y) h4 j (by omega) hG' (by rw [hp, hq]; exact h)
            rwa [dval_dgs, dval_dgs] at this
          have hgt : q < p → y < x := by
            intro h
            have := dval_order (dgs y) (dgs x) (dgs_lt y) (dgs_lt x) h4.symm j (by omega) hG'.symm (by rw [hp, hq]; exact h)
            rwa [dval_dgs, dval_dgs] at this
          have hnext : p = q → Hid ((dgs x).drop ((j : Int) - 1 + 1).toNat = (dgs y).drop ((j : Int) - 1 + 1).toNat) := by
            intro h
            rw [show ((j : Int) - 1 + 1).toNat = j by omega]
            exact Lib.hid (by rw [drop_cons (l := dgs x) (k := j) (by omega), drop_cons (l := dgs y) (k := j) (by omega), hG', hp, hq, h])
          have HX := Lib.hid (And.intro hlt (And.intro hgt hnext))
          clear h1 h2 h3 h4 hG' hp hq hlt hgt hnext hm hi0
          rcases Nat.lt_trichotomy p q with h | h | h
          · have er : r = true := by rw [← HR.out]; simpa using HX.out.1 h
            subst er
            have t1 : ((p : Int) != (q : Int)) = true := by rw [bne_iff_ne]; omega
            have t2 : decide ((p : Int) < (q : Int)) = true := by simp; omega
            have t3 : decide (p < q) = true := by simpa using h
            go_wp2_with fail
            go_quiet (fail)
            go_wp2_with fail
            go_quiet (fail)
            go_wp2_with fail
            go_ret
            exact ⟨rfl, Below.drewN (Below.drewN (Below.drewN (Below.refl _ _) _) _) _⟩
          · have hq := HX.out.2.2 h
            subst h
            go_wp2_with fail
            go_quiet (fail)
            go_wp2_with fail
            go_roundw
            case rel => exact ⟨(j : Int) - 1, rfl, by omega, by omega, hq, _, rfl⟩
            case measure => simp [intOf]
          · have er : r = false := by rw [← HR.out]; have := HX.out.2.1 h; exact decide_eq_false (by omega)
            subst er
            have t1 : ((p : Int) != (q : Int)) = true := by rw [bne_iff_ne]; omega
            have t2 : decide ((p : Int) < (q : Int)) = false := decide_eq_false (by omega)
            have t3 : decide (p < q) = false := decide_eq_false (by omega)
            go_wp2_with fail
            go_quiet (fail)
            go_wp2_with fail
            go_quiet (fail)
            go_wp2_with fail
            go_ret
            exact ⟨rfl, Below.drewN (Below.drewN (Below.drewN (Below.refl _ _) _) _) _⟩
  · have hlen : r = decide ((dgs x).length < (dgs y).length) := by
      rw [← HR.out, Bool.eq_iff_iff]
      simp only [decide_eq_true_eq]
      constructor
      · intro h
        have := dgs_len_mono (Nat.le_of_lt h)
        omega
      · exact dgs_len_lt
    obtain ⟨a1, c1, rfl⟩ := Rd.shape ha
    obtain ⟨a2, c2, rfl⟩ := Rd.shape hb
    obtain ⟨n, hn⟩ : ∃ n, (dgs x).length = n := ⟨_, rfl⟩
    obtain ⟨m, hm⟩ : ∃ m, (dgs y).length = m := ⟨_, rfl⟩
    rw [hn, hm] at hne hlen ⊢
    have hne1 : ((n : Int) != (m : Int)) = true := by rw [bne_iff_ne]; omega
    have HL := Lib.hid hlen
    clear ha hb hn hm hx hy hlen
    go_enter Tryd.func63, Tryd.ntmps63
    go_wp2_with fail
    go_ret
    exact ⟨by rw [HL.out]; first | rfl | simp, Below.refl _ _⟩

end Go.Proofs.YtfciebajiihcfaaDoor
