/- finesseref02: add, sub -/
import Derived.Test.YtfciebajiihcfaaDoorDigA
namespace Go.Proofs.YtfciebajiihcfaaDoor
open Go.RowKit
set_option linter.unusedVariables false
set_option linter.unusedSimpArgs false
set_option maxRecDepth 100000
set_option maxHeartbeats 2000000

/-- where add stands: k digits are out, c is carried -/
def AddInv (l m : List Nat) (k c : Nat) (L : List Nat) : Prop :=
  L.length = k ∧ (∀ d ∈ L, d < 10) ∧ c ≤ 1 ∧ dval L + 10 ^ k * c = dval (l.take k) + dval (m.take k) ∧ (k ≤ l.length ∨ k ≤ m.length ∨ 10 ^ (k - 1) ≤ dval L + 10 ^ k * c)

theorem dval_take_gen (l : List Nat) (k : Nat) : dval (l.take (k + 1)) = dval (l.take k) + 10 ^ k * l.getD k 0 := by
  rcases Nat.lt_or_ge k l.length with h | h
  · exact dval_take_succ h
  · rw [List.take_of_length_le h, List.take_of_length_le (by omega), List.getD_eq_getElem?_getD, List.getElem?_eq_none h]
    simp

theorem getD_over {l : List Nat} {k : Nat} (h : l.length ≤ k) : l.getD k 0 = 0 := by
  rw [List.getD_eq_getElem?_getD, List.getElem?_eq_none h]; rfl

theorem AddInv.start (l m : List Nat) : AddInv l m 0 0 [] := ⟨rfl, by simp, by omega, by simp [dval], .inl (Nat.zero_le _)⟩

theorem AddInv.step {l m : List Nat} {k c : Nat} {L : List Nat} (h : AddInv l m k c L) (hl : ∀ d ∈ l, d < 10) (hm : ∀ d ∈ m, d < 10) (hc : k < l.length ∨ k < m.length ∨ 0 < c) (s : Nat) (hs : c + l.getD k 0 + m.getD k 0 = s) :
    AddInv l m (k + 1) (s / 10) (L ++ [s % 10]) ∧ s ≤ 19 := by
  obtain ⟨h1, h2, h3, h4, h5⟩ := h
  have hx := getD_lt hl k
  have hy := getD_lt hm k
  have hval : dval (L ++ [s % 10]) + 10 ^ (k + 1) * (s / 10) = dval L + 10 ^ k * s := by
    rw [dval_snoc, h1, Nat.pow_succ, Nat.mul_assoc, Nat.add_assoc, ← Nat.mul_add]
    congr 2
    omega
  have hpow : 10 ^ k * s = 10 ^ k * c + 10 ^ k * l.getD k 0 + 10 ^ k * m.getD k 0 := by rw [← hs, Nat.mul_add, Nat.mul_add]
  refine ⟨⟨by simp [h1], ?_, by omega, ?_, ?_⟩, by omega⟩
  · intro d hd
    rcases List.mem_append.1 hd with h | h
    · exact h2 d h
    · simp at h; omega
  · rw [hval, dval_take_gen, dval_take_gen, hpow]; omega
  · rcases hc with h | h | h
    · exact .inl h
    · exact .inr (.inl h)
    · right; right
      rw [hval, hpow, Nat.add_sub_cancel]
      have : 10 ^ k * 1 ≤ 10 ^ k * c := Nat.mul_le_mul_left _ h
      omega

theorem AddInv.fin {x y k : Nat} {L : List Nat} (h : AddInv (dgs x) (dgs y) k 0 L) (h1 : (dgs x).length ≤ k) (h2 : (dgs y).length ≤ k) : L = dgs (x + y) := by
  obtain ⟨a1, a2, a3, a4, a5⟩ := h
  rw [List.take_of_length_le h1, List.take_of_length_le h2, dval_dgs, dval_dgs, Nat.mul_zero, Nat.add_zero] at a4
  rw [← a4]
  refine dgs_canon L a2 ?_
  rcases Nat.eq_zero_or_pos k with rfl | h0
  · exact .inl (List.eq_nil_of_length_eq_zero a1)
  · right
    rw [a1]
    rcases a5 with h | h | h
    · have hk : (dgs x).length = k := by omega
      have hx : 0 < x := by
        rcases Nat.eq_zero_or_pos x with rfl | hx
        · rw [dgs_zero] at hk; simp at hk; omega
        · exact hx
      have := dgs_lower hx
      rw [hk] at this
      omega
    · have hk : (dgs y).length = k := by omega
      have hx : 0 < y := by
        rcases Nat.eq_zero_or_pos y with rfl | hx
        · rw [dgs_zero] at hk; simp at hk; omega
        · exact hx
      have := dgs_lower hx
      rw [hk] at this
      omega
    · simpa using h

theorem ownNil (w : World) (base : Nat) (t : TypeId) : w.ownsRow base t 1 (.slice none 0 0) 0 [] := ⟨rfl, .inl ⟨rfl, rfl⟩⟩

/-- the cells of a reading that may be empty -/
theorem Ns.cells {w : World} {v : Value} {l : List Nat} (h : Ns w v l) : ∃ a c, v = .slice a l.length c ∧ ∀ j, j < l.length → ∃ b off, a = some ⟨b, off, none⟩ ∧ b < w.heap.size ∧ l.length ≤ c ∧ c ≤ maxLen ∧ w.cell? ⟨b, off + j, none⟩ = some (.int .i64 ((l.getD j 0 : Nat) : Int)) := by
  by_cases h0 : l.length = 0
  · obtain ⟨a, c, e⟩ := Rd.shape h
    exact ⟨a, c, e, fun j hj => by omega⟩
  · obtain ⟨b, off, c, e, hb, h1, h2, hc⟩ := h.open (by omega)
    exact ⟨_, c, e, fun j hj => ⟨b, off, rfl, hb, h1, h2, hc j hj⟩⟩

/-- an address, the one that is meant where there is something -/
theorem Ns.cells2 {w : World} {v : Value} {l : List Nat} (h : Ns w v l) : ∃ a b off c, v = .slice a l.length c ∧ (l.length = 0 ∨ a = some ⟨b, off, none⟩) ∧ (0 < l.length → b < w.heap.size) ∧ (0 < l.length → l.length ≤ c ∧ c ≤ maxLen) ∧ ∀ j, j < l.length → w.cell? ⟨b, off + j, none⟩ = some (.int .i64 ((l.getD j 0 : Nat) : Int)) := by
  by_cases h0 : l.length = 0
  · obtain ⟨a, c, e⟩ := Rd.shape h
    exact ⟨a, 0, 0, c, e, .inl h0, by omega, by omega, fun j hj => by omega⟩
  · obtain ⟨b, off, c, e, hb, h1, h2, hc⟩ := h.open (by omega)
    exact ⟨_, b, off, c, e, .inr rfl, fun _ => hb, fun _ => ⟨h1, h2⟩, hc⟩

theorem add_dg (va vb : Value) (x y : Nat) (w : World) (ha : Dg w va x) (hb : Dg w vb y) (hx : (dgs x).length ≤ 100000) (hy : (dgs y).length ≤ 100000) :
    Calls Tryd.prog 62 #[va, vb] w (SomeD w (x + y)) := by
  obtain ⟨a1, c1, rfl, hc1⟩ := Ns.cells ha
  obtain ⟨a2, c2, rfl, hc2⟩ := Ns.cells hb
  have H := Lib.hid (And.intro hc1 hc2)
  obtain ⟨l, hl⟩ : ∃ l, dgs x = l := ⟨_, rfl⟩
  obtain ⟨m, hm⟩ : ∃ m, dgs y = m := ⟨_, rfl⟩
  rw [hl, hm] at H
  rw [hl] at hx ⊢
  rw [hm] at hy ⊢
  obtain ⟨n1, hn1⟩ : ∃ n, l.length = n := ⟨_, rfl⟩
  obtain ⟨n2, hn2⟩ : ∃ n, m.length = n := ⟨_, rfl⟩
  rw [hn1] at hx ⊢
  rw [hn2] at hy ⊢
  have HL := Lib.hid (And.intro hl (And.intro hm (And.intro hn1 hn2)))
  clear hc1 hc2 hl hm ha hb hn1 hn2
  go_enter Tryd.func62, Tryd.ntmps62
  go_wp2_with fail
  go_loopw [5, 6, 7] (fun o cy i wr => ∃ (k c : Nat) (L : List Nat), i = .int .i64 k ∧ cy = .int .i64 c ∧ c ≤ 1 ∧ k ≤ n1 + n2 + 1 ∧ wr.ownsRow w.heap.size 3 1 o k (nts L) ∧ Below w.heap.size w wr ∧ Hid (AddInv l m k c L ∧ (k ≤ n1 ∨ k ≤ n2 ∨ c = 0))) (fun _ _ i _ => (n1 + n2 + 2) - (intOf i).toNat)
  case atStart => exact ⟨0, 0, [], rfl, rfl, by omega, by omega, ownNil _ _ _, Below.refl _ _, Lib.hid ⟨AddInv.start _ _, .inl (by omega)⟩⟩
  case round =>
    obtain ⟨k, c, L, rfl, rfl, hc, hk, hown, hB, hG⟩ := hrel
    obtain ⟨p, hp⟩ : ∃ p, l.getD k 0 = p := ⟨_, rfl⟩
    obtain ⟨q, hq⟩ : ∃ q, m.getD k 0 = q := ⟨_, rfl⟩
    have hp9 : p ≤ 9 := by rw [← hp, ← HL.out.1]; have := getD_lt (dgs_lt x) k; omega
    have hq9 : q ≤ 9 := by rw [← hq, ← HL.out.2.1]; have := getD_lt (dgs_lt y) k; omega
    have HS : Hid (k < n1 ∨ k < n2 ∨ 0 < c → AddInv l m (k + 1) ((c + p + q) / 10) (L ++ [(c + p + q) % 10]) ∧ k + 1 ≤ n1 + n2 + 1 ∧ (k + 1 ≤ n1 ∨ k + 1 ≤ n2 ∨ (c + p + q) / 10 = 0)) := Lib.hid (by
      intro h
      obtain ⟨e1, e2, e3, e4⟩ := HL.out
      obtain ⟨g1, g2⟩ := hG.out
      have hs := (g1.step (by rw [← e1]; exact dgs_lt x) (by rw [← e2]; exact dgs_lt y) (by rw [e3, e4]; exact h) (c + p + q) (by rw [hp, hq])).1
      refine ⟨hs, by omega, ?_⟩
      by_cases h1 : k < n1
      · omega
      · by_cases h2 : k < n2
        · omega
        · have z1 : p = 0 := by rw [← hp]; exact getD_over (by omega)
          have z2 : q = 0 := by rw [← hq]; exact getD_over (by omega)
          right; right; omega)
    have HP := Lib.hid (And.intro hp hq)
    clear hp hq
    obtain ⟨a3, c3, rfl⟩ := own_shape hown
    have HO := Lib.hid (And.intro hown hB)
    have hsz := hB.size
    clear hown hB
    by_cases h1 : k < n1
    · obtain ⟨b1, o1, rfl, hb1, hlc1, hcm1, hc1⟩ := H.out.1 k (by have := HL.out; omega)
      rw [HP.out.1] at hc1
      unfold maxLen at hcm1
      replace hc1 := (HO.out.2.cell (p := ⟨b1, o1 + k, none⟩) hb1).trans hc1
      by_cases h2 : k < n2
      · obtain ⟨b2, o2, rfl, hb2, hlc2, hcm2, hc2⟩ := H.out.2 k (by have := HL.out; omega)
        rw [HP.out.2] at hc2
        unfold maxLen at hcm2
        replace hc2 := (HO.out.2.cell (p := ⟨b2, o2 + k, none⟩) hb2).trans hc2
        go_wp2_with (at_builtin; refine stopD_of ?_)
        unfold StopD
        refine append_int (by rfl) _ _ (by rfl) w.heap.size w.heap.size _ k (nts L) _ (by rfl) (by rfl) HO.out.1 (by omega) hsz HO.out.2 (Nat.le_refl _) ?_
        intro v' w8 hown1 hB8
        obtain ⟨a', c', rfl⟩ := own_shape hown1
        have HO8 := Lib.hid (And.intro hown1 hB8)
        clear hown1 hB8
        go_wp2_with fail
        go_roundw
        case rel =>
          obtain ⟨s1, s2, s3⟩ := HS.out (by omega)
          refine ⟨k + 1, (c + p + q) / 10, L ++ [(c + p + q) % 10], by go_num, by go_num, by omega, s2, ?_, HO8.out.2, Lib.hid ⟨s1, s3⟩⟩
          rw [nts_append]
          have h9 := HO8.out.1
          have e9 : ([Value.int .i64 (((c + p + q : Nat) : Int) % 10)] : List Value) = nts [(c + p + q) % 10] := by simp [nts]
          rw [← e9]
          simpa using h9
        case measure => simp [intOf]; omega
      · go_wp2_with (at_builtin; refine stopD_of ?_)
        unfold StopD
        refine append_int (by rfl) _ _ (by rfl) w.heap.size w.heap.size _ k (nts L) _ (by rfl) (by rfl) HO.out.1 (by omega) hsz HO.out.2 (Nat.le_refl _) ?_
        intro v' w8 hown1 hB8
        obtain ⟨a', c', rfl⟩ := own_shape hown1
        have HO8 := Lib.hid (And.intro hown1 hB8)
        clear hown1 hB8
        go_wp2_with fail
        go_roundw
        case rel =>
          obtain ⟨s1, s2, s3⟩ := HS.out (by omega)
          have z2 : q = 0 := by rw [← HP.out.2]; exact getD_over (by have := HL.out; omega)
          subst z2
          rw [Nat.add_zero] at s1 s3
          refine ⟨k + 1, (c + p) / 10, L ++ [(c + p) % 10], by go_num, by go_num, by omega, s2, ?_, HO8.out.2, Lib.hid ⟨s1, s3⟩⟩
          rw [nts_append]
          have h9 := HO8.out.1
          have e9 : ([Value.int .i64 (((c + p : Nat) : Int) % 10)] : List Value) = nts [(c + p) % 10] := by simp [nts]
          rw [← e9]
          simpa using h9
        case measure => simp [intOf]; omega
    · by_cases h2 : k < n2
      · obtain ⟨b2, o2, rfl, hb2, hlc2, hcm2, hc2⟩ := H.out.2 k (by have := HL.out; omega)
        rw [HP.out.2] at hc2
        unfold maxLen at hcm2
        replace hc2 := (HO.out.2.cell (p := ⟨b2, o2 + k, none⟩) hb2).trans hc2
        go_wp2_with (at_builtin; refine stopD_of ?_)
        unfold StopD
        refine append_int (by rfl) _ _ (by rfl) w.heap.size w.heap.size _ k (nts L) _ (by rfl) (by rfl) HO.out.1 (by omega) hsz HO.out.2 (Nat.le_refl _) ?_
        intro v' w8 hown1 hB8
        obtain ⟨a', c', rfl⟩ := own_shape hown1
        have HO8 := Lib.hid (And.intro hown1 hB8)
        clear hown1 hB8
        go_wp2_with fail
        go_roundw
        case rel =>
          obtain ⟨s1, s2, s3⟩ := HS.out (by omega)
          have z1 : p = 0 := by rw [← HP.out.1]; exact getD_over (by have := HL.out; omega)
          subst z1
          rw [Nat.add_zero] at s1 s3
          refine ⟨k + 1, (c + q) / 10, L ++ [(c + q) % 10], by go_num, by go_num, by omega, s2, ?_, HO8.out.2, Lib.hid ⟨s1, s3⟩⟩
          rw [nts_append]
          have h9 := HO8.out.1
          have e9 : ([Value.int .i64 (((c + q : Nat) : Int) % 10)] : List Value) = nts [(c + q) % 10] := by simp [nts]
          rw [← e9]
          simpa using h9
        case measure => simp [intOf]; omega
      · by_cases hc0 : 0 < c
        · obtain rfl : c = 1 := by omega
          go_wp2_with (at_builtin; refine stopD_of ?_)
          unfold StopD
          refine append_int (by rfl) _ _ (by rfl) w.heap.size w.heap.size _ k (nts L) _ (by rfl) (by rfl) HO.out.1 (by omega) hsz HO.out.2 (Nat.le_refl _) ?_
          intro v' w8 hown1 hB8
          obtain ⟨a', c', rfl⟩ := own_shape hown1
          have HO8 := Lib.hid (And.intro hown1 hB8)
          clear hown1 hB8
          go_wp2_with fail
          go_roundw
          case rel =>
            obtain ⟨s1, s2, s3⟩ := HS.out (by omega)
            have z1 : p = 0 := by rw [← HP.out.1]; exact getD_over (by have := HL.out; omega)
            have z2 : q = 0 := by rw [← HP.out.2]; exact getD_over (by have := HL.out; omega)
            subst z1 z2
            rw [Nat.add_zero, Nat.add_zero] at s1 s3
            refine ⟨k + 1, 0, L ++ [1], by go_num, by go_num, by omega, s2, ?_, HO8.out.2, Lib.hid ⟨s1, s3⟩⟩
            rw [nts_append]
            have h9 := HO8.out.1
            have e9 : ([Value.int .i64 (((1 : Nat) : Int) % 10)] : List Value) = nts [(1) % 10] := by simp [nts]
            rw [← e9]
            simpa using h9
          case measure => simp [intOf]; omega
        · obtain rfl : c = 0 := by omega
          go_wp2_with fail
          go_ret
          refine ⟨_, rfl, ?_, HO.out.2⟩
          obtain ⟨e1, e2, e3, e4⟩ := HL.out
          have hg := hG.out.1
          have hL1 := hg.1
          rw [← e1, ← e2] at hg
          have hf := hg.fin (by rw [e1]; omega) (by rw [e2]; omega)
          have h9 := Rd.of_own HO.out.1
          unfold Dg Ns
          rw [← hf, hL1]
          exact h9

/-- where sub stands: k digits are out, c is owed -/
def SubInv (l m : List Nat) (k c : Nat) (L : List Nat) : Prop :=
  L.length = k ∧ (∀ d ∈ L, d < 10) ∧ c ≤ 1 ∧ dval L + dval (m.take k) = dval (l.take k) + 10 ^ k * c

theorem SubInv.start (l m : List Nat) : SubInv l m 0 0 [] := ⟨rfl, by simp, by omega, by simp [dval]⟩

theorem SubInv.step {l m : List Nat} {k c : Nat} {L : List Nat} (h : SubInv l m k c L) (d c' : Nat) (hd : d < 10) (hc' : c' ≤ 1) (he : d + m.getD k 0 + c = l.getD k 0 + 10 * c') :
    SubInv l m (k + 1) c' (L ++ [d]) := by
  obtain ⟨h1, h2, h3, h4⟩ := h
  refine ⟨by simp [h1], ?_, hc', ?_⟩
  · intro x hx
    rcases List.mem_append.1 hx with h | h
    · exact h2 x h
    · simp at h; omega
  · rw [dval_snoc, h1, dval_take_gen, dval_take_gen, Nat.pow_succ]
    have e := congrArg (fun z => 10 ^ k * z) he
    simp only [Nat.mul_add] at e
    have e2 : 10 ^ k * (10 * c') = 10 ^ k * 10 * c' := by rw [Nat.mul_assoc]
    omega

theorem SubInv.fin {x y : Nat} {c : Nat} {L : List Nat} (h : SubInv (dgs x) (dgs y) (dgs x).length c L) (hxy : y ≤ x) : dval L = x - y := by
  obtain ⟨a1, a2, a3, a4⟩ := h
  have hlen := dgs_len_mono hxy
  rw [List.take_of_length_le (Nat.le_refl _), List.take_of_length_le hlen, dval_dgs, dval_dgs] at a4
  have hlt := dval_lt L a2
  rw [a1] at hlt
  have hc : c = 0 ∨ c = 1 := by omega
  rcases hc with rfl | rfl
  · omega
  · omega

theorem sub_new (va vb : Value) (x y : Nat) (w : World) (ha : Dg w va x) (hb : Dg w vb y) (hx : (dgs x).length ≤ 100000) (hxy : y ≤ x) :
    Calls Tryd.prog 64 #[va, vb] w fun e w' => ∃ v, e = .returned v ∧ (Dg w' v (x - y) ∧ NewD w.heap.size v) ∧ Below w.heap.size w w' := by
  have hy : (dgs y).length ≤ 100000 := Nat.le_trans (dgs_len_mono hxy) hx
  obtain ⟨a1, c1, rfl, hc1⟩ := Ns.cells ha
  obtain ⟨a2, c2, rfl, hc2⟩ := Ns.cells hb
  have H := Lib.hid (And.intro hc1 hc2)
  obtain ⟨l, hl⟩ : ∃ l, dgs x = l := ⟨_, rfl⟩
  obtain ⟨m, hm⟩ : ∃ m, dgs y = m := ⟨_, rfl⟩
  rw [hl, hm] at H
  rw [hl] at hx ⊢
  rw [hm] at hy ⊢
  obtain ⟨n1, hn1⟩ : ∃ n, l.length = n := ⟨_, rfl⟩
  obtain ⟨n2, hn2⟩ : ∃ n, m.length = n := ⟨_, rfl⟩
  rw [hn1] at hx ⊢
  rw [hn2] at hy ⊢
  have HL := Lib.hid (And.intro hl (And.intro hm (And.intro hn1 (And.intro hn2 hxy))))
  clear hc1 hc2 hl hm ha hb hn1 hn2 hxy
  go_enter Tryd.func64, Tryd.ntmps64
  go_wp2_with fail
  go_loopw [5, 6, 7] (fun o cy i wr => ∃ (k c : Nat) (L : List Nat), i = .int .i64 k ∧ cy = .int .i64 c ∧ c ≤ 1 ∧ k ≤ n1 ∧ wr.ownsRow w.heap.size 3 1 o k (nts L) ∧ Below w.heap.size w wr ∧ Hid (SubInv l m k c L)) (fun _ _ i _ => n1 - (intOf i).toNat)
  case atStart => exact ⟨0, 0, [], rfl, rfl, by omega, by omega, ownNil _ _ _, Below.refl _ _, Lib.hid (SubInv.start _ _)⟩
  case round =>
    obtain ⟨k, c, L, rfl, rfl, hc, hk, hown, hB, hG⟩ := hrel
    obtain ⟨p, hp⟩ : ∃ p, l.getD k 0 = p := ⟨_, rfl⟩
    obtain ⟨q, hq⟩ : ∃ q, m.getD k 0 = q := ⟨_, rfl⟩
    have hp9 : p ≤ 9 := by rw [← hp, ← HL.out.1]; have := getD_lt (dgs_lt x) k; omega
    have hq9 : q ≤ 9 := by rw [← hq, ← HL.out.2.1]; have := getD_lt (dgs_lt y) k; omega
    have HP := Lib.hid (And.intro hp hq)
    clear hp hq
    obtain ⟨a3, c3, rfl⟩ := own_shape hown
    have HO := Lib.hid (And.intro hown hB)
    have hsz := hB.size
    clear hown hB
    by_cases h1 : k < n1
    · obtain ⟨b1, o1, rfl, hb1, hlc1, hcm1, hc1⟩ := H.out.1 k (by have := HL.out; omega)
      rw [HP.out.1] at hc1
      unfold maxLen at hcm1
      replace hc1 := (HO.out.2.cell (p := ⟨b1, o1 + k, none⟩) hb1).trans hc1
      by_cases h2 : k < n2
      · obtain ⟨b2, o2, rfl, hb2, hlc2, hcm2, hc2⟩ := H.out.2 k (by have := HL.out; omega)
        rw [HP.out.2] at hc2
        unfold maxLen at hcm2
        replace hc2 := (HO.out.2.cell (p := ⟨b2, o2 + k, none⟩) hb2).trans hc2
        by_cases hneg : (p : Int) - (c : Int) - (q : Int) < 0
        · go_wp2_with (at_builtin; refine stopD_of ?_)
          unfold StopD
          refine append_int (by rfl) _ _ (by rfl) w.heap.size w.heap.size _ k (nts L) _ (by rfl) (by rfl) HO.out.1 (by omega) hsz HO.out.2 (Nat.le_refl _) ?_
          intro v' w8 hown1 hB8
          obtain ⟨a', c', rfl⟩ := own_shape hown1
          have HO8 := Lib.hid (And.intro hown1 hB8)
          clear hown1 hB8
          go_wp2_with fail
          go_roundw
          case rel =>
            have hs := hG.out.step (p + 10 - c - q) 1 (by omega) (by omega) (by rw [HP.out.1, HP.out.2]; omega)
            refine ⟨k + 1, 1, L ++ [(p + 10 - c - q)], by go_num, by rfl, by omega, by omega, ?_, HO8.out.2, Lib.hid hs⟩
            rw [nts_append]
            have h9 := HO8.out.1
            have e9 : ([Value.int .i64 ((p : Int) - (c : Int) - (q : Int) + 10)] : List Value) = nts [(p + 10 - c - q)] := by simp [nts]; omega
            rw [← e9]
            exact h9
          case measure => simp [intOf]; omega
        · go_wp2_with (at_builtin; refine stopD_of ?_)
          unfold StopD
          refine append_int (by rfl) _ _ (by rfl) w.heap.size w.heap.size _ k (nts L) _ (by rfl) (by rfl) HO.out.1 (by omega) hsz HO.out.2 (Nat.le_refl _) ?_
          intro v' w8 hown1 hB8
          obtain ⟨a', c', rfl⟩ := own_shape hown1
          have HO8 := Lib.hid (And.intro hown1 hB8)
          clear hown1 hB8
          go_wp2_with fail
          go_roundw
          case rel =>
            have hs := hG.out.step (p + 0 - c - q) 0 (by omega) (by omega) (by rw [HP.out.1, HP.out.2]; omega)
            refine ⟨k + 1, 0, L ++ [(p + 0 - c - q)], by go_num, by rfl, by omega, by omega, ?_, HO8.out.2, Lib.hid hs⟩
            rw [nts_append]
            have h9 := HO8.out.1
            have e9 : ([Value.int .i64 ((p : Int) - (c : Int) - (q : Int))] : List Value) = nts [(p + 0 - c - q)] := by simp [nts]; omega
            rw [← e9]
            exact h9
          case measure => simp [intOf]; omega
      · by_cases hneg : (p : Int) - (c : Int) < 0
        · go_wp2_with (at_builtin; refine stopD_of ?_)
          unfold StopD
          refine append_int (by rfl) _ _ (by rfl) w.heap.size w.heap.size _ k (nts L) _ (by rfl) (by rfl) HO.out.1 (by omega) hsz HO.out.2 (Nat.le_refl _) ?_
          intro v' w8 hown1 hB8
          obtain ⟨a', c', rfl⟩ := own_shape hown1
          have HO8 := Lib.hid (And.intro hown1 hB8)
          clear hown1 hB8
          go_wp2_with fail
          go_roundw
          case rel =>
            have z2 : q = 0 := by rw [← HP.out.2]; exact getD_over (by have := HL.out; omega)
            subst z2
            have hs := hG.out.step (p + 10 - c) 1 (by omega) (by omega) (by rw [HP.out.1, HP.out.2]; omega)
            refine ⟨k + 1, 1, L ++ [(p + 10 - c)], by go_num, by rfl, by omega, by omega, ?_, HO8.out.2, Lib.hid hs⟩
            rw [nts_append]
            have h9 := HO8.out.1
            have e9 : ([Value.int .i64 ((p : Int) - (c : Int) + 10)] : List Value) = nts [(p + 10 - c)] := by simp [nts]; omega
            rw [← e9]
            exact h9
          case measure => simp [intOf]; omega
        · go_wp2_with (at_builtin; refine stopD_of ?_)
          unfold StopD
          refine append_int (by rfl) _ _ (by rfl) w.heap.size w.heap.size _ k (nts L) _ (by rfl) (by rfl) HO.out.1 (by omega) hsz HO.out.2 (Nat.le_refl _) ?_
          intro v' w8 hown1 hB8
          obtain ⟨a', c', rfl⟩ := own_shape hown1
          have HO8 := Lib.hid (And.intro hown1 hB8)
          clear hown1 hB8
          go_wp2_with fail
          go_roundw
          case rel =>
            have z2 : q = 0 := by rw [← HP.out.2]; exact getD_over (by have := HL.out; omega)
            subst z2
            have hs := hG.out.step (p + 0 - c) 0 (by omega) (by omega) (by rw [HP.out.1, HP.out.2]; omega)
            refine ⟨k + 1, 0, L ++ [(p + 0 - c)], by go_num, by rfl, by omega, by omega, ?_, HO8.out.2, Lib.hid hs⟩
            rw [nts_append]
            have h9 := HO8.out.1
            have e9 : ([Value.int .i64 ((p : Int) - (c : Int))] : List Value) = nts [(p + 0 - c)] := by simp [nts]; omega
            rw [← e9]
            exact h9
          case measure => simp [intOf]; omega
    · obtain rfl : k = n1 := by omega
      obtain ⟨e1, e2, e3, e4, e5⟩ := HL.out
      have hg := hG.out
      have hg2 := hg.2.1
      have hgl := hg.1
      rw [← e1, ← e2, show k = (dgs x).length by rw [e1, e3]] at hg
      have hv := hg.fin e5
      have h9 := Rd.of_own HO.out.1
      have HN : Hid (Ns wr (.slice a3 k c3) L) := Lib.hid (by unfold Ns; rw [hgl]; exact h9)
      have HV := Lib.hid (And.intro hv (And.intro hg2 hgl))
      clear e1 e2 e3 e4 e5 hg hg2 hgl hv h9
      go_wp2_with (go_at_call 48; refine (trim_at _ L _ HN.out HV.out.2.1 (by have := HV.out.2.2; omega)).mono ?_; rintro e w9 ⟨v', rfl, ⟨hv', hat⟩, rfl⟩)
      go_ret
      refine ⟨_, rfl, ⟨?_, (NewD.own HO.out.1).at hat⟩, HO.out.2⟩
      unfold Dg
      rw [← HV.out.1]
      exact hv'

theorem sub_dg (va vb : Value) (x y : Nat) (w : World) (ha : Dg w va x) (hb : Dg w vb y) (hx : (dgs x).length ≤ 100000) (hxy : y ≤ x) :
    Calls Tryd.prog 64 #[va, vb] w (SomeD w (x - y)) :=
  (sub_new va vb x y w ha hb hx hxy).mono fun e w' ⟨v, h1, h2, h3⟩ => ⟨v, h1, h2.1, h3⟩

end Go.Proofs.YtfciebajiihcfaaDoor
