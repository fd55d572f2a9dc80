/- finesseref02: mul -/
import Derived.Test.YtfciebajiihcfaaDoorDigC
import Derived.Deep.RegionHeld3
import Derived.Deep.DrawnRows
import Derived.IntWalk
import Derived.StillTailTactics
namespace Go.Proofs.YtfciebajiihcfaaDoor
open Go.RowKit
set_option linter.unusedVariables false
set_option linter.unusedSimpArgs false
set_option maxRecDepth 100000
set_option maxHeartbeats 2000000

/-- make([]int, n) -/
theorem make_ints {w : World} {ops : Array Oper} {rest : List Oper} {o : Oper} {a : Act} {Q : Exit → Act → World → Prop} (hg : o.guard = none) (l c : Operand) (hop : o.op = Op.makeSlice 53 l c) (n : Nat) (L C : Int)
    (hl : a.eval l = .int .i64 L) (hc : a.eval c = .int .i64 C) (hL : L = (n : Int)) (hC : C = (n : Int)) (hn : n ≤ 1000000)
    (h : ∀ w', w'.ownsRow w.heap.size 3 1 (.slice (some ⟨w.heap.size, 0, none⟩) n n) n (nts (List.replicate n 0)) → Below w.heap.size w w' → wpList Tryd.prog ops Q rest (a.put o.dst (.slice (some ⟨w.heap.size, 0, none⟩) n n)) w') :
    wpList Tryd.prog ops Q (o :: rest) a w := by
  obtain ⟨i0, hinf, hz0, hz1, hz2⟩ := info_parts info_i64
  refine wpList_make_full _ hg l c 53 hop w.heap.size 3 i0 (.int .i64 0) 1 Tryd.underlying53 hinf hz0 hz1 .i64 .i64 L C n hl hc hL hC (by rw [hz2]; omega) (by unfold maxLen; omega) (Nat.le_refl _) ?_
  intro w1 hown hgr
  have hz : (madeCells (Value.int .i64 0).cells (n * 1)).toList = nts (List.replicate n 0) := by
    rw [Nat.mul_one]
    show (madeCells #[Value.int .i64 0] n).toList = _
    rw [toList_madeCells_one]
    simp [nts]
  rw [hz] at hown
  exact h w1 hown ((Below.refl _ _).grown hgr (Nat.le_refl _) (fun k e => by cases e))

theorem dval_set (M : List Nat) : ∀ (j v : Nat), j < M.length → dval (M.set j v) + 10 ^ j * M.getD j 0 = dval M + 10 ^ j * v := by
  induction M with
  | nil => intro j v h; simp at h
  | cons d M ih =>
    intro j v h
    cases j with
    | zero => simp [dval]; omega
    | succ j =>
      have := ih j v (by simpa using h)
      simp only [List.set_cons_succ, dval, List.getD_cons_succ, Nat.pow_succ]
      rw [Nat.mul_comm (10 ^ j) 10, Nat.mul_assoc, Nat.mul_assoc]
      omega

theorem getD_set (M : List Nat) (j v q : Nat) (h : j < M.length) : (M.set j v).getD q 0 = if q = j then v else M.getD q 0 := by
  simp only [List.getD_eq_getElem?_getD]
  rw [List.getElem?_set]
  by_cases e : j = q
  · subst e; rw [if_pos rfl, if_pos rfl, if_pos h]; rfl
  · rw [if_neg e, if_neg (Ne.symm e)]

theorem dval_zeros (n : Nat) : dval (List.replicate n 0) = 0 := by
  induction n with
  | zero => rfl
  | succ n ih => rw [List.replicate_succ, dval, ih]

/-- where the products stand: row i, k digits done -/
def MulInv (l m : List Nat) (N i k : Nat) (M : List Nat) : Prop :=
  M.length = N ∧ dval M = dval (l.take i) * dval m + 10 ^ i * (l.getD i 0 * dval (m.take k)) ∧ ∀ j, M.getD j 0 ≤ 81 * i + if j < i + k then 81 else 0

theorem MulInv.start (l m : List Nat) (N : Nat) : MulInv l m N 0 0 (List.replicate N 0) := by
  refine ⟨by simp, by simp [dval_zeros, dval], fun j => ?_⟩
  have : (List.replicate N 0).getD j 0 = 0 := by
    rw [List.getD_eq_getElem?_getD, List.getElem?_replicate]
    split <;> rfl
  omega

theorem MulInv.row {l m : List Nat} {N i : Nat} {M : List Nat} (h : MulInv l m N i m.length M) : MulInv l m N (i + 1) 0 M := by
  obtain ⟨h1, h2, h3⟩ := h
  refine ⟨h1, ?_, fun j => ?_⟩
  · rw [h2, List.take_of_length_le (Nat.le_refl _), dval_take_gen, Nat.add_mul, List.take_zero]
    simp only [dval, Nat.mul_zero, Nat.add_zero, Nat.mul_assoc]
  · have := h3 j
    split at this <;> split <;> omega

theorem MulInv.step {l m : List Nat} {N i k : Nat} {M : List Nat} (h : MulInv l m N i k M) (hl : ∀ d ∈ l, d < 10) (hm : ∀ d ∈ m, d < 10) (hN : i + k < N) (r : Nat) (hr : l.getD i 0 * m.getD k 0 = r) :
    MulInv l m N i (k + 1) (M.set (i + k) (M.getD (i + k) 0 + r)) := by
  obtain ⟨h1, h2, h3⟩ := h
  refine ⟨by simpa using h1, ?_, fun j => ?_⟩
  · have e := dval_set M (i + k) (M.getD (i + k) 0 + r) (by omega)
    rw [Nat.mul_add] at e
    have e2 : dval (M.set (i + k) (M.getD (i + k) 0 + r)) = dval M + 10 ^ (i + k) * r := by omega
    rw [e2, h2, dval_take_gen, ← hr, Nat.mul_add, Nat.mul_add, Nat.pow_add]
    have e3 : 10 ^ i * 10 ^ k * (l.getD i 0 * m.getD k 0) = 10 ^ i * (l.getD i 0 * (10 ^ k * m.getD k 0)) := by
      rw [Nat.mul_assoc, Nat.mul_left_comm (10 ^ k)]
    rw [e3]
    omega
  · have hp := getD_lt hl i
    have hq := getD_lt hm k
    have hr81 : r ≤ 81 := by
      rw [← hr]
      exact Nat.le_trans (Nat.mul_le_mul (Nat.le_of_lt_succ hp) (Nat.le_of_lt_succ hq)) (by decide)
    rw [getD_set _ _ _ _ (by omega)]
    have h4 := h3 j
    have h5 := h3 (i + k)
    rw [if_neg (by omega)] at h5
    split
    · rw [if_pos (by omega)]; omega
    · split at h4 <;> split <;> omega

/-- where the carrying stands: i digits done, c carried; T is the whole -/
def CarInv (T N B i c : Nat) (M : List Nat) : Prop :=
  M.length = N ∧ dval M + 10 ^ i * c = T ∧ c ≤ B ∧ (∀ j, M.getD j 0 ≤ B + 9) ∧ ∀ j, j < i → M.getD j 0 < 10

theorem CarInv.step {T N B i c : Nat} {M : List Nat} (h : CarInv T N B i c M) (hi : i < N) (s : Nat) (hs : c + M.getD i 0 = s) : CarInv T N B (i + 1) (s / 10) (M.set i (s % 10)) := by
  obtain ⟨h1, h2, h3, h4, h5⟩ := h
  have h4i := h4 i
  refine ⟨by simpa using h1, ?_, by omega, fun j => ?_, fun j hj => ?_⟩
  · have e := dval_set M i (s % 10) (by omega)
    rw [Nat.pow_succ, Nat.mul_assoc, ← h2]
    have e2 : 10 ^ i * (10 * (s / 10)) + 10 ^ i * (s % 10) = 10 ^ i * c + 10 ^ i * M.getD i 0 := by
      rw [← Nat.mul_add, ← Nat.mul_add, Nat.div_add_mod, hs]
    omega
  · rw [getD_set _ _ _ _ (by omega)]
    split
    · omega
    · exact h4 j
  · rw [getD_set _ _ _ _ (by omega)]
    split
    · omega
    · exact h5 j (by omega)

theorem CarInv.fin {T N B c : Nat} {M : List Nat} (h : CarInv T N B N c M) (hT : T < 10 ^ N) : (∀ d ∈ M, d < 10) ∧ dval M = T := by
  obtain ⟨h1, h2, h3, h4, h5⟩ := h
  refine ⟨fun d hd => ?_, ?_⟩
  · obtain ⟨j, hj, rfl⟩ := List.getElem_of_mem hd
    have := h5 j (by omega)
    rwa [List.getD_eq_getElem?_getD, List.getElem?_eq_getElem hj] at this
  · rcases Nat.eq_zero_or_pos c with rfl | hc
    · omega
    · have : 10 ^ N * 1 ≤ 10 ^ N * c := Nat.mul_le_mul_left _ hc
      omega

theorem mul_lt_pow (x y : Nat) : x * y < 10 ^ ((dgs x).length + (dgs y).length) := by
  rw [Nat.pow_add]
  have h1 := dgs_upper x
  have h2 := dgs_upper y
  exact Nat.lt_of_le_of_lt (Nat.mul_le_mul_left _ (Nat.le_of_lt h2)) (Nat.mul_lt_mul_of_pos_right h1 (Nat.pow_pos (by omega)))

theorem mul_dg (va vb : Value) (x y : Nat) (w : World) (ha : Dg w va x) (hb : Dg w vb y) (hx : (dgs x).length ≤ 50000) (hy : (dgs y).length ≤ 50000) :
    Calls Tryd.prog 49 #[va, vb] w (SomeD w (x * y)) := by
  obtain ⟨a1, c1, rfl, hc1⟩ := Ns.cells ha
  obtain ⟨a2, c2, rfl, hc2⟩ := Ns.cells hb
  have H := Lib.hid (And.intro hc1 hc2)
  have hT := mul_lt_pow x y
  obtain ⟨l, hl⟩ : ∃ l, dgs x = l := ⟨_, rfl⟩
  obtain ⟨m, hm⟩ : ∃ m, dgs y = m := ⟨_, rfl⟩
  rw [hl, hm] at H hT
  rw [hl] at hx ⊢
  rw [hm] at hy ⊢
  obtain ⟨n1, hn1⟩ : ∃ n, l.length = n := ⟨_, rfl⟩
  obtain ⟨n2, hn2⟩ : ∃ n, m.length = n := ⟨_, rfl⟩
  rw [hn1] at hx hT ⊢
  rw [hn2] at hy hT ⊢
  obtain ⟨N, hN⟩ : ∃ N, n1 + n2 = N := ⟨_, rfl⟩
  rw [hN] at hT
  have hNc : (n1 : Int) + (n2 : Int) = (N : Int) := by omega
  have hN1 : n1 + n2 ≤ N := by omega
  have hN2 : N ≤ n1 + n2 := by omega
  have HN := Lib.hid hNc
  have HL := Lib.hid (And.intro hl (And.intro hm (And.intro hn1 (And.intro hn2 hT))))
  clear hc1 hc2 hl hm ha hb hn1 hn2 hT hN hNc
  go_enter Tryd.func49, Tryd.ntmps49
  go_wp2_with (at_make; refine stopD_of ?_)
  unfold StopD
  refine make_ints rfl _ _ rfl N _ _ rfl rfl HN.out HN.out (by omega) ?_
  intro w1 hown hB
  have h0 : 0 < N → w.heap.size < w1.heap.size := fun _ => by have := hown; obtain ⟨g, hg, -, h, -⟩ := own_some hown (by assumption); cases hg; exact h
  go_wp2_with fail
  go_loopw [6, 7] (fun i _ wr => ∃ (k : Nat) (M : List Nat), i = .int .i64 k ∧ k ≤ n1 ∧ wr.ownsRow w.heap.size 3 1 (.slice (some ⟨w.heap.size, 0, none⟩) N N) N (nts M) ∧ Below w.heap.size w wr ∧ Hid (MulInv l m N k 0 M)) (fun i _ _ => n1 - (intOf i).toNat)
  case atStart => exact ⟨0, _, rfl, by omega, hown, hB, Lib.hid (MulInv.start l m N)⟩
  case round =>
    clear hown hB h0
    obtain ⟨i, M, rfl, hi, hown, hB, hG⟩ := hrel
    by_cases hi1 : i < n1
    · obtain ⟨b1, o1, rfl, hb1, hlc1, hcm1, hc1⟩ := H.out.1 i (by have := HL.out; omega)
      unfold maxLen at hcm1
      have hlc1' : n1 ≤ c1 := by have := HL.out; omega
      obtain ⟨p, hp⟩ : ∃ p, l.getD i 0 = p := ⟨_, rfl⟩
      rw [hp] at hc1
      have hp9 : p ≤ 9 := by rw [← hp, ← HL.out.1]; have := getD_lt (dgs_lt x) i; omega
      have HA := Lib.hid (And.intro hp hc1)
      clear hp hc1 hlc1
      obtain ⟨wo, rfl⟩ : ∃ wo : World, wo = wr := ⟨_, rfl⟩
      go_wp2_with fail
      go_loopw [7] (fun j wr => ∃ (k : Nat) (M : List Nat), j = .int .i64 k ∧ k ≤ n2 ∧ wr.ownsRow w.heap.size 3 1 (.slice (some ⟨w.heap.size, 0, none⟩) N N) N (nts M) ∧ Below w.heap.size w wr ∧ Hid (MulInv l m N i k M)) (fun j _ => n2 - (intOf j).toNat)
      case atStart => exact ⟨0, M, rfl, by omega, hown, hB, hG⟩
      case round =>
        clear hown hB hG
        obtain ⟨k, M, rfl, hk, hown, hB, hG⟩ := hrel
        by_cases hk1 : k < n2
        · obtain ⟨b2, o2, rfl, hb2, hlc2, hcm2, hc2⟩ := H.out.2 k (by have := HL.out; omega)
          unfold maxLen at hcm2
          have hlc2' : n2 ≤ c2 := by have := HL.out; omega
          obtain ⟨q, hq⟩ : ∃ q, m.getD k 0 = q := ⟨_, rfl⟩
          rw [hq] at hc2
          have hq9 : q ≤ 9 := by rw [← hq, ← HL.out.2.1]; have := getD_lt (dgs_lt y) k; omega
          have hca := (hB.cell (p := ⟨b1, o1 + i, none⟩) hb1).trans HA.out.2
          have hcb := (hB.cell (p := ⟨b2, o2 + k, none⟩) hb2).trans hc2
          obtain ⟨e, he⟩ : ∃ e, M.getD (i + k) 0 = e := ⟨_, rfl⟩
          have hML := hG.out.1
          have he9 : e ≤ 81 * (i + 1) := by have := hG.out.2.2 (i + k); rw [he] at this; split at this <;> omega
          have hco : wo.cell? ⟨w.heap.size, i + k, none⟩ = wo.cell? ⟨w.heap.size, i + k, none⟩ := rfl
          have hcw := hown.cellAt (i + k) (by omega)
          rw [nts_get _ _ (by omega), he] at hcw
          have hfw := hown.frozenAt (i + k)
          obtain ⟨r, hr⟩ : ∃ r, p * q = r := ⟨_, rfl⟩
          have hr81 : r ≤ 81 := by rw [← hr]; exact Nat.le_trans (Nat.mul_le_mul hp9 hq9) (by decide)
          have hstep := MulInv.step hG.out (by rw [← HL.out.1]; exact dgs_lt x) (by rw [← HL.out.2.1]; exact dgs_lt y) (by omega) r (by rw [HA.out.1, hq, hr])
          rw [he] at hstep
          have HS := Lib.hid (And.intro hstep (And.intro hown hB))
          have hw1 : IntKind.i64.wrap ((i : Int) + (k : Int)) = (i : Int) + (k : Int) := IntWalk.i64_in _ (by omega)
          have hw2 : IntKind.i64.wrap ((p : Int) * (q : Int)) = (r : Int) := by
            rw [show (p : Int) * (q : Int) = (r : Int) by rw [← hr]; simp]
            exact IntWalk.i64_in _ (by omega)
          have hw3 : IntKind.i64.wrap ((e : Int) + (r : Int)) = (e : Int) + (r : Int) := IntWalk.i64_in _ (by omega)
          have hi0 : (0 : Int) ≤ (i : Int) + (k : Int) := by omega
          have hi2 : (i : Int) + (k : Int) < (N : Int) := by omega
          have hi3 : ((i : Int) + (k : Int)).toNat = i + k := by omega
          have hi4 : (i : Int) < (n1 : Int) := by omega
          have hi5 : (k : Int) < (n2 : Int) := by omega
          have hi6 : (0 : Int) ≤ (i : Int) := by omega
          have hi7 : (0 : Int) ≤ (k : Int) := by omega
          clear hr he hq hML hstep hown hB hco hc2 hlc2
          go_wp2_with fail
          go_still_tail 21, (by kernel_rfl)
          change wpList _ _ _ _ _ wr.drew
          go_wp2_with fail
          have ho := (HS.out.2.1.stored (i + k) (.int .i64 ((e : Int) + (r : Int)))).1
          have he2 : (nts M).set (i + k) (.int .i64 ((e : Int) + (r : Int))) = nts (M.set (i + k) (e + r)) := by
            rw [← nts_set]; rfl
          rw [he2] at ho
          refine ⟨⟨k + 1, M.set (i + k) (e + r), by go_num, by omega, ho.drew, (HS.out.2.2.setCell (p := ⟨w.heap.size, i + k, none⟩) (Nat.le_refl _) _).drew, Lib.hid HS.out.1⟩, by simp [intOf]; omega⟩
        · obtain rfl : k = n2 := by omega
          have hrow := MulInv.row (by have h := hG.out; rw [← HL.out.2.2.2.1] at h; exact h)
          have HR := Lib.hid hrow
          clear hrow
          go_wp2_with fail
          go_roundw
          case rel => exact ⟨i + 1, M, by go_num, by omega, hown, hB, HR⟩
          case measure => simp [intOf]; omega
    · obtain rfl : i = n1 := by omega
      have hdv : dval M = x * y := by
        obtain ⟨e1, e2, e3, e4, e5⟩ := HL.out
        obtain ⟨g1, g2, g3⟩ := hG.out
        rw [g2, List.take_of_length_le (by omega), List.take_zero, ← e1, ← e2, dval_dgs, dval_dgs]
        simp [dval]
      have hcar : CarInv (x * y) N (81 * (i + 1)) 0 0 M := by
        obtain ⟨g1, g2, g3⟩ := hG.out
        refine ⟨g1, by rw [hdv]; omega, by omega, fun j => ?_, fun j hj => by omega⟩
        have := g3 j
        split at this <;> omega
      have HC := Lib.hid hcar
      clear hdv hcar hG
      go_wp2_with fail
      go_loopw [8, 9] (fun c j wr => ∃ (q k : Nat) (M : List Nat), c = .int .i64 q ∧ j = .int .i64 k ∧ k ≤ N ∧ q ≤ 81 * (i + 1) ∧ wr.ownsRow w.heap.size 3 1 (.slice (some ⟨w.heap.size, 0, none⟩) N N) N (nts M) ∧ Below w.heap.size w wr ∧ Hid (CarInv (x * y) N (81 * (i + 1)) k q M)) (fun _ j _ => N - (intOf j).toNat)
      case atStart => exact ⟨0, 0, M, rfl, rfl, by omega, by omega, hown, hB, HC⟩
      case round =>
        clear hown hB HC
        obtain ⟨q, k, M, rfl, rfl, hk, hq, hown, hB, hG⟩ := hrel
        by_cases hkN : k < N
        · obtain ⟨e, he⟩ : ∃ e, M.getD k 0 = e := ⟨_, rfl⟩
          have he9 : e ≤ 81 * (i + 1) + 9 := by rw [← he]; exact hG.out.2.2.2.1 k
          have hML := hG.out.1
          have hcw := hown.cellAt k (by omega)
          rw [nts_get _ _ (by omega), he] at hcw
          have hfw := hown.frozenAt k
          have hstep := CarInv.step hG.out hkN (q + e) (by rw [he])
          have HS := Lib.hid (And.intro hstep (And.intro hown hB))
          clear hstep hown hB hG he hML
          go_wp2_with fail
          go_roundw
          case rel =>
            obtain ⟨s1, s2, s3⟩ := HS.out
            have ho := (s2.stored k (.int .i64 (((q : Int) + (e : Int)) % 10))).1
            have he2 : (nts M).set k (.int .i64 (((q : Int) + (e : Int)) % 10)) = nts (M.set k ((q + e) % 10)) := by
              rw [← nts_set]; rfl
            rw [he2] at ho
            exact ⟨(q + e) / 10, k + 1, M.set k ((q + e) % 10), by go_num, by go_num, by omega, s1.2.2.1, ho, s3.setCell (p := ⟨w.heap.size, k, none⟩) (Nat.le_refl _) _, Lib.hid s1⟩
          case measure => simp [intOf]; omega
        · obtain rfl : k = N := by omega
          have hf := hG.out.fin HL.out.2.2.2.2
          have hML := hG.out.1
          have HN9 : Hid (Ns wr (.slice (some ⟨w.heap.size, 0, none⟩) k k) M) := Lib.hid (by unfold Ns; rw [hML]; exact Rd.of_own hown)
          have HF := Lib.hid (And.intro hf (And.intro hML hB))
          clear hf hML hG hown hB
          go_wp2_with (go_at_call 48; refine (trim_any _ M _ HN9.out HF.out.1.1 (by have := HF.out.2.1; omega)).mono ?_; rintro e w9 ⟨v', rfl, hv', rfl⟩)
          go_ret
          refine ⟨_, rfl, ?_, HF.out.2.2⟩
          unfold Dg
          rw [← HF.out.1.2]
          exact hv'

end Go.Proofs.YtfciebajiihcfaaDoor
