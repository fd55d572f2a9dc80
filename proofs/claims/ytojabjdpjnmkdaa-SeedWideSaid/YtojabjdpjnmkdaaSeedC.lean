/- powers, its iterator, and Jump -/
import Derived.Test.YtojabjdpjnmkdaaProg
import Derived.Test.YtojabjdpjnmkdaaSeedA
import Derived.Test.YtojabjdpjnmkdaaIter
namespace Go.Proofs.Ytojabjdpjnmkdaa
open Go.RowKit Go.Shelf
attribute [local go_sem] Oper.semAt_some
set_option linter.unusedVariables false
set_option maxRecDepth 100000

/-- what powers yields -/
def pows : Nat → Nat → Int → List Int
  | 0, _, _ => []
  | f + 1, k, p => if k = 0 then [] else (if k % 2 = 1 then [p] else []) ++ pows f (k / 2) (p * p % 2147483647)

theorem pows_zero (f : Nat) (p : Int) : pows f 0 p = [] := by cases f <;> simp [pows]
theorem pows_odd (f k : Nat) (p : Int) (h : k % 2 = 1) : pows (f + 1) k p = p :: pows f (k / 2) (p * p % 2147483647) := by
  have h0 : k ≠ 0 := by omega
  simp [pows, h0, h]
theorem pows_even (f k : Nat) (p : Int) (h0 : k ≠ 0) (h : ¬ k % 2 = 1) : pows (f + 1) k p = pows f (k / 2) (p * p % 2147483647) := by
  simp [pows, h0, h]

def encS (p : Int) : Array Value := #[.int .i64 p]

theorem powers_any (k : Int) (w : World) :
    Calls Try.prog 31 #[.int .i64 k] w fun e w' => e = .returned (.func (.func 52) #[] #[.pointer (some ⟨w.heap.size, 0, none⟩)]) ∧ w.alloc (.cells #[.int .i64 k] 3) = w' := by
  go_enter Try.func31, Try.ntmps31
  go_wp2
  go_ret
  exact ⟨rfl, rfl⟩

theorem sq_bd (p : Int) (h0 : 0 ≤ p) (h1 : p < 2147483647) : 0 ≤ p * p ∧ p * p ≤ 4611686014132420609 := by
  constructor
  · exact Int.mul_nonneg h0 h0
  · have := Int.mul_le_mul (a := p) (b := p) (c := 2147483646) (d := 2147483646) (by omega) (by omega) h0 (by omega)
    omega

theorem powers_iter (bk k0 : Nat) (w : World) (hk : k0 < 2147483648) (hb : Boxed w bk 3 (.int .i64 k0)) :
    IterOK Try.prog 52 #[.pointer (some ⟨bk, 0, none⟩)] encS (fun A B => A.grownBy B (some bk)) (fun A B => B.heap[bk]? = A.heap[bk]?) (pows 31 k0 48271) w := by
  intro l J Jx W hW hJ hJx hY h0
  have hbW : Boxed W bk 3 (.int .i64 k0) := (hW.block bk hb.lt).trans hb
  refine callsIn_of_wp Try.func52 rfl trivial ?_ rfl
  simp only [Try.ntmps52, List.size_toArray, List.length_cons, List.length_nil, Nat.reduceAdd, Nat.reduceSub, Array.replicate_succ, Array.replicate_zero, List.push_toArray, List.append_toArray, List.nil_append, List.cons_append]
  gi_wp2
  gi_loopw [3] (fun p wr => ∃ (pre : List Int) (f k : Nat) (q : Int), p = .int .i64 q ∧ 0 ≤ q ∧ q < 2147483647 ∧ pre ++ pows f k q = pows 31 k0 48271 ∧ k < 2 ^ f ∧ k < 2147483648 ∧ Boxed wr bk 3 (.int .i64 k) ∧ J pre wr)
    (fun _ wr => boxN wr bk)
  case atStart => exact ⟨[], 31, k0, 48271, rfl, by omega, by omega, rfl, hk, hk, hbW, h0⟩
  case round =>
    obtain ⟨pre, f, k, q, rfl, hq0, hq1, hpre, hkf, hk', hbx, hj⟩ := hrel
    have hc := hbx.cell
    have hfz := hbx.frozen
    obtain ⟨s0, s1⟩ := sq_bd q hq0 hq1
    by_cases hz : k = 0
    · subst hz
      rw [pows_zero, List.append_nil] at hpre
      subst hpre
      gi_wp2
      refine bodyPost_end (results_none rfl _ _ _) rfl ?_
      exact ⟨⟨_, rfl⟩, .inl hj⟩
    · have hk1 : 1 ≤ k := by omega
      obtain ⟨f', rfl⟩ : ∃ f', f = f' + 1 := by
        cases f with
        | zero => simp at hkf; omega
        | succ f => exact ⟨f, rfl⟩
      have hkf' : k / 2 < 2 ^ f' := by rw [Nat.pow_succ] at hkf; omega
      clear hkf
      by_cases ho : k % 2 = 1
      · have hbool : (((k : Int) % 2) == 1) = true := by simp; omega
        rw [pows_odd _ _ _ ho] at hpre
        obtain ⟨fn, tmps, assign, body, hy, hR⟩ := hY pre q wr hj ⟨pows f' (k / 2) (q * q % 2147483647), by rw [← hpre, List.append_assoc]; rfl⟩
        simp only [encS] at hy
        have HP := Lib.hid hpre
        clear hpre hz ho
        gi_wp2
        refine ⟨rfl, hR.mono ?_⟩
        rintro e W3 (⟨rfl, hJ3, hk3⟩ | ⟨rfl, hJx3⟩)
        · have hbx3 : Boxed W3 bk 3 (.int .i64 k) := hk3.trans hbx
          have hc3 := hbx3.cell
          have hf3 := hbx3.frozen
          gi_wp2
          go_roundw
          case rel =>
            have hs := hbx3.set (.int .i64 (k / 2 : Nat))
            refine ⟨pre ++ [q], f', k / 2, q * q % 2147483647, rfl, by omega, by omega, by rw [List.append_assoc]; exact HP.out, hkf', by omega, by simpa using hs, ?_⟩
            exact hJ _ _ _ hJ3 (grownBy_setCell' _ _ _)
          case measure =>
            rw [boxN_eq hbx, boxN_eq (hbx3.set _)]
            omega
        · gi_wp2
          refine bodyPost_ret (results_none rfl _ _ _) rfl ?_
          exact ⟨⟨_, rfl⟩, .inr ⟨pre ++ [q], ⟨pows f' (k / 2) (q * q % 2147483647), by rw [← HP.out, List.append_assoc]; rfl⟩, hJx3⟩⟩
      · have hbool : (((k : Int) % 2) == 1) = false := by simp; omega
        rw [pows_even _ _ _ hz ho] at hpre
        have HP := Lib.hid hpre
        clear hpre hz ho
        gi_wp2
        refine ⟨fun _ _ => trivial, ?_⟩
        gi_wp2
        go_roundw
        case rel =>
          have hs := hbx.set (.int .i64 (k / 2 : Nat))
          refine ⟨pre, f', k / 2, q * q % 2147483647, rfl, by omega, by omega, HP.out, hkf', by omega, by simpa using hs, ?_⟩
          exact hJ _ _ _ hj (grownBy_setCell' _ _ _)
        case measure =>
          rw [boxN_eq hbx, boxN_eq (hbx.set _)]
          omega

/-- s times all of them -/
def mulAll (s : Int) (l : List Int) : Int := l.foldl (fun s p => s * p % 2147483647) s
theorem mulAll_snoc (s : Int) (l : List Int) (p : Int) : mulAll s (l ++ [p]) = mulAll s l * p % 2147483647 := by simp [mulAll]

theorem pows_bd (f : Nat) : ∀ (k : Nat) (p : Int), 0 ≤ p → p < 2147483647 → ∀ x ∈ pows f k p, 0 ≤ x ∧ x < 2147483647 := by
  induction f with
  | zero => intro k p _ _ x hx; simp [pows] at hx
  | succ f ih =>
    intro k p h0 h1 x hx
    have hs := sq_bd p h0 h1
    have h2 : 0 ≤ p * p % 2147483647 ∧ p * p % 2147483647 < 2147483647 := by omega
    unfold pows at hx
    split at hx
    · simp at hx
    · rw [List.mem_append] at hx
      rcases hx with hx | hx
      · split at hx
        · simp at hx; subst hx; exact ⟨h0, h1⟩
        · simp at hx
      · exact ih _ _ h2.1 h2.2 x hx

theorem mulAll_bd (s : Int) (l : List Int) (h0 : 0 ≤ s) (h1 : s < 2147483647) (hl : ∀ x ∈ l, 0 ≤ x ∧ x < 2147483647) : 0 ≤ mulAll s l ∧ mulAll s l < 2147483647 := by
  induction l generalizing s with
  | nil => exact ⟨h0, h1⟩
  | cons x l ih =>
    have hx := hl x (by simp)
    exact ih (s * x % 2147483647) (by omega) (by omega) (fun y hy => hl y (by simp [hy]))

theorem Jump_bad (s k : Int) (w : World) (h : s < 1 ∨ 2147483646 < s) :
    Calls Try.prog 13 #[.int .i64 s, .int .i64 k] w fun e w' => e = .returned (.tuple #[.int .i64 0, .int .i64 2]) ∧ Below w.heap.size w w' := by
  refine callsIn_wide.1 ((callsIn_of_wp_marks (F := Fence.wide) (n := 0) Try.func13 rfl trivial ?_ rfl))
  simp only [Try.ntmps13, List.size_toArray, List.length_cons, List.length_nil, Nat.reduceAdd, Nat.reduceSub, Array.replicate_succ, Array.replicate_zero, List.push_toArray, List.append_toArray, List.nil_append, List.cons_append]
  have hfn : ∀ f, Fence.wide.fn f := fun _ => trivial
  have hdep : Fence.wide.depth = none := rfl
  gi_wp2_with (gi_at_call 15; refine (callsIn_wide.2 (Right_no _ _ h)).mono ?_; rintro e w' ⟨rfl, rfl⟩)
  refine ends_plain rfl (results_tmp2 rfl _ _ _) ⟨rfl, (Below.refl _ _).alloc (Nat.le_refl _) _⟩

/-- where k steps lead -/
def jumpI (s k : Int) : Int := mulAll s (pows 31 (k % 2147483646).toNat 48271)

theorem Jump_any (s k : Int) (w : World) (h0 : 1 ≤ s) (h1 : s ≤ 2147483646) (hk0 : -9223372036854775808 ≤ k) (hk1 : k ≤ 9223372036854775807) :
    Calls Try.prog 13 #[.int .i64 s, .int .i64 k] w fun e w' => e = .returned (.tuple #[.int .i64 (jumpI s k), .int .i64 0]) ∧ Below w.heap.size w w' := by
  obtain ⟨m, hm⟩ : ∃ m : Nat, k % 2147483646 = (m : Int) := ⟨(k % 2147483646).toNat, by omega⟩
  have hm1 : m < 2147483646 := by omega
  have hj : jumpI s k = mulAll s (pows 31 m 48271) := by unfold jumpI; rw [hm]; rfl
  rw [hj]
  have HM := Lib.hid hm
  have hbd := pows_bd 31 m 48271 (by omega) (by omega)
  obtain ⟨xs, hxs⟩ : ∃ xs, pows 31 m 48271 = xs := ⟨_, rfl⟩
  have HX := Lib.hid hxs
  rw [hxs] at hbd ⊢
  clear hm hj hxs
  refine callsIn_wide.1 ((callsIn_of_wp_marks (F := Fence.wide) (n := 0) Try.func13 rfl trivial ?_ rfl))
  simp only [Try.ntmps13, List.size_toArray, List.length_cons, List.length_nil, Nat.reduceAdd, Nat.reduceSub, Array.replicate_succ, Array.replicate_zero, List.push_toArray, List.append_toArray, List.nil_append, List.cons_append]
  have hfn : ∀ f, Fence.wide.fn f := fun _ => trivial
  have hdep : Fence.wide.depth = none := rfl
  gi_wp2_with (first
    | (gi_at_call 15; refine (callsIn_wide.2 (Right_yes _ _ h0 h1)).mono ?_; rintro e w' ⟨rfl, rfl⟩)
    | (gi_at_call 12; refine (callsIn_wide.2 (Of_any _ _ hk0 hk1)).mono ?_; rintro e w' ⟨rfl, rfl⟩; rw [HM.out])
    | (gi_at_call 31; rw [show (1 + (m : Int) - 1) = (m : Int) from by omega]; refine (callsIn_wide.2 (powers_any _ _)).mono ?_; rintro e w' ⟨rfl, rfl⟩))
  obtain ⟨w2, hw2⟩ : ∃ w2, (w.alloc (.cells #[.int .i64 s] 22)).alloc (.cells #[.int .i64 (m : Int)] 3) = w2 := ⟨_, rfl⟩
  have hsz : w2.heap.size = w.heap.size + 2 := by rw [← hw2]; simp
  have hbs : Boxed w2 w.heap.size 22 (.int .i64 s) := by rw [← hw2]; exact (Boxed.new _ _ _).alloc _
  have hbk : Boxed w2 (w.heap.size + 1) 3 (.int .i64 (m : Int)) := by
    rw [← hw2]
    have := Boxed.new (w.alloc (.cells #[.int .i64 s] 22)) 3 (.int .i64 (m : Int))
    simpa using this
  have hbl : Below w.heap.size w w2 := by rw [← hw2]; exact ((Below.refl _ _).alloc (Nat.le_refl _) _).alloc (by simp) _
  rw [hw2]
  refine wp_rangeIter (xs := xs) (encs := encS) (gf := 52) (lb := #[.pointer (some ⟨w.heap.size + 1, 0, none⟩)]) (w0 := w2) rfl (enters_of Try.func52 (by kernel_rfl) rfl)
    (by rw [← HX.out]; exact powers_iter (w.heap.size + 1) m w2 (by omega) hbk) (Below.refl _ _) (fun _ => rfl) ?hAb ?hKt ?hKb
    (fun pre W => Boxed W w.heap.size 22 (.int .i64 (mulAll s pre)) ∧ Below w.heap.size w W)
    (fun _ _ _ => False) ?hI ?hIx ?hIp ?hIxp ?h0
    (fun x => { tmps := #[.int .i64 s, .int .i64 k, .pointer (some ⟨w.heap.size, 0, none⟩), undef, .int .i64 0, .int .i64 0, .int .i64 x, .int .i64 s, .bool true, .bool false, .int .i64 k, .int .i64 (1 + (m : Int)), .int .i64 m, .func (.func 52) #[] #[.pointer (some ⟨w.heap.size + 1, 0, none⟩)], .int .i64 x, undef, undef, undef, undef, undef], defers := [] }) ?assign ?body ?done ?stop
  case hAb => exact fun A B h hs => KeepsAt.grown h hs (fun k e => by cases e; omega)
  case hKt => exact fun h k => k.trans h
  case hKb => exact fun W o => World.putObj_heap_other (by omega)
  case hI => exact fun pre A B h hab => ⟨h.1.kept hab (by intro e; simp at e), h.2.grown hab (by have := h.2.size; omega) (fun k e => by cases e; omega)⟩
  case hIx => exact fun _ _ _ _ h _ => h
  case hIp => exact fun pre W o h => ⟨(World.putObj_heap_other (by omega)).trans h.1, Below.putObj h.2 (by omega) o⟩
  case hIxp => exact fun _ _ _ _ h => h
  case h0 => exact fun o o' => ⟨(hbs.alloc o).alloc o', (hbl.alloc (by omega) o).alloc (by simp; omega) o'⟩
  case assign =>
    intro l x W K hK
    simp only [encS]
    gi_wp2
    exact hK
  case body =>
    rintro pre x W ⟨hB, hW⟩ hpre hlt
    have hx : 0 ≤ x ∧ x < 2147483647 := hbd x (hpre.subset (by simp))
    obtain ⟨x0, x1⟩ := hx
    have hmb := mulAll_bd s pre (by omega) (by omega) (fun y hy => hbd y (hpre.subset (by simp [hy])))
    obtain ⟨q, hq⟩ : ∃ q, mulAll s pre = q := ⟨_, rfl⟩
    have hsn := mulAll_snoc s pre x
    rw [hq] at hB hmb hsn
    obtain ⟨q0, q1⟩ := hmb
    have hqx : 0 ≤ q * x ∧ q * x ≤ 4611686014132420609 := by
      constructor
      · exact Int.mul_nonneg q0 x0
      · have := Int.mul_le_mul (a := q) (b := x) (c := 2147483646) (d := 2147483646) (by omega) (by omega) x0 (by omega)
        omega
    obtain ⟨z0, z1⟩ := hqx
    have HS := Lib.hid hsn
    have hc := hB.cell
    have hf := hB.frozen
    clear hsn hq hbd
    gi_wp2
    refine ⟨KeepsAt.setCell _ (by simp; omega) _, Below.heap_setCell _ _ _ _ (by simp), ?_, hW.setCell (p := ⟨w.heap.size, 0, none⟩) (Nat.le_refl _) _⟩
    rw [HS.out]
    exact hB.set _
  case done =>
    rintro W ⟨hB, hW⟩ hK
    have hc := hB.cell
    gi_wp2
    exact ends_mark rfl hK (results_tmp2 rfl _ _ _) ⟨rfl, Below.putObj hW (by omega) _⟩
  case stop => exact fun _ _ _ _ h => h.elim

end Go.Proofs.Ytojabjdpjnmkdaa
