/- card: Top and Low -/
import Derived.Test.YtbjehiagaikhoaaProg
import Derived.Test.YtbjehiagaikhoaaCardL
namespace Go.Proofs.Ytbjehiagaikhoaa
open Go.RowKit
attribute [local go_sem] Oper.semAt_some
set_option linter.unusedVariables false
set_option maxRecDepth 100000

theorem ofN_lt (m s : Nat) (h : m < 18446744073709551616) : ofN m s < 18446744073709551616 := by
  unfold ofN
  split
  · exact Nat.lt_of_le_of_lt Nat.and_le_left h
  · omega

/-- a card out of a list, if there is one -/
def vPick (o : Option Nat) : Value := .tuple #[.int .u8 (o.getD 0 : Nat), .bool o.isSome]

theorem vPick_none : vPick none = .tuple #[.int .u8 0, .bool false] := rfl
theorem vPick_some (c : Nat) : vPick (some c) = .tuple #[.int .u8 (c : Int), .bool true] := rfl

theorem load_u8 {w : World} {b : Nat} {v : Value} (h : Boxed w b 5 v) : (loadVar 5 ⟨b, 0, none⟩).run Try.prog w = .ok v w := by
  have hc := h.cell
  simp [go_sem, hc]
theorem load_bool {w : World} {b : Nat} {v : Value} (h : Boxed w b 4 v) : (loadVar 4 ⟨b, 0, none⟩).run Try.prog w = .ok v w := by
  have hc := h.cell
  simp [go_sem, hc]

theorem Top_any (m s : Nat) (w : World) (hm : m < 18446744073709551616) (hs : s < 256) :
    Calls Try.prog 11 #[.int .u64 (m : Int), .int .u8 (s : Int)] w fun e w' => e = .returned (vPick (downs (ofN m s) 52).head?) ∧ Below w.heap.size w w' := by
  have hof := ofN_lt m s hm
  have HOF := Lib.hid (of_any m s w hm hs)
  obtain ⟨M, hM⟩ : ∃ M, ofN m s = M := ⟨_, rfl⟩
  obtain ⟨xs, hxs⟩ : ∃ xs, downs M 52 = xs := ⟨_, rfl⟩
  have hbd : ∀ c ∈ xs, c < 52 := by rw [← hxs]; exact downs_lt M 52
  have HX := Lib.hid hxs
  have HM := Lib.hid hM
  rw [hM] at hof ⊢
  rw [hxs]
  clear hxs hM
  refine callsIn_wide.1 ((callsIn_of_wp_marks (F := Fence.wide) (n := 0) Try.func11 rfl trivial ?_ rfl))
  simp only [Try.ntmps11, List.size_toArray, List.length_cons, List.length_nil, Nat.reduceAdd, Nat.reduceSub, Array.replicate_succ, Array.replicate_zero, List.push_toArray, List.append_toArray, List.nil_append, List.cons_append]
  have hfn : ∀ f, Fence.wide.fn f := fun _ => trivial
  have hdep : Fence.wide.depth = none := rfl
  gi_wp2_with (first
    | (gi_at_call 30; refine (callsIn_wide.2 (of_any m s _ hm hs)).mono ?_; rintro e w' ⟨rfl, rfl⟩; rw [HM.out])
    | (gi_at_call 29; refine (callsIn_wide.2 (cards_any M _)).mono ?_; rintro e w' ⟨rfl, rfl⟩))
  obtain ⟨w1, hw1⟩ : ∃ w1, (w.alloc (.cells #[.int .u8 0] 5)).alloc (.cells #[.bool false] 4) = w1 := ⟨_, rfl⟩
  have hsz1 : w1.heap.size = w.heap.size + 2 := by rw [← hw1]; simp
  obtain ⟨w2, hw2⟩ : ∃ w2, w1.alloc (.cells #[.int .u64 M] 22) = w2 := ⟨_, rfl⟩
  have hsz : w2.heap.size = w.heap.size + 3 := by rw [← hw2]; simp [hsz1]
  have hba : Boxed w2 w.heap.size 5 (.int .u8 0) := by rw [← hw2, ← hw1]; exact ((Boxed.new _ _ _).alloc _).alloc _
  have hbb : Boxed w2 (w.heap.size + 1) 4 (.bool false) := by
    rw [← hw2, ← hw1]
    have := (Boxed.new (w.alloc (.cells #[.int .u8 0] 5)) 4 (.bool false)).alloc (.cells #[.int .u64 M] 22)
    simpa using this
  have hbk : Boxed w2 (w.heap.size + 2) 22 (.int .u64 (M : Int)) := by
    rw [← hw2]
    have := Boxed.new w1 22 (.int .u64 (M : Int))
    rwa [hsz1] at this
  have hbl : Below w.heap.size w w2 := by rw [← hw2, ← hw1]; exact (((Below.refl _ _).alloc (Nat.le_refl _) _).alloc (by simp) _).alloc (by simp; omega) _
  rw [hw1, hw2]
  refine' wp_rangeIter (xs := xs) (encs := encC) (gf := 47) (lb := #[.pointer (some ⟨w.heap.size + 2, 0, none⟩)]) (w0 := w2) (a₁ := _) rfl (enters_of Try.func47 (by kernel_rfl) rfl)
    (by rw [← HX.out]; exact cards_iter (w.heap.size + 2) M w2 hof hbk) (Below.refl _ _) (fun _ => rfl) ?hAb ?hKt ?hKb
    (fun pre W => pre = [] ∧ Boxed W w.heap.size 5 (.int .u8 0) ∧ Boxed W (w.heap.size + 1) 4 (.bool false) ∧ Below w.heap.size w W ∧ w.heap.size + 5 ≤ W.heap.size)
    (fun c pre W => c = .ret ∧ ∃ x : Nat, pre = [x] ∧ Boxed W w.heap.size 5 (.int .u8 x) ∧ Boxed W (w.heap.size + 1) 4 (.bool true) ∧ Below w.heap.size w W ∧ w.heap.size + 5 ≤ W.heap.size) ?hI ?hIx ?hIp ?hIxp ?h0 ?assign ?body ?done ?stop
  case assign =>
    intro l x W K hK
    simp only [encC]
    gi_wp2
    exact hK
  case hAb => exact fun A B h hs => KeepsAt.below h hs
  case hKt => exact fun h k => k.trans h
  case hKb => exact fun W o => World.putObj_heap_other (by omega)
  case hI =>
    rintro pre A B ⟨v, h1, h2, h3, h4⟩ hab
    exact ⟨v, (hab.block _ h1.lt).trans h1, (hab.block _ h2.lt).trans h2, h3.trans (hab.mono h3.size), by have := hab.size; omega⟩
  case hIx =>
    rintro c pre A B ⟨hc, x, v, h1, h2, h3, h4⟩ hab
    exact ⟨hc, x, v, (hab.block _ h1.lt).trans h1, (hab.block _ h2.lt).trans h2, h3.trans (hab.mono h3.size), by have := hab.size; omega⟩
  case hIp =>
    rintro pre W o ⟨v, h1, h2, h3, h4⟩
    exact ⟨v, (World.putObj_heap_other (by omega)).trans h1, (World.putObj_heap_other (by omega)).trans h2, Below.putObj h3 (by omega) o, by simpa using h4⟩
  case hIxp =>
    rintro c pre W o ⟨hc, x, v, h1, h2, h3, h4⟩
    exact ⟨hc, x, v, (World.putObj_heap_other (by omega)).trans h1, (World.putObj_heap_other (by omega)).trans h2, Below.putObj h3 (by omega) o, by simpa using h4⟩
  case h0 => exact fun o o' => ⟨rfl, (hba.alloc o).alloc o', (hbb.alloc o).alloc o', (hbl.alloc (by omega) o).alloc (by simp; omega) o', by simp; omega⟩
  case body =>
    rintro pre x W ⟨hpn, h1, h2, hW, hsz4⟩ hpre hlt
    subst hpn
    have hx : x < 52 := hbd x (hpre.subset (by simp))
    have c1 := h1.cell
    have f1 := h1.frozen
    have c2 := h2.cell
    have f2 := h2.frozen
    gi_wp2
    refine ⟨(KeepsAt.setCell _ (by simp; omega) _).trans (KeepsAt.setCell _ (by simp; omega) _), rfl, x, rfl, ?_, ?_, ?_, by simp; omega⟩
    · exact (Below.heap_setCell _ _ _ _ (by simp)).trans (h1.set _)
    · exact ((show Boxed _ _ _ _ from (Below.heap_setCell _ _ _ _ (by simp)).trans h2).set _)
    · exact (hW.setCell (p := ⟨w.heap.size, 0, none⟩) (Nat.le_refl _) _).setCell (p := ⟨w.heap.size + 1, 0, none⟩) (by simp) _
  case done =>
    rintro W ⟨hxn, h1, h2, hW, hsz4⟩ hK
    subst hxn
    have c1 := h1.cell
    have f1 := h1.frozen
    have c2 := h2.cell
    have f2 := h2.frozen
    gi_wp2
    have g1 : Boxed ((W.setCell ⟨w.heap.size, 0, none⟩ (.int .u8 0)).setCell ⟨w.heap.size + 1, 0, none⟩ (.bool false)) w.heap.size 5 (.int .u8 0) := (Below.heap_setCell _ _ _ _ (by simp)).trans (h1.set _)
    have g2 : Boxed ((W.setCell ⟨w.heap.size, 0, none⟩ (.int .u8 0)).setCell ⟨w.heap.size + 1, 0, none⟩ (.bool false)) (w.heap.size + 1) 4 (.bool false) := (show Boxed _ _ _ _ from (Below.heap_setCell _ _ _ _ (by simp)).trans h2).set _
    have gW := (hW.setCell (p := ⟨w.heap.size, 0, none⟩) (Nat.le_refl _) (.int .u8 0)).setCell (p := ⟨w.heap.size + 1, 0, none⟩) (by simp) (.bool false)
    have gK : ((W.setCell ⟨w.heap.size, 0, none⟩ (.int .u8 0)).setCell ⟨w.heap.size + 1, 0, none⟩ (.bool false)).heap[w2.heap.size]? = some (.deferred (some [])) := ((Below.heap_setCell _ _ _ _ (by simp; omega)).trans (Below.heap_setCell _ _ _ _ (by simp; omega))).trans hK
    refine ends_mark rfl gK (res_cc rfl rfl rfl (load_u8 ((World.putObj_heap_other (by omega)).trans g1)) (load_bool ((World.putObj_heap_other (by omega)).trans g2))) ⟨rfl, Below.putObj gW (by omega) _⟩
  case stop =>
    rintro c pre W hpre ⟨rfl, x, rfl, h1, h2, hW, hsz4⟩ hK
    have hh : xs.head? = some x := by obtain ⟨t, ht⟩ := hpre; rw [← ht]; rfl
    gi_wp2
    refine ends_mark rfl hK (res_cc rfl rfl rfl (load_u8 ((World.putObj_heap_other (by omega)).trans h1)) (load_bool ((World.putObj_heap_other (by omega)).trans h2))) ⟨?_, Below.putObj hW (by omega) _⟩
    rw [hh]
    rfl

theorem Low_any (m s : Nat) (w : World) (hm : m < 18446744073709551616) (hs : s < 256) :
    Calls Try.prog 23 #[.int .u64 (m : Int), .int .u8 (s : Int)] w fun e w' => e = .returned (vPick (downs (ofN m s) 52).getLast?) ∧ Below w.heap.size w w' := by
  have hof := ofN_lt m s hm
  have HOF := Lib.hid (of_any m s w hm hs)
  obtain ⟨M, hM⟩ : ∃ M, ofN m s = M := ⟨_, rfl⟩
  obtain ⟨xs, hxs⟩ : ∃ xs, downs M 52 = xs := ⟨_, rfl⟩
  have hbd : ∀ c ∈ xs, c < 52 := by rw [← hxs]; exact downs_lt M 52
  have HX := Lib.hid hxs
  have HM := Lib.hid hM
  rw [hM] at hof ⊢
  rw [hxs]
  clear hxs hM
  refine callsIn_wide.1 ((callsIn_of_wp_marks (F := Fence.wide) (n := 0) Try.func23 rfl trivial ?_ rfl))
  simp only [Try.ntmps23, List.size_toArray, List.length_cons, List.length_nil, Nat.reduceAdd, Nat.reduceSub, Array.replicate_succ, Array.replicate_zero, List.push_toArray, List.append_toArray, List.nil_append, List.cons_append]
  have hfn : ∀ f, Fence.wide.fn f := fun _ => trivial
  have hdep : Fence.wide.depth = none := rfl
  gi_wp2_with (first
    | (gi_at_call 30; refine (callsIn_wide.2 (of_any m s _ hm hs)).mono ?_; rintro e w' ⟨rfl, rfl⟩; rw [HM.out])
    | (gi_at_call 29; refine (callsIn_wide.2 (cards_any M _)).mono ?_; rintro e w' ⟨rfl, rfl⟩))
  obtain ⟨w1, hw1⟩ : ∃ w1, (w.alloc (.cells #[.int .u8 0] 5)).alloc (.cells #[.bool false] 4) = w1 := ⟨_, rfl⟩
  have hsz1 : w1.heap.size = w.heap.size + 2 := by rw [← hw1]; simp
  obtain ⟨w2, hw2⟩ : ∃ w2, w1.alloc (.cells #[.int .u64 M] 22) = w2 := ⟨_, rfl⟩
  have hsz : w2.heap.size = w.heap.size + 3 := by rw [← hw2]; simp [hsz1]
  have hba : Boxed w2 w.heap.size 5 (.int .u8 0) := by rw [← hw2, ← hw1]; exact ((Boxed.new _ _ _).alloc _).alloc _
  have hbb : Boxed w2 (w.heap.size + 1) 4 (.bool false) := by
    rw [← hw2, ← hw1]
    have := (Boxed.new (w.alloc (.cells #[.int .u8 0] 5)) 4 (.bool false)).alloc (.cells #[.int .u64 M] 22)
    simpa using this
  have hbk : Boxed w2 (w.heap.size + 2) 22 (.int .u64 (M : Int)) := by
    rw [← hw2]
    have := Boxed.new w1 22 (.int .u64 (M : Int))
    rwa [hsz1] at this
  have hbl : Below w.heap.size w w2 := by rw [← hw2, ← hw1]; exact (((Below.refl _ _).alloc (Nat.le_refl _) _).alloc (by simp) _).alloc (by simp; omega) _
  rw [hw1, hw2]
  refine' wp_rangeIter (xs := xs) (encs := encC) (gf := 47) (lb := #[.pointer (some ⟨w.heap.size + 2, 0, none⟩)]) (w0 := w2) (a₁ := _) rfl (enters_of Try.func47 (by kernel_rfl) rfl)
    (by rw [← HX.out]; exact cards_iter (w.heap.size + 2) M w2 hof hbk) (Below.refl _ _) (fun _ => rfl) ?hAb ?hKt ?hKb
    (fun pre W => Boxed W w.heap.size 5 (.int .u8 (pre.getLast?.getD 0 : Nat)) ∧ Boxed W (w.heap.size + 1) 4 (.bool pre.getLast?.isSome) ∧ Below w.heap.size w W ∧ w.heap.size + 5 ≤ W.heap.size)
    (fun _ _ _ => False) ?hI ?hIx ?hIp ?hIxp ?h0 ?assign ?body ?done ?stop
  case assign =>
    intro l x W K hK
    simp only [encC]
    gi_wp2
    exact hK
  case hAb => exact fun A B h hs => KeepsAt.below h hs
  case hKt => exact fun h k => k.trans h
  case hKb => exact fun W o => World.putObj_heap_other (by omega)
  case hI =>
    rintro pre A B ⟨h1, h2, h3, h4⟩ hab
    exact ⟨(hab.block _ h1.lt).trans h1, (hab.block _ h2.lt).trans h2, h3.trans (hab.mono h3.size), by have := hab.size; omega⟩
  case hIx => exact fun _ _ _ _ h _ => h
  case hIp =>
    rintro pre W o ⟨h1, h2, h3, h4⟩
    exact ⟨(World.putObj_heap_other (by omega)).trans h1, (World.putObj_heap_other (by omega)).trans h2, Below.putObj h3 (by omega) o, by simpa using h4⟩
  case hIxp => exact fun _ _ _ _ h => h
  case h0 => exact fun o o' => ⟨(hba.alloc o).alloc o', (hbb.alloc o).alloc o', (hbl.alloc (by omega) o).alloc (by simp; omega) o', by simp; omega⟩
  case body =>
    rintro pre x W ⟨h1, h2, hW, hsz4⟩ hpre hlt
    have hx : x < 52 := hbd x (hpre.subset (by simp))
    have c1 := h1.cell
    have f1 := h1.frozen
    have c2 := h2.cell
    have f2 := h2.frozen
    gi_wp2
    refine ⟨(KeepsAt.setCell _ (by simp; omega) _).trans (KeepsAt.setCell _ (by simp; omega) _), (Below.heap_setCell _ _ _ _ (by simp)).trans (Below.heap_setCell _ _ _ _ (by simp)), ?_, ?_, ?_, by simp; omega⟩
    · simpa using (show Boxed _ _ _ _ from (Below.heap_setCell _ _ _ _ (by simp)).trans (h1.set (.int .u8 x)))
    · simpa using (show Boxed _ _ _ _ from (Below.heap_setCell _ _ _ _ (by simp)).trans h2).set (.bool true)
    · exact (hW.setCell (p := ⟨w.heap.size, 0, none⟩) (Nat.le_refl _) _).setCell (p := ⟨w.heap.size + 1, 0, none⟩) (by simp) _
  case done =>
    rintro W ⟨h1, h2, hW, hsz4⟩ hK
    have c1 := h1.cell
    have f1 := h1.frozen
    have c2 := h2.cell
    have f2 := h2.frozen
    gi_wp2
    gi_quiet (fail)
    gi_wp2
    exact ends_mark rfl hK (results_tmp2 rfl _ _ _) ⟨rfl, Below.putObj (Below.drewN hW nq) (by omega) _⟩
  case stop => exact fun _ _ _ _ h => h.elim

end Go.Proofs.Ytbjehiagaikhoaa
