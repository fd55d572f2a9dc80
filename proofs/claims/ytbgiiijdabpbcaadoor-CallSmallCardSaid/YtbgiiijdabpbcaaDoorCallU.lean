/- call: TextAll -/
import Derived.Test.YtbgiiijdabpbcaaDoorProg
import Derived.Test.YtbgiiijdabpbcaaDoorCallT
import Derived.Test.YtbgiiijdabpbcaaDoorCallQ
namespace Go.Proofs.YtbgiiijdabpbcaaDoor
open Go.RowKit Go.Shelf
attribute [local go_sem] Oper.semAt_some
set_option linter.unusedVariables false
set_option linter.unusedSimpArgs false
set_option maxRecDepth 100000
set_option maxHeartbeats 2000000

/-- a list of strings as cells -/
def strs (l : List (List UInt8)) : List Value := l.map fun s => vS s
@[simp] theorem strs_length (l : List (List UInt8)) : (strs l).length = l.length := by simp [strs]
theorem strs_append (l m : List (List UInt8)) : strs (l ++ m) = strs l ++ strs m := by simp [strs]
theorem strs_one (l : List (List UInt8)) : ∀ u ∈ strs l, u.oneCell' = true := by
  intro u hu
  simp only [strs, List.mem_map] at hu
  obtain ⟨c, _, rfl⟩ := hu
  rfl

theorem info_str : (Tryd.prog.info? 9).map (fun i => (i.zero, i.size, i.bytes)) = some (some (.string ⟨#[]⟩), 1, 16) := by kernel_rfl

theorem load_str {w : World} {b : Nat} {v : Value} (h : Boxed w b 9 v) : (loadVar 9 ⟨b, 0, none⟩).run Tryd.prog w = .ok v w := by
  have hc := h.cell
  simp [go_sem, hc]
theorem load_err {w : World} {b : Nat} {v : Value} (h : Boxed w b 28 v) : (loadVar 28 ⟨b, 0, none⟩).run Tryd.prog w = .ok v w := by
  have hc := h.cell
  simp [go_sem, hc]

def vTextAll (l : List Nat) : Value := if 319 < l.length then .tuple #[vS [], .int .i64 5] else if l.all (fun c => decide (c < 38)) = true then .tuple #[vS (textL l), .int .i64 0] else .tuple #[vS [], .int .i64 80]

theorem txtC_empty {c : Nat} : txtC c = [] ↔ ¬ c < 38 := by
  unfold txtC
  split
  · rename_i h
    exact ⟨fun e => absurd e (nm_plain c h).1, fun e => absurd h e⟩
  · rename_i h
    exact ⟨fun _ => h, fun _ => rfl⟩

theorem TextAll_any (v : Value) (l : List Nat) (w : World) (hrd : Rd w.heap.size w 1 v l.length (bys l)) (hl : ∀ c ∈ l, c < 256) (hden : Den w) (hll : l.length ≤ 1000) :
    Calls Tryd.prog 18 #[v] w fun e w' => e = .returned (vTextAll l) ∧ Below w.heap.size w w' := by
  obtain ⟨a, c, rfl⟩ := hrd.shape
  obtain ⟨R, hR⟩ : ∃ R, vTextAll l = R := ⟨_, rfl⟩
  have HR := Lib.hid hR
  rw [hR]
  clear hR
  have HRD := Lib.hid hrd
  have HDen := Lib.hid hden
  have HL := Lib.hid hl
  have h00 := hden.2
  clear hrd hden hl
  obtain ⟨n, hn⟩ : ∃ n, l.length = n := ⟨_, rfl⟩
  have HN := Lib.hid hn
  rw [hn] at hll ⊢
  clear hn
  refine callsIn_wide.1 ((callsIn_of_wp_marks (F := Fence.wide) (n := 0) Tryd.func18 rfl trivial ?_ rfl))
  simp only [Tryd.ntmps18, List.size_toArray, List.length_cons, List.length_nil, Nat.reduceAdd, Nat.reduceSub, Array.replicate_succ, Array.replicate_zero, List.push_toArray, List.append_toArray, List.nil_append, List.cons_append]
  have hfn : ∀ f, Fence.wide.fn f := fun _ => trivial
  have hdep : Fence.wide.depth = none := rfl
  by_cases h319 : 319 < n
  · have hv : R = .tuple #[vS [], .int .i64 5] := by rw [← HR.out]; unfold vTextAll; rw [HN.out, if_pos h319]
    subst hv
    have g : (319 : Int) < (n : Int) := by omega
    gi_wp2
    obtain ⟨w2, hw2⟩ : ∃ w2, (w.alloc (.cells #[vS []] 9)).alloc (.cells #[.int .i64 5] 28) = w2 := ⟨_, rfl⟩
    have hba : Boxed w2 w.heap.size 9 (vS []) := by rw [← hw2]; exact (Boxed.new _ _ _).alloc _
    have hbb : Boxed w2 (w.heap.size + 1) 28 (.int .i64 5) := by
      rw [← hw2]
      have := Boxed.new (w.alloc (.cells #[vS []] 9)) 28 (.int .i64 5)
      simpa using this
    have hbl : Below w.heap.size w w2 := by rw [← hw2]; exact ((Below.refl _ _).alloc (Nat.le_refl _) _).alloc (by simp) _
    rw [hw2]
    exact ends_plain rfl (res_cc rfl rfl rfl (load_str hba) (load_err hbb)) ⟨rfl, hbl⟩
  · have g : ¬ ((319 : Int) < (n : Int)) := by omega
    obtain ⟨X, hX⟩ : ∃ X, l.map txtC = X := ⟨_, rfl⟩
    have hXl : X.length ≤ 319 := by rw [← hX, List.length_map, HN.out]; omega
    have HX := Lib.hid hX
    clear hX
    obtain ⟨i0, hi, hz0, hz1, hz2⟩ := info_parts info_str
    gi_wp2_with (gi_at_call 38; refine (callsIn_wide.2 (texts_any a n c _)).mono ?_; rintro e w' ⟨rfl, rfl⟩)
    obtain ⟨w1, hw1⟩ : ∃ w1, ((w.alloc (.cells #[vS []] 9)).alloc (.cells #[.int .i64 0] 28)).alloc (.cells #[.slice none 0 0] 37) = w1 := ⟨_, rfl⟩
    have hsz1 : w1.heap.size = w.heap.size + 3 := by rw [← hw1]; simp
    have hba1 : Boxed w1 w.heap.size 9 (vS []) := by rw [← hw1]; exact ((Boxed.new _ _ _).alloc _).alloc _
    have hbb1 : Boxed w1 (w.heap.size + 1) 28 (.int .i64 0) := by
      rw [← hw1]
      have := (Boxed.new (w.alloc (.cells #[vS []] 9)) 28 (.int .i64 0)).alloc (.cells #[.slice none 0 0] 37)
      simpa using this
    have hbs1 : Boxed w1 (w.heap.size + 2) 37 (.slice none 0 0) := by
      rw [← hw1]
      have := Boxed.new ((w.alloc (.cells #[vS []] 9)).alloc (.cells #[.int .i64 0] 28)) 37 (.slice none 0 0)
      simpa using this
    have hbl1 : Below w.heap.size w w1 := by rw [← hw1]; exact (((Below.refl _ _).alloc (Nat.le_refl _) _).alloc (by simp) _).alloc (by simp; omega) _
    obtain ⟨w2, hw2⟩ : ∃ w2, w1.alloc (.cells #[.slice a n c] 24) = w2 := ⟨_, rfl⟩
    have hsz : w2.heap.size = w.heap.size + 4 := by rw [← hw2]; simp [hsz1]
    have hba : Boxed w2 w.heap.size 9 (vS []) := by rw [← hw2]; exact hba1.alloc _
    have hbb : Boxed w2 (w.heap.size + 1) 28 (.int .i64 0) := by rw [← hw2]; exact hbb1.alloc _
    have hbs : Boxed w2 (w.heap.size + 2) 37 (.slice none 0 0) := by rw [← hw2]; exact hbs1.alloc _
    have hbk : Boxed w2 (w.heap.size + 3) 24 (.slice a n c) := by
      rw [← hw2]
      have := Boxed.new w1 24 (.slice a n c)
      rwa [hsz1] at this
    have hbl : Below w.heap.size w w2 := by rw [← hw2]; exact hbl1.alloc hbl1.size _
    rw [hw1, hw2]
    have hit : IterOK Tryd.prog 52 #[.pointer (some ⟨w.heap.size + 3, 0, none⟩)] encT (fun A B => Below A.heap.size A B) (fun A B => Below w.heap.size A B) X w2 := by
      rw [← HX.out]
      have h9 := HRD.out.below hbl (Nat.le_refl _)
      rw [← HN.out] at hbk
      exact texts_iter (w.heap.size + 3) w.heap.size a c l w2 h9 HL.out (HDen.out.later hbl) h00 (by omega) (by rw [HN.out]; omega) hbk
    refine' wp_rangeIter (xs := X) (encs := encT) (gf := 52) (lb := #[.pointer (some ⟨w.heap.size + 3, 0, none⟩)]) (w0 := w2) (a₁ := _) rfl (enters_of Tryd.func52 (by kernel_rfl) rfl)
      hit (Below.refl _ _) (fun _ => rfl) ?hAb ?hKt ?hKb
      (fun pre W => ∃ v, Boxed W w.heap.size 9 (vS []) ∧ Boxed W (w.heap.size + 1) 28 (.int .i64 0) ∧ Boxed W (w.heap.size + 2) 37 v ∧ W.ownsRow (w.heap.size + 6) 9 1 v pre.length (strs pre) ∧ Below w.heap.size w W ∧ w.heap.size + 6 ≤ W.heap.size ∧ (∀ s ∈ pre, s ≠ []))
      (fun c pre W => c = .ret ∧ [] ∈ pre ∧ Boxed W w.heap.size 9 (vS []) ∧ Boxed W (w.heap.size + 1) 28 (.int .i64 80) ∧ Below w.heap.size w W ∧ w.heap.size + 6 ≤ W.heap.size) ?hI ?hIx ?hIp ?hIxp ?h0 ?assign ?body ?done ?stop
    case assign =>
      intro g x W K hK
      simp only [encT]
      gi_wp2
      exact hK
    case hAb => exact fun A B h hs => KeepsAt.below h hs
    case hKt => exact fun h k => h.trans k
    case hKb => exact fun W o => Below.putObj (Below.refl _ _) (by omega) o
    case hI =>
      rintro pre A B ⟨v, h1, h2, h3, h4, h5, h6, h7⟩ hab
      exact ⟨v, (hab.block _ h1.lt).trans h1, (hab.block _ h2.lt).trans h2, (hab.block _ h3.lt).trans h3, own_below h4 hab, h5.trans (hab.mono h5.size), by have := hab.size; omega, h7⟩
    case hIx =>
      rintro c pre A B ⟨hc, hm, h1, h2, h5, h6⟩ hab
      exact ⟨hc, hm, (hab.block _ h1.lt).trans h1, (hab.block _ h2.lt).trans h2, h5.trans (hab.mono h5.size), by have := hab.size; omega⟩
    case hIp =>
      rintro pre W o ⟨v, h1, h2, h3, h4, h5, h6, h7⟩
      exact ⟨v, (World.putObj_heap_other (by omega)).trans h1, (World.putObj_heap_other (by omega)).trans h2, (World.putObj_heap_other (by omega)).trans h3, own_putObj h4 (by omega) o, Below.putObj h5 (by omega) o, by simpa using h6, h7⟩
    case hIxp =>
      rintro c pre W o ⟨hc, hm, h1, h2, h5, h6⟩
      exact ⟨hc, hm, (World.putObj_heap_other (by omega)).trans h1, (World.putObj_heap_other (by omega)).trans h2, Below.putObj h5 (by omega) o, by simpa using h6⟩
    case h0 => exact fun o o' => ⟨_, (hba.alloc o).alloc o', (hbb.alloc o).alloc o', (hbs.alloc o).alloc o', ⟨rfl, .inl ⟨rfl, rfl⟩⟩, (hbl.alloc (by omega) o).alloc (by simp; omega) o', by simp; omega, by simp⟩
    case body =>
      rintro pre x W ⟨v, h1, h2, hB, hown, hW, hsz4, hne⟩ hpre hlt
      have hpl : pre.length < 319 := by have := hpre.length_le; simp at this; omega
      have c1 := h1.cell
      have f1 := h1.frozen
      have c2 := h2.cell
      have f2 := h2.frozen
      have hc := hB.cell
      have hf := hB.frozen
      have hn0 : w.heap.size < W.heap.size := by omega
      cases x with
      | nil =>
        clear hown hne hpre
        gi_wp2
        refine ⟨(KeepsAt.setCell _ (by simp; omega) _).trans (KeepsAt.setCell _ (by simp; omega) _), rfl, by simp, ?_, ?_, ?_, by simp; omega⟩
        · exact (Below.heap_setCell _ _ _ _ (by simp)).trans (h1.set _)
        · exact ((show Boxed _ _ _ _ from (Below.heap_setCell _ _ _ _ (by simp)).trans h2).set _)
        · exact (hW.setCell (p := ⟨w.heap.size, 0, none⟩) (Nat.le_refl _) _).setCell (p := ⟨w.heap.size + 1, 0, none⟩) (by simp) _
      | cons b y =>
        obtain ⟨W', hW'⟩ : ∃ W', W.alloc (.cells #[vS (b :: y)] 9) = W' := ⟨_, rfl⟩
        have hown' : W'.ownsRow (w.heap.size + 6) 9 1 v pre.length (strs pre) := by rw [← hW']; exact own_below hown ((Below.refl _ _).alloc (Nat.le_refl _) _)
        have h1' : Boxed W' w.heap.size 9 (vS []) := by rw [← hW']; exact h1.alloc _
        have h2' : Boxed W' (w.heap.size + 1) 28 (.int .i64 0) := by rw [← hW']; exact h2.alloc _
        have hB' : Boxed W' (w.heap.size + 2) 37 v := by rw [← hW']; exact hB.alloc _
        have hbW : Below W.heap.size W W' := by rw [← hW']; exact (Below.refl _ _).alloc (Nat.le_refl _) _
        have hnew : ∀ j u, (strs [b :: y])[j]? = some u → W'.cell? ((⟨W.heap.size, 0, none⟩ : Addr).add j) = some u := by
          intro j u hu
          rw [addr_add, ← hW']
          have hr := (Row.new W 9 #[vS (b :: y)]).cell (0 + j)
          rw [hr, Nat.zero_add]
          simpa [strs] using hu
        have HO := Lib.hid (And.intro hown' (And.intro hB' (And.intro hbW (And.intro hnew (And.intro h1' h2')))))
        have hs' : W'.heap.size = W.heap.size + 1 := by rw [← hW']; simp
        have HNe := Lib.hid hne
        have hW'' := Lib.hid hW
        clear hown' hB' hbW hnew hown hpre h1' h2' hne hW
        gi_wp2_with (gi_at_builtin; refine stop_of ?_)
        unfold Stop
        try rw [hW']
        refine wpListIn_append_own _ rfl _ _ 37 rfl (w.heap.size + 6) 9 i0 (.string ⟨#[]⟩) 1 16 Tryd.underlying37 hi hz0 hz1 hz2 rfl (by decide) v pre.length (strs pre) rfl HO.out.1 ⟨W.heap.size, 0, none⟩ 1 1 (strs [b :: y]) rfl (by simp) HO.out.2.2.2.1 (strs_one [b :: y]) (by unfold maxLen; omega) (by omega) (by omega) ?_
        intro v' w3 hown1 hgrow _
        obtain ⟨q1, q2, q3, -, q5, q6⟩ := HO.out
        have hB1 : Boxed w3 (w.heap.size + 2) 37 v := (hgrow.block _ (by have := q2.lt; omega) (fun e => by have := (q1.lt _ e.symm).1; omega)).trans q2
        have h11 : Boxed w3 w.heap.size 9 (vS []) := (hgrow.block _ (by have := q5.lt; omega) (fun e => by have := (q1.lt _ e.symm).1; omega)).trans q5
        have h21 : Boxed w3 (w.heap.size + 1) 28 (.int .i64 0) := (hgrow.block _ (by have := q6.lt; omega) (fun e => by have := (q1.lt _ e.symm).1; omega)).trans q6
        have hc3 := hB1.cell
        have hf3 := hB1.frozen
        have hsz3 := hgrow.size
        obtain ⟨a', c', rfl⟩ := own_shape hown1
        have HO1 := Lib.hid hown1
        clear hown1
        gi_wp2
        have hks := KeepsAt.below q3 (n := w2.heap.size) (by omega)
        have hkg : KeepsAt w2.heap.size W' w3 := KeepsAt.grown hgrow (by omega) (fun k e => by have := (q1.lt _ e).1; omega)
        have hbw3 : Below w.heap.size W w3 := below_append (q3.mono (by omega)) hgrow q1 (by omega) (by omega)
        refine ⟨(hks.trans hkg).trans (KeepsAt.setCell _ (by simp; omega) _), hbw3.setCell (p := ⟨w.heap.size + 2, 0, none⟩) (by simp) _, _, ?_, ?_, hB1.set _, ?_, ?_, by simp; omega, ?_⟩
        · exact (Below.heap_setCell _ _ _ _ (by first | (simp; done) | (simp; omega))).trans h11
        · exact (Below.heap_setCell _ _ _ _ (by first | (simp; done) | (simp; omega))).trans h21
        · rw [strs_append, List.length_append]
          exact own_other HO1.out (by omega) _
        · exact (hW''.out.trans hbw3).setCell (p := ⟨w.heap.size + 2, 0, none⟩) (by simp) _
        · intro s hs
          rw [List.mem_append] at hs
          rcases hs with hs | hs
          · exact HNe.out s hs
          · simp at hs; rw [hs]; simp
    case done =>
      rintro W ⟨v, h1, h2, hB, hown, hW, hsz4, hne⟩ hK
      have hall : l.all (fun c => decide (c < 38)) = true := by
        rw [List.all_eq_true]
        intro d hd
        have h9 := hne (txtC d) (by rw [← HX.out]; exact List.mem_map_of_mem hd)
        rw [decide_eq_true_eq]
        exact Decidable.of_not_not (fun h => h9 (txtC_empty.2 h))
      have hv : R = .tuple #[vS (textL l), .int .i64 0] := by rw [← HR.out]; unfold vTextAll; rw [HN.out, if_neg h319, if_pos hall]
      have htx : Lib.join X [32] = textL l := by rw [← HX.out]; rfl
      have htl : (textL l).length ≤ 4 * 319 := by have := textL_len l; rw [HN.out] at this; omega
      obtain ⟨a', c', rfl⟩ := own_shape hown
      have hjoin : Calls Tryd.prog 39 #[.slice a' X.length c', .string ⟨#[32]⟩] W fun e w' => e = .returned (vS (textL l)) ∧ Below W.heap.size W w' := by
        rcases Nat.eq_zero_or_pos X.length with h0 | h0
        · have hX0 : X = [] := List.eq_nil_of_length_eq_zero h0
          rw [← htx, hX0]
          refine (Tryd.strings_Join_none a' c' ⟨#[32]⟩ W).mono fun e w' ⟨he, hw⟩ => ?_
          subst hw
          exact ⟨he, Below.refl _ _⟩
        · obtain ⟨g, rfl, -, hg, -, hn2, hn3⟩ := own_some hown h0
          have hX2 : (X.map fun s => (⟨s.toArray⟩ : ByteArray)).length = X.length := by simp
          have hX3 : (X.map fun s => (⟨s.toArray⟩ : ByteArray)).map (·.data.toList) = X := by rw [List.map_map]; simp [Function.comp_def]
          have h9 := Tryd.strings_Join g 0 c' (X.map fun s => (⟨s.toArray⟩ : ByteArray)) ⟨#[32]⟩ W (fun j x hj => by
              rw [List.getElem?_map] at hj
              have hjl : j < X.length := by
                rcases Nat.lt_or_ge j X.length with h | h
                · exact h
                · rw [List.getElem?_eq_none h] at hj; cases hj
              rw [Nat.zero_add, hown.cellAt j (by omega)]
              simp only [strs, List.getElem?_map]
              rw [List.getElem?_eq_getElem hjl] at hj ⊢
              simp only [Option.map_some, Option.some.injEq] at hj ⊢
              rw [← hj]) hg (by rw [hX2]; omega) (by rw [hX2]; exact hn2) (by rw [hX3, show (⟨#[32]⟩ : ByteArray).data.toList = [32] from rfl, htx]; omega)
          rw [hX2, hX3, show (⟨#[32]⟩ : ByteArray).data.toList = [32] from rfl, htx] at h9
          exact h9
      subst hv
      have HJ := Lib.hid hjoin
      have hc := hB.cell
      clear hjoin hown hne hall htx
      gi_wp2_with (gi_at_call 39; refine (callsIn_wide.2 HJ.out).mono ?_; rintro e w4 ⟨rfl, hb4⟩; refine stop_of ?_)
      unfold Stop
      have q1 : Boxed w4 w.heap.size 9 (vS []) := (hb4.block _ h1.lt).trans h1
      have q2 : Boxed w4 (w.heap.size + 1) 28 (.int .i64 0) := (hb4.block _ h2.lt).trans h2
      have hK4 := (hb4.block _ (Array.getElem?_eq_some_iff.1 hK).1).trans hK
      rw [hsz] at hK4
      have hW4 : Below w.heap.size w w4 := hW.trans (hb4.mono hW.size)
      have c1 := q1.cell
      have f1 := q1.frozen
      have c2 := q2.cell
      have f2 := q2.frozen
      gi_wp2
      obtain ⟨T, hT⟩ : ∃ T, textL l = T := ⟨_, rfl⟩
      rw [hT]
      have g1 : Boxed ((w4.setCell ⟨w.heap.size, 0, none⟩ (vS T)).setCell ⟨w.heap.size + 1, 0, none⟩ (.int .i64 0)) w.heap.size 9 (vS T) := (Below.heap_setCell _ _ _ _ (by simp)).trans (q1.set _)
      have g2 : Boxed ((w4.setCell ⟨w.heap.size, 0, none⟩ (vS T)).setCell ⟨w.heap.size + 1, 0, none⟩ (.int .i64 0)) (w.heap.size + 1) 28 (.int .i64 0) := (show Boxed _ _ _ _ from (Below.heap_setCell _ _ _ _ (by simp)).trans q2).set _
      have gW := (hW4.setCell (p := ⟨w.heap.size, 0, none⟩) (Nat.le_refl _) (vS T)).setCell (p := ⟨w.heap.size + 1, 0, none⟩) (by simp) (.int .i64 0)
      have gK : ((w4.setCell ⟨w.heap.size, 0, none⟩ (vS T)).setCell ⟨w.heap.size + 1, 0, none⟩ (.int .i64 0)).heap[w.heap.size + 4]? = some (.deferred (some [])) := ((Below.heap_setCell _ _ _ _ (by simp)).trans (Below.heap_setCell _ _ _ _ (by simp))).trans hK4
      exact ends_mark rfl gK (res_cc rfl rfl rfl (load_str ((World.putObj_heap_other (by omega)).trans g1)) (load_err ((World.putObj_heap_other (by omega)).trans g2))) ⟨rfl, Below.putObj gW (by omega) _⟩
    case stop =>
      rintro c pre W hpre ⟨rfl, hm, h1, h2, hW, hsz4⟩ hK
      have hv : R = .tuple #[vS [], .int .i64 80] := by
        rw [← HR.out]
        unfold vTextAll
        rw [HN.out, if_neg h319, if_neg]
        intro hall
        have hmx : [] ∈ l.map txtC := by rw [HX.out]; exact hpre.subset hm
        rw [List.mem_map] at hmx
        obtain ⟨d, hd, he⟩ := hmx
        have := List.all_eq_true.1 hall d hd
        exact txtC_empty.1 he (by simpa using this)
      subst hv
      gi_wp2
      exact ends_mark rfl hK (res_cc rfl rfl rfl (load_str ((World.putObj_heap_other (by omega)).trans h1)) (load_err ((World.putObj_heap_other (by omega)).trans h2))) ⟨rfl, Below.putObj hW (by omega) _⟩

end Go.Proofs.YtbgiiijdabpbcaaDoor
