/- nat: Choose -/
import Derived.Test.YtfciebajiihcfaaDoorNatG
namespace Go.Proofs.YtfciebajiihcfaaDoor
open Go.RowKit Go.Shelf
attribute [local go_sem] Oper.semAt_some
set_option linter.unusedVariables false
set_option linter.unusedSimpArgs false
set_option maxRecDepth 100000
set_option maxHeartbeats 2000000

theorem load_err {w : World} {b : Nat} {v : Value} (h : Boxed w b 32 v) : (loadVar 32 ⟨b, 0, none⟩).run Tryd.prog w = .ok v w := by
  have hc := h.cell
  simp [go_sem, hc]

theorem own_putObj {w : World} {base r : Nat} {e : TypeId} {size : Nat} {v : Value} {n : Nat} {xs : List Value} (h : w.ownsRow base e size v n xs) (hr : r < base) (o : Obj) : (w.putObj r o).ownsRow base e size v n xs := by
  refine ⟨h.1, ?_⟩
  rcases h.2 with h | ⟨g, cap, cur, rfl, hb', hg, q⟩
  · exact .inl h
  · exact .inr ⟨g, cap, cur, rfl, hb', (World.putObj_heap_other (by omega)).trans hg, q⟩

def vChoose (n k : Int) : Value := if n < 0 then .tuple #[vN 0, .int .i64 2] else if 128 < n then .tuple #[vN 0, .int .i64 5] else if k < 0 ∨ n < k then .tuple #[vN 0, .int .i64 0] else .tuple #[vN (ch n.toNat k.toNat), .int .i64 0]

abbrev z4 : Array Value := #[vU 0, vU 0, vU 0, vU 0]

theorem boxes4 (w : World) (n k : Int) : ∃ w1, (((w.alloc (.cells #[.int .i64 n] 3)).alloc (.cells #[.int .i64 k] 3)).alloc (.cells z4 28)).alloc (.cells #[.int .i64 0] 32) = w1 ∧
    Boxed w1 w.heap.size 3 (.int .i64 n) ∧ Boxed w1 (w.heap.size + 1) 3 (.int .i64 k) ∧ Row w1 (w.heap.size + 1 + 1) 28 z4 ∧ Boxed w1 (w.heap.size + 1 + 1 + 1) 32 (.int .i64 0) ∧ Below w.heap.size w w1 ∧ w1.heap.size = w.heap.size + 4 := by
  obtain ⟨a0, a1, a2, a3, hB, -⟩ := rows4 (w := w) (v0 := #[.int .i64 n]) (v1 := #[.int .i64 k]) (v2 := z4) (v3 := #[.int .i64 0]) (t0 := 3) (t1 := 3) (t2 := 28) (t3 := 32) (Below.refl _ _)
  exact ⟨_, rfl, a0, a1, a2, a3, hB, by simp⟩

theorem Choose_any (n k : Int) (w : World) (hn : -9223372036854775808 ≤ n ∧ n ≤ 9223372036854775807) (hk : -9223372036854775808 ≤ k ∧ k ≤ 9223372036854775807) :
    Calls Tryd.prog 22 #[.int .i64 n, .int .i64 k] w fun e w' => e = .returned (vChoose n k) ∧ Below w.heap.size w w' := by
  obtain ⟨R, hR⟩ : ∃ R, vChoose n k = R := ⟨_, rfl⟩
  have HR := Lib.hid hR
  rw [hR]
  clear hR
  obtain ⟨hn1, hn2⟩ := hn
  obtain ⟨hk1, hk2⟩ := hk
  refine callsIn_wide.1 ((callsIn_of_wp_marks (F := Fence.wide) (n := 0) Tryd.func22 rfl trivial ?_ rfl))
  simp only [Tryd.ntmps22, List.size_toArray, List.length_cons, List.length_nil, Nat.reduceAdd, Nat.reduceSub, Array.replicate_succ, Array.replicate_zero, List.push_toArray, List.append_toArray, List.nil_append, List.cons_append]
  have hfn : ∀ f, Fence.wide.fn f := fun _ => trivial
  have hdep : Fence.wide.depth = none := rfl
  obtain ⟨w1, hw1, b0, b1, r2, b3, hB, hs⟩ := boxes4 w n k
  have c0 := b0.cell
  have c1 := b1.cell
  have c3 := b3.cell
  have f3 := b3.frozen
  obtain ⟨d0, d1, d2, d3, e0, e1, e2, e3⟩ := row4 r2
  have hfin : ∀ (E : Int), Row ((((((w1.setCell ⟨w.heap.size + 1 + 1, 0, none⟩ (vU 0)).setCell ⟨w.heap.size + 1 + 1, 1, none⟩ (vU 0)).setCell ⟨w.heap.size + 1 + 1, 2, none⟩ (vU 0)).setCell ⟨w.heap.size + 1 + 1, 3, none⟩ (vU 0)).setCell ⟨w.heap.size + 1 + 1 + 1, 0, none⟩ (.int .i64 E))) (w.heap.size + 1 + 1) 28 z4 ∧
      Boxed ((((((w1.setCell ⟨w.heap.size + 1 + 1, 0, none⟩ (vU 0)).setCell ⟨w.heap.size + 1 + 1, 1, none⟩ (vU 0)).setCell ⟨w.heap.size + 1 + 1, 2, none⟩ (vU 0)).setCell ⟨w.heap.size + 1 + 1, 3, none⟩ (vU 0)).setCell ⟨w.heap.size + 1 + 1 + 1, 0, none⟩ (.int .i64 E))) (w.heap.size + 1 + 1 + 1) 32 (.int .i64 E) ∧
      Below w.heap.size w ((((((w1.setCell ⟨w.heap.size + 1 + 1, 0, none⟩ (vU 0)).setCell ⟨w.heap.size + 1 + 1, 1, none⟩ (vU 0)).setCell ⟨w.heap.size + 1 + 1, 2, none⟩ (vU 0)).setCell ⟨w.heap.size + 1 + 1, 3, none⟩ (vU 0)).setCell ⟨w.heap.size + 1 + 1 + 1, 0, none⟩ (.int .i64 E))) := by
    intro E
    have r3 : Row w1 (w.heap.size + 1 + 1 + 1) 32 #[.int .i64 0] := b3
    have h3 := r3.other4 (b' := w.heap.size + 1 + 1) (by omega) (vU 0) (vU 0) (vU 0) (vU 0)
    refine ⟨(r2.stored4 _ _ _ _).other (by omega) _, ?_, (Below.stored4 hB (by omega) _ _ _ _).setCell (p := ⟨w.heap.size + 1 + 1 + 1, 0, none⟩) (by show w.heap.size ≤ w.heap.size + 1 + 1 + 1; omega) _⟩
    exact (show Boxed _ (w.heap.size + 1 + 1 + 1) 32 (.int .i64 0) from h3).set _
  have HF := Lib.hid hfin
  clear hfin
  by_cases g1 : n < 0
  · have hv : R = .tuple #[vN 0, .int .i64 2] := by rw [← HR.out]; unfold vChoose; rw [if_pos g1]
    subst hv
    gi_wp2
    obtain ⟨p1, p2, p3⟩ := HF.out 2
    exact ends_plain rfl (res_cc rfl rfl rfl (load4 p1) (load_err p2)) ⟨rfl, p3⟩
  · by_cases g2 : 128 < n
    · have hv : R = .tuple #[vN 0, .int .i64 5] := by rw [← HR.out]; unfold vChoose; rw [if_neg g1, if_pos g2]
      subst hv
      gi_wp2
      obtain ⟨p1, p2, p3⟩ := HF.out 5
      exact ends_plain rfl (res_cc rfl rfl rfl (load4 p1) (load_err p2)) ⟨rfl, p3⟩
    · by_cases g3 : k < 0
      · have hv : R = .tuple #[vN 0, .int .i64 0] := by rw [← HR.out]; unfold vChoose; rw [if_neg g1, if_neg g2, if_pos (Or.inl g3)]
        subst hv
        gi_wp2
        obtain ⟨p1, p2, p3⟩ := HF.out 0
        exact ends_plain rfl (res_cc rfl rfl rfl (load4 p1) (load_err p2)) ⟨rfl, p3⟩
      · by_cases g4 : n < k
        · have hv : R = .tuple #[vN 0, .int .i64 0] := by rw [← HR.out]; unfold vChoose; rw [if_neg g1, if_neg g2, if_pos (Or.inr g4)]
          subst hv
          gi_wp2
          obtain ⟨p1, p2, p3⟩ := HF.out 0
          exact ends_plain rfl (res_cc rfl rfl rfl (load4 p1) (load_err p2)) ⟨rfl, p3⟩
        · obtain ⟨m, rfl⟩ : ∃ m : Nat, n = m := ⟨n.toNat, by omega⟩
          obtain ⟨j, rfl⟩ : ∃ j : Nat, k = j := ⟨k.toNat, by omega⟩
          obtain ⟨z, hz⟩ : ∃ z, ch m j = z := ⟨_, rfl⟩
          have hv : R = .tuple #[vN z, .int .i64 0] := by rw [← HR.out]; unfold vChoose; rw [if_neg g1, if_neg g2, if_neg (by omega), Int.toNat_natCast, Int.toNat_natCast, hz]
          subst hv
          have hzz : ch m j % big = z := by rw [Nat.mod_eq_of_lt (ch_big m j (by omega))]; exact hz
          have HZ := Lib.hid hzz
          clear hzz hz HF
          gi_wp2_with (gi_at_call 37; refine (callsIn_wide.2 (rows_any _)).mono ?_; rintro e w' ⟨rfl, rfl⟩)
          have hs4 : w1.heap.size = w.heap.size + 4 := hs
          refine' wp_rangeIterV (xs := List.range 129) (encs := encR) (E := ER) (gf := 54) (lb := #[]) (w0 := w1) (a₁ := _) rfl (enters_of Tryd.func54 (by kernel_rfl) rfl)
            (rows_iter w1) (Below.refl _ _) (fun _ _ => rfl)
            (fun pre W => Boxed W w.heap.size 3 (.int .i64 (m : Int)) ∧ Boxed W (w.heap.size + 1) 3 (.int .i64 (j : Int)) ∧ Row W (w.heap.size + 1 + 1) 28 z4 ∧ Boxed W (w.heap.size + 1 + 1 + 1) 32 (.int .i64 0) ∧ Below w.heap.size w W ∧ w.heap.size + 6 ≤ W.heap.size ∧ (∀ x ∈ pre, x ≠ m))
            (fun c pre W => c = .ret ∧ Row W (w.heap.size + 1 + 1) 28 (pN z) ∧ Boxed W (w.heap.size + 1 + 1 + 1) 32 (.int .i64 0) ∧ Below w.heap.size w W ∧ w.heap.size + 6 ≤ W.heap.size) ?hE ?hI ?hIx ?hIp ?hIxp ?h0 ?assign ?body ?done ?stop
          case assign =>
            intro g x y W K hK
            simp only [encR]
            gi_wp2
            exact hK
          case hE => exact fun x y W o h => own_putObj h (by omega) o
          case hI =>
            rintro pre A B ⟨h1, h2, h3, h4, h5, h6, h7⟩ hab
            exact ⟨(hab.block _ h1.lt).trans h1, (hab.block _ h2.lt).trans h2, h3.below hab h3.lt, (hab.block _ h4.lt).trans h4, h5.trans (hab.mono h5.size), by have := hab.size; omega, h7⟩
          case hIx =>
            rintro c pre A B ⟨hc, h3, h4, h5, h6⟩ hab
            exact ⟨hc, h3.below hab h3.lt, (hab.block _ h4.lt).trans h4, h5.trans (hab.mono h5.size), by have := hab.size; omega⟩
          case hIp =>
            rintro pre W o ⟨h1, h2, h3, h4, h5, h6, h7⟩
            exact ⟨(World.putObj_heap_other (by omega)).trans h1, (World.putObj_heap_other (by omega)).trans h2, (World.putObj_heap_other (by omega)).trans h3, (World.putObj_heap_other (by omega)).trans h4, Below.putObj h5 (by omega) o, by simpa using h6, h7⟩
          case hIxp =>
            rintro c pre W o ⟨hc, h3, h4, h5, h6⟩
            exact ⟨hc, (World.putObj_heap_other (by omega)).trans h3, (World.putObj_heap_other (by omega)).trans h4, Below.putObj h5 (by omega) o, by simpa using h6⟩
          case h0 => exact fun o o' => ⟨(b0.alloc o).alloc o', (b1.alloc o).alloc o', (r2.alloc o).alloc o', (b3.alloc o).alloc o', (hB.alloc (by omega) o).alloc (by simp; omega) o', by simp; omega, by simp⟩
          case body =>
            rintro pre x y W ⟨h1, h2, h3, h4, h5, h6, h7⟩ hpre hE hlt
            have c0 := h1.cell
            have c1 := h2.cell
            have c3 := h4.cell
            have f3 := h4.frozen
            obtain ⟨d0, d1, d2, d3, e0, e1, e2, e3⟩ := row4 h3
            by_cases hx : x = m
            · subst hx
              have hrd := Rd.of_own hE
              obtain ⟨b, off, cc, hvv, hbb, hc1, hc2, hcell⟩ := (show Rd W.heap.size W 4 y (rowL x).length (nls (rowL x)) by rw [rowL_len]; exact hrd).nat (by rw [rowL_len]; omega)
              rw [rowL_len] at hvv hc1
              subst hvv
              obtain ⟨q0, q1, q2, q3⟩ := hcell j (by rw [rowL_len]; omega) z (by rw [rowL_get x j (by omega)]; exact HZ.out) W (fun _ => rfl)
              obtain ⟨len, hlen⟩ : ∃ len, x + 1 = len := ⟨_, rfl⟩
              have hjl : j < len := by omega
              have hjl2 : (j : Int) < (len : Int) := by omega
              have hjc : j < cc := by omega
              rw [hlen]
              have HE := Lib.hid (And.intro hE hpre)
              clear hE hpre hrd hcell hlen hc1
              gi_wp2
              have r3 : Row W (w.heap.size + 1 + 1 + 1) 32 #[.int .i64 0] := h4
              have h9 := r3.other4 (b' := w.heap.size + 1 + 1) (by omega) (vU (dg 0 z)) (vU (dg 1 z)) (vU (dg 2 z)) (vU (dg 3 z))
              refine ⟨?_, rfl, (h3.stored4 _ _ _ _).other (by omega) _, ?_, (Below.stored4 h5 (by omega) _ _ _ _).setCell (p := ⟨w.heap.size + 1 + 1 + 1, 0, none⟩) (by show w.heap.size ≤ w.heap.size + 1 + 1 + 1; omega) _, by simp; omega⟩
              · exact ((((KeepsAt.setCell _ (by simp; omega) _).trans (KeepsAt.setCell _ (by simp; omega) _)).trans (KeepsAt.setCell _ (by simp; omega) _)).trans (KeepsAt.setCell _ (by simp; omega) _)).trans (KeepsAt.setCell _ (by simp; omega) _)
              · exact (show Boxed _ (w.heap.size + 1 + 1 + 1) 32 (.int .i64 0) from h9).set _
            · have hxm : (x : Int) ≠ (m : Int) := by omega
              have hxm2 : ((x : Int) == (m : Int)) = false := by rw [beq_eq_false_iff_ne]; exact hxm
              have hxm3 : decide (x = m) = false := by simpa using hx
              have HE := Lib.hid (And.intro hx (And.intro hE hpre))
              clear hE hpre hx
              gi_wp2
              refine ⟨KeepsAt.refl _ _, KeepsBut.refl _, h1, h2, h3, h4, h5, h6, ?_⟩
              intro x' hx'
              rcases List.mem_append.1 hx' with h | h
              · exact h7 x' h
              · rw [List.mem_singleton.1 h]; exact HE.out.1
          case done =>
            rintro W ⟨h1, h2, h3, h4, h5, h6, h7⟩ hK
            exact absurd rfl (h7 m (List.mem_range.2 (by omega)))
          case stop =>
            rintro c pre W hpre ⟨rfl, h3, h4, h5, h6⟩ hK
            gi_wp2
            exact ends_mark rfl hK (res_cc rfl rfl rfl (load4 (show Row _ _ _ _ from (World.putObj_heap_other (by omega)).trans h3)) (load_err ((World.putObj_heap_other (by omega)).trans h4))) ⟨rfl, Below.putObj h5 (by omega) _⟩

end Go.Proofs.YtfciebajiihcfaaDoor
