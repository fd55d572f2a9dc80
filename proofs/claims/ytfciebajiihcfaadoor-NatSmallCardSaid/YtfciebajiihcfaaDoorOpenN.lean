/- an argument that is a slice of numbers -/
import Derived.Test.YtfciebajiihcfaaDoorNatE
import Derived.OpenShut
import Derived.ProofKit
import Derived.HandedShaped
import Derived.Deep.Slices
namespace Go.Proofs.YtfciebajiihcfaaDoor
open Go.ChangeShapes Go.WideShapes Go.ChangeAt Go.RowKit
set_option linter.unusedVariables false
set_option maxRecDepth 100000

theorem list_of {P : Nat → Nat → Prop} (n : Nat) (h : ∀ i, i < n → ∃ x, P i x) : ∃ l : List Nat, l.length = n ∧ ∀ i, i < n → P i (l.getD i 0) := by
  induction n with
  | zero => exact ⟨[], rfl, fun i hi => by omega⟩
  | succ n ih =>
    obtain ⟨l, hl, hp⟩ := ih (fun i hi => h i (by omega))
    obtain ⟨x, hx⟩ := h n (by omega)
    refine ⟨l ++ [x], by simp [hl], fun i hi => ?_⟩
    rcases Nat.lt_or_ge i n with h1 | h1
    · have e : (l ++ [x]).getD i 0 = l.getD i 0 := by
        rw [List.getD_eq_getElem?_getD, List.getD_eq_getElem?_getD, List.getElem?_append_left (by omega)]
      rw [e]
      exact hp i h1
    · obtain rfl : i = n := by omega
      have e : (l ++ [x]).getD i 0 = x := by
        rw [List.getD_eq_getElem?_getD, List.getElem?_append_right (by omega), hl, Nat.sub_self]
        rfl
      rw [e]
      exact hx

theorem num_of_parts (x0 x1 x2 x3 : Int) (h0 : 0 ≤ x0 ∧ x0 ≤ 4294967295) (h1 : 0 ≤ x1 ∧ x1 ≤ 4294967295) (h2 : 0 ≤ x2 ∧ x2 ≤ 4294967295) (h3 : 0 ≤ x3 ∧ x3 ≤ 4294967295) :
    ∃ n : Nat, n < big ∧ dg 0 n = x0 ∧ dg 1 n = x1 ∧ dg 2 n = x2 ∧ dg 3 n = x3 := by
  refine ⟨(num4 x0 x1 x2 x3).toNat, ?_, ?_⟩
  · unfold num4 big; omega
  · have h := vN_shut x0 x1 x2 x3 (num4 x0 x1 x2 x3).toNat (by omega) (by unfold num4; omega)
    simp only [Value.agg.injEq, Array.mk.injEq, List.cons.injEq, Value.int.injEq, true_and, and_true] at h
    exact ⟨h.1.symm, h.2.1.symm, h.2.2.1.symm, h.2.2.2.symm⟩

theorem open_slice_arr4 {H : Type} {enc : TypeId × Value → H} {P : Program} {w : World} {base : Nat} {spare : Nat → Bool} {held : Bool} {r : Reach} {b0 : Nat} {t e e1 : TypeId} {v : Value} {d : DataW H} {p : List MemPlace}
    (ht : P.underlying t = some (.slice e)) (he : P.underlying e = some (.array 4 e1)) (he1 : P.underlying e1 = some (.int .u32)) (hc : (P.cellsOf e1, P.cellsOf e) = (1, 4)) (hval : Value.okWide P w r b0 t v) (h : DataW.Trod enc P w base spare held t v d p) :
    ∃ l : List Nat, Rd w.heap.size w 4 v l.length (nls l) ∧ ∀ a ∈ l, a < big := by
  simp only [Prod.mk.injEq] at hc
  obtain ⟨a, len, cap, rfl⟩ := okWide_slice ht hval
  obtain ⟨fuel, hf⟩ := h
  rcases Go.Deep.open_slice ht hf with ⟨hcs, _⟩ | ⟨x, l, c, m, n, D, Pl, hcs, _, hl, hm, hmm, _, hx⟩
  · simp [Value.cells] at hcs
    obtain ⟨rfl, rfl, rfl⟩ := hcs
    exact ⟨[], ⟨rfl, .inl ⟨rfl, _, _, rfl, fun _ => rfl⟩⟩, by simp⟩
  · simp [Value.cells] at hcs
    obtain ⟨rfl, rfl, rfl⟩ := hcs
    have hlm : len ≤ m := by rw [hmm]; split <;> omega
    have each : ∀ i, i < len → ∃ z, z < big ∧ ∀ j, j < 4 → w.cell? (x.add (i * 4 + j)) = some (.int .u32 (dg j z)) := by
      intro i hi
      obtain ⟨cs', hcs', htr⟩ := hx i (by omega)
      rw [hc.2] at hcs'
      obtain ⟨_, hlen, hat⟩ := World.cells?_some hcs'
      obtain ⟨xs, m2, _, _, _, _, hel⟩ := DataW.trod_array he htr
      rw [hc.1] at hel
      have cell : ∀ j, j < 4 → ∃ n, cs'[j]? = some (.int .u32 n) ∧ (Lit.int .u32 n).wf = true := by
        intro j hj
        have hE := hel j hj
        rw [Nat.mul_one, List.getElem?_eq_getElem (by omega)] at hE
        obtain ⟨n, e1, _, hw⟩ := DataW.trod_int he1 hE
        refine ⟨n, ?_, hw⟩
        have h0 : ((cs'.drop j).take 1)[0]? = some (.int .u32 n) := by rw [e1]; rfl
        simpa using h0
      obtain ⟨n0, c0, w0⟩ := cell 0 (by decide)
      obtain ⟨n1, c1, w1⟩ := cell 1 (by decide)
      obtain ⟨n2, c2, w2⟩ := cell 2 (by decide)
      obtain ⟨n3, c3, w3⟩ := cell 3 (by decide)
      obtain ⟨z, hz, g0, g1, g2, g3⟩ := num_of_parts n0 n1 n2 n3 (bounds_u32 w0) (bounds_u32 w1) (bounds_u32 w2) (bounds_u32 w3)
      refine ⟨z, hz, fun j hj => ?_⟩
      rw [← Go.Deep.add_add, hat j hj]
      match j, hj with
      | 0, _ => rw [c0, g0]
      | 1, _ => rw [c1, g1]
      | 2, _ => rw [c2, g2]
      | 3, _ => rw [c3, g3]
    obtain ⟨L, hL, hp⟩ := list_of len each
    have hb : ∀ a ∈ L, a < big := by
      intro a ha
      obtain ⟨i, hi, rfl⟩ := List.getElem_of_mem ha
      have := (hp i (by omega)).1
      rwa [List.getD_eq_getElem?_getD, List.getElem?_eq_getElem hi] at this
    refine ⟨L, ⟨by simp, ?_⟩, hb⟩
    rcases Nat.eq_zero_or_pos len with rfl | h0
    · exact .inl ⟨hL, _, _, rfl, fun h => by cases h⟩
    · obtain ⟨b, off, spot⟩ := x
      have hs := (hp 0 h0).2 0 (by decide)
      have hspot : spot = none := by simpa [Addr.add] using World.cell?_spot hs
      subst hspot
      refine .inr ⟨by omega, b, off, cap, by rw [hL], ?_, Nat.le_refl _, by omega, hm, ?_⟩
      · have := World.block_lt_of_cell? w _ hs
        rwa [addr_add] at this
      · intro j hj
        have hq : j / 4 < len := by omega
        have h9 := (hp (j / 4) hq).2 (j % 4) (Nat.mod_lt _ (by decide))
        rw [show j / 4 * 4 + j % 4 = j by omega, addr_add] at h9
        rw [h9]
        have h8 := nls_get L (j / 4) (j % 4) (by omega) (Nat.mod_lt _ (by decide))
        rw [show j / 4 * 4 + j % 4 = j by omega] at h8
        exact h8.symm

end Go.Proofs.YtfciebajiihcfaaDoor
