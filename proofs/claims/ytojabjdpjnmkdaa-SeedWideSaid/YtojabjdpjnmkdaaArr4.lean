/- a value of [4]uint32 that comes in -/
import Derived.Test.YtojabjdpjnmkdaaBase
import Derived.ProofKit
import Derived.OpenShut
namespace Go.Proofs.Ytojabjdpjnmkdaa
open Go.ChangeShapes Go.WideShapes Go.ChangeAt Go.RowKit
set_option linter.unusedVariables false
set_option maxRecDepth 100000

theorem open_arr4 {H : Type} {enc : TypeId × Value → H} {P : Program} {w : World} {base : Nat} {spare : Nat → Bool} {held : Bool} {r : Reach} {b0 : Nat} {t e : TypeId} {k : IntKind} {v : Value} {d : DataW H} {p : List MemPlace}
    (ht : P.underlying t = some (.array 4 e)) (he : P.underlying e = some (.int k)) (hc : (P.cellsOf e, P.cellsOf t) = (1, 4)) (hval : Value.okWide P w r b0 t v) (h : DataW.Trod enc P w base spare held t v d p) :
    ∃ x0 x1 x2 x3 : Int, v = .agg #[.int k x0, .int k x1, .int k x2, .int k x3] ∧ ((Lit.int k x0).wf = true ∧ (Lit.int k x1).wf = true ∧ (Lit.int k x2).wf = true ∧ (Lit.int k x3).wf = true) := by
  simp only [Prod.mk.injEq] at hc
  simp only [Value.okWide, ht] at hval
  obtain ⟨cs, rfl, hcs, -⟩ := hval
  rw [hc.2] at hcs
  obtain ⟨fuel, hf⟩ := h
  obtain ⟨xs, m, _, _, _, hl, hel⟩ := DataW.trod_array ht hf
  rw [hc.1] at hel
  have cell : ∀ j, j < 4 → ∃ n, cs[j]? = some (.int k n) ∧ (Lit.int k n).wf = true := by
    intro j hj
    have hE := hel j hj
    rw [Nat.mul_one, List.getElem?_eq_getElem (by omega)] at hE
    obtain ⟨n, e1, _, hw⟩ := DataW.trod_int he hE
    refine ⟨n, ?_, hw⟩
    have h0 : (((Value.agg cs).cells.toList.drop j).take 1)[0]? = some (.int k n) := by rw [e1]; rfl
    simpa [Value.cells] using h0
  obtain ⟨n0, c0, h0⟩ := cell 0 (by decide)
  obtain ⟨n1, c1, h1⟩ := cell 1 (by decide)
  obtain ⟨n2, c2, h2⟩ := cell 2 (by decide)
  obtain ⟨n3, c3, h3⟩ := cell 3 (by decide)
  refine ⟨n0, n1, n2, n3, ?_, h0, h1, h2, h3⟩
  congr 1
  apply Array.ext_getElem?
  intro j
  match j with
  | 0 => exact c0
  | 1 => exact c1
  | 2 => exact c2
  | 3 => exact c3
  | j + 4 => rw [Array.getElem?_eq_none (by omega), Array.getElem?_eq_none (by simp)]

end Go.Proofs.Ytojabjdpjnmkdaa
