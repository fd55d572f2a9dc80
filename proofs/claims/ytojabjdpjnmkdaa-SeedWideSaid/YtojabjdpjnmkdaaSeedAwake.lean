/- the examples of the chapter -/
import Derived.Test.YtojabjdpjnmkdaaSeedB
import Derived.Test.YtojabjdpjnmkdaaSeedC
import Derived.Test.YtojabjdpjnmkdaaInts
namespace Go.Proofs.Ytojabjdpjnmkdaa
open Go.RowKit
set_option linter.unusedVariables false
set_option maxRecDepth 100000

theorem awake_true (w : World) : Calls Try.prog 11 #[] w fun e w' => e = .returned (.bool true) ∧ Below w.heap.size w w' := by
  have j1 : jumpI 1 2 = 182605794 := by decide +kernel
  have j2 : jumpI 48271 (-1) = 1 := by decide +kernel
  have b1 : belowI 1 10 = (48271, 0) := by decide +kernel
  have b2 : belowI 48271 10 = (182605794, 3) := by decide +kernel
  have s1 : shuf 2 1 [7, 8, 9] = ((shuf 2 1 [7, 8, 9]).1, [9, 8, 7]) := by decide +kernel
  obtain ⟨q, hq⟩ : ∃ q, (shuf 2 1 [7, 8, 9]).1 = q := ⟨_, rfl⟩
  rw [hq] at s1
  have S1 := Lib.hid s1
  clear hq s1
  have hB : Below w.heap.size w w := Below.refl _ _
  go_enter Try.func11, Try.ntmps11
  go_wp2_with (first
    | (go_at_call 14; refine (Next_yes _ _ (by omega) (by omega)).mono ?_; rintro e w' ⟨rfl, rfl⟩)
    | (go_at_call 13; refine (Jump_any _ _ _ (by omega) (by omega) (by omega) (by omega)).mono ?_; rintro e w2 ⟨rfl, hb2⟩; replace hB := hB.trans (hb2.mono hB.size); clear hb2)
    | (go_at_call 17; refine (Below_yes _ _ _ (by omega) (by omega) (by omega) (by omega)).mono ?_; rintro e w2 ⟨rfl, hb2⟩; replace hB := hB.trans (hb2.mono hB.size); clear hb2))
  have o1 := own_lit (w := w2) 3 [7, 8, 9] (by decide)
  have r1 := Rd.of_own o1
  have h1 := hB.alloc hB.size (.cells (ints [7, 8, 9]).toArray 3)
  clear o1
  refine (Shuffle_any 1 _ _ [7, 8, 9] _ (by omega) (by omega) (by decide) r1).mono ?_
  rintro e w3 ⟨⟨v3, rfl, own3⟩, hb3⟩
  replace hB := h1.trans (hb3.mono h1.size)
  clear h1 hb3 r1
  simp only [List.length_cons, List.length_nil, Nat.reduceAdd, Nat.reduceSub, S1.out] at own3 ⊢
  obtain ⟨a3, c3, rfl⟩ := own_shape own3
  have o4 := own_lit (w := w3) 3 [9, 8, 7] (by decide)
  have r4 := Rd.of_own o4
  have r3 := (Rd.of_own own3).below ((Below.refl w3.heap.size w3).alloc (Nat.le_refl _) (.cells (ints [9, 8, 7]).toArray 3)) (Nat.le_refl _)
  have r3' := r3.mono (B' := (w3.alloc (.cells (ints [9, 8, 7]).toArray 3)).heap.size) (by simp) (Nat.le_refl _)
  have R3 := Lib.hid r3'
  have R4 := Lib.hid r4
  clear o4 own3 r3 r3' r4
  go_wp2_with (first
    | (go_at_call 28; refine (SameInts_yes _ _ [9, 8, 7] _ R3.out R4.out).mono ?_; rintro e w' ⟨rfl, ⟨k, rfl⟩⟩)
    | (go_at_call 12; refine (Of_any _ _ (by omega) (by omega)).mono ?_; rintro e w' ⟨rfl, rfl⟩))
  go_ret
  exact ⟨rfl, Below.drewN (hB.alloc hB.size _) _⟩
end Go.Proofs.Ytojabjdpjnmkdaa
