/- the list of a set: plain facts -/
import Derived.Test.YtbjehiagaikhoaaProg
import Derived.Test.YtbjehiagaikhoaaCardC
namespace Go.Proofs.Ytbjehiagaikhoaa
set_option linter.unusedVariables false

theorem downs_of (m s : Nat) (hm : m < 4503599627370496) (hs : s < 4) (k : Nat) : downs (ofN m s) k = (downs m k).filter (fun c => decide (c / 13 = s)) := by
  induction k with
  | zero => rfl
  | succ k ih =>
    unfold downs
    rw [List.filter_append, ih, bt_of m s k hm hs]
    congr 1
    by_cases h1 : bt m k = true
    · by_cases h2 : k / 13 = s <;> simp [h1, h2]
    · simp [h1]

/-- two cards, one behind the other -/
theorem downs_next (m k i : Nat) (a b : Nat) (ha : (downs m k)[i]? = some a) (hb : (downs m k)[i + 1]? = some b) : b < a := by
  have hp := downs_sorted m k
  obtain ⟨h1, rfl⟩ := List.getElem?_eq_some_iff.1 ha
  obtain ⟨h2, rfl⟩ := List.getElem?_eq_some_iff.1 hb
  exact List.pairwise_iff_getElem.1 hp i (i + 1) h1 h2 (by omega)

theorem order_ok (a b : Nat) (h : b < a) (ha : a < 52) : ¬ (suitN a < suitN b ∨ suitN a = suitN b ∧ rankN a ≤ rankN b) := by
  unfold suitN rankN
  rw [if_pos ha, if_pos (by omega), if_pos ha, if_pos (by omega)]
  omega

end Go.Proofs.Ytbjehiagaikhoaa
