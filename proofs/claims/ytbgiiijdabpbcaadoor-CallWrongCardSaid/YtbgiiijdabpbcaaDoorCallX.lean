/- strings that are rejected, plain -/
import Derived.Test.YtbgiiijdabpbcaaDoorCallQ
namespace Go.Proofs.YtbgiiijdabpbcaaDoor
open Go
set_option linter.unusedVariables false

theorem join_no (b : UInt8) (hb : b ≠ 32) (r : List (List UInt8)) (h : ∀ y ∈ r, b ∉ y) : b ∉ Lib.join r [32] := by
  induction r with
  | nil => rw [Lib.join_nil]; simp
  | cons x r ih =>
    have hx := h x List.mem_cons_self
    have hr := ih (fun y hy => h y (List.mem_cons_of_mem _ hy))
    cases r with
    | nil => rw [Lib.join_one]; exact hx
    | cons y r =>
      rw [join_two]
      intro hm
      rw [List.mem_append, List.mem_cons] at hm
      rcases hm with hm | hm | hm
      · exact hx hm
      · exact hb hm
      · exact hr hm

theorem textL_no (l : List Nat) (h : ∀ c ∈ l, c < 38) : (35 : UInt8) ∉ textL l := by
  unfold textL
  rw [map_txtC l h]
  refine join_no 35 (by decide) _ (fun y hy => ?_)
  rw [List.mem_map] at hy
  obtain ⟨c, hc, rfl⟩ := hy
  exact (nm_plain c (h c hc)).2.2.2

theorem readC_char {w : List UInt8} (h : (35 : UInt8) ∈ w ∨ (32 : UInt8) ∈ w) : readC w = none := by
  refine readC_none (fun c hc e => ?_)
  have := nm_plain c hc
  rw [e] at this
  rcases h with h | h
  · exact this.2.2.2 h
  · exact this.2.2.1 h

theorem readAll_hash {w : List UInt8} (h : (35 : UInt8) ∈ w) : readAllN w = none := by
  cases hr : readAllN w with
  | none => rfl
  | some l =>
    obtain ⟨h1, h2, _⟩ := readAll_some hr
    rw [← h1] at h
    exact absurd h (textL_no l h2)

theorem readAll_gap {w : List UInt8} (hw : w ≠ []) (h : [] ∈ words w) : readAllN w = none := by
  cases hr : readAllN w with
  | none => rfl
  | some l =>
    unfold readAllN at hr
    rw [if_neg hw] at hr
    split at hr
    · cases hr
    · obtain ⟨h1, h2⟩ := readWs_some hr
      rw [h1, List.mem_map] at h
      obtain ⟨c, hc, he⟩ := h
      exact absurd he (nm_plain c (h2 c hc)).1

theorem words_end (s : List UInt8) : [] ∈ words (s ++ [32]) := by
  induction s with
  | nil => simp [words]
  | cons b s ih =>
    rw [List.cons_append]
    unfold words
    split
    · exact List.mem_cons_of_mem _ ih
    · cases hw : words (s ++ [32]) with
      | nil => exact absurd hw (words_ne _)
      | cons y r =>
        simp only []
        rw [hw] at ih
        cases r with
        | nil =>
          exfalso
          have := join_words (s ++ [32])
          rw [hw, Lib.join_one] at this
          rcases List.mem_cons.1 ih with e | e
          · rw [← e] at this; simp at this
          · cases e
        | cons z r =>
          -- the last word is empty, and it is not the first one alone
          have key : ∀ t : List UInt8, (words (t ++ [32])).getLast? = some [] := by
            intro t
            induction t with
            | nil => rfl
            | cons c t iht =>
              rw [List.cons_append]
              unfold words
              split
              · rw [List.getLast?_cons, iht]; rfl
              · cases hq : words (t ++ [32]) with
                | nil => exact absurd hq (words_ne _)
                | cons u v =>
                  rw [hq] at iht
                  simp only []
                  cases v with
                  | nil =>
                    exfalso
                    have h1 := join_words (t ++ [32])
                    rw [hq, Lib.join_one] at h1
                    simp at iht
                    rw [iht] at h1
                    simp at h1
                  | cons v1 v2 => rw [List.getLast?_cons_cons] at iht ⊢; exact iht
          have hk := key s
          rw [hw, List.getLast?_cons_cons] at hk
          exact List.mem_cons_of_mem _ (List.mem_of_getLast? hk)

theorem words_front (s : List UInt8) : [] ∈ words (32 :: s) := by
  unfold words
  rw [if_pos rfl]
  exact List.mem_cons_self

/-- what is read of a bad string -/
theorem bad_read {w : List UInt8} (h : (35 : UInt8) ∈ w ∨ ((32 : UInt8) ∈ w ∧ [] ∈ words w)) : readC w = none ∧ readAllN w = none := by
  rcases h with h | ⟨h1, h2⟩
  · exact ⟨readC_char (.inl h), readAll_hash h⟩
  · exact ⟨readC_char (.inr h1), readAll_gap (by rintro rfl; cases h1) h2⟩

end Go.Proofs.YtbgiiijdabpbcaaDoor
