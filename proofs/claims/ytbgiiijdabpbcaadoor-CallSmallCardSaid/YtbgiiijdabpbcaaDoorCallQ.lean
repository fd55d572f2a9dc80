/- words and texts of calls, plain -/
import Derived.Test.YtbgiiijdabpbcaaDoorCallP
import Derived.Lib.SplitLaws
import Derived.Lib.Join
namespace Go.Proofs.YtbgiiijdabpbcaaDoor
open Go
set_option linter.unusedVariables false

/-- the words of a string, cut at each blank -/
def words : List UInt8 → List (List UInt8)
  | [] => [[]]
  | b :: l => if b = 32 then [] :: words l else (match words l with | [] => [[b]] | w :: ws => (b :: w) :: ws)

theorem words_ne (l : List UInt8) : words l ≠ [] := by
  cases l with
  | nil => simp [words]
  | cons b l =>
    unfold words
    split
    · simp
    · split <;> simp

theorem split_words : ∀ l : List UInt8, Lib.splitK [32] 0 (Lib.count l [32]) l = words l := by
  intro l
  induction l with
  | nil => rfl
  | cons b l ih =>
    by_cases hb : b = 32
    · subst hb
      rw [Lib.count_cons_eq, Nat.add_comm]
      have hix : Lib.index (32 :: l) [32] = 0 := by rw [Lib.index]; simp [List.isPrefixOf]
      unfold Lib.splitK
      rw [hix]
      simp only [Int.reduceBEq, Bool.false_eq_true, if_false]
      unfold words
      rw [if_pos rfl]
      simp only [Int.toNat_zero, Nat.add_zero, List.take_zero, List.length_singleton, Nat.zero_add, List.drop_succ_cons, List.drop_zero]
      rw [ih]
    · rw [Lib.count_cons_ne b 32 l hb]
      have hp : ([32] : List UInt8).isPrefixOf (b :: l) = false := by simp [List.isPrefixOf, Ne.symm hb]
      have hix : Lib.index (b :: l) [32] = if Lib.index l [32] == -1 then -1 else Lib.index l [32] + 1 := by rw [Lib.index, hp]; simp
      unfold words
      rw [if_neg hb, ← ih]
      cases hk : Lib.count l [32] with
      | zero => rfl
      | succ k =>
        unfold Lib.splitK
        rw [hix]
        by_cases hm : Lib.index l [32] = -1
        · rw [hm]
          rfl
        · have hge := Lib.index_ge l [32]
          obtain ⟨j, hj⟩ : ∃ j : Nat, Lib.index l [32] = j := ⟨(Lib.index l [32]).toNat, by omega⟩
          have h1 : (Lib.index l [32] == -1) = false := by simpa using hm
          rw [h1]
          simp only [Bool.false_eq_true, if_false]
          have h2 : (Lib.index l [32] + 1 == -1) = false := by rw [beq_eq_false_iff_ne]; omega
          rw [h2]
          simp only [Bool.false_eq_true, if_false]
          rw [hj, show ((j : Int) + 1).toNat = j + 1 by omega, Int.toNat_natCast]
          simp only [List.length_singleton, Nat.add_zero, List.take_succ_cons]
          rw [show j + 1 + 1 = (j + 1) + 1 by omega, List.drop_succ_cons]

/-- the string of calls -/
def textL (l : List Nat) : List UInt8 := Lib.join (l.map txtC) [32]

theorem words_plain (w : List UInt8) (h : (32 : UInt8) ∉ w) : words w = [w] := by
  induction w with
  | nil => rfl
  | cons b w ih =>
    unfold words
    rw [if_neg (fun e => h (by rw [e]; exact List.mem_cons_self)), ih (fun hm => h (List.mem_cons_of_mem _ hm))]

theorem words_app (w r : List UInt8) (h : (32 : UInt8) ∉ w) : words (w ++ 32 :: r) = w :: words r := by
  induction w with
  | nil => rw [List.nil_append]; conv => lhs; unfold words; rw [if_pos rfl]
  | cons b w ih =>
    rw [List.cons_append]
    conv => lhs; unfold words
    rw [if_neg (fun e => h (by rw [e]; exact List.mem_cons_self)), ih (fun hm => h (List.mem_cons_of_mem _ hm))]

theorem join_two (x y : List UInt8) (r : List (List UInt8)) : Lib.join (x :: y :: r) [32] = x ++ 32 :: Lib.join (y :: r) [32] := by
  rw [Lib.join_cons, Lib.join_cons]
  simp [Lib.joinTail]

theorem words_join (x : List UInt8) (r : List (List UInt8)) (h : ∀ y ∈ x :: r, (32 : UInt8) ∉ y) : words (Lib.join (x :: r) [32]) = x :: r := by
  induction r generalizing x with
  | nil => rw [Lib.join_one, words_plain x (h x List.mem_cons_self)]
  | cons y r ih =>
    rw [join_two, words_app x _ (h x List.mem_cons_self), ih y (fun z hz => h z (List.mem_cons_of_mem _ hz))]

theorem join_words (l : List UInt8) : Lib.join (words l) [32] = l := by
  induction l with
  | nil => rfl
  | cons b l ih =>
    unfold words
    split
    · rename_i hb
      subst hb
      cases hw : words l with
      | nil => exact absurd hw (words_ne l)
      | cons y r =>
        rw [hw] at ih
        rw [join_two, ih]
        rfl
    · cases hw : words l with
      | nil => exact absurd hw (words_ne l)
      | cons y r =>
        rw [hw] at ih
        simp only []
        cases r with
        | nil => rw [Lib.join_one] at ih ⊢; rw [ih]
        | cons z r => rw [join_two] at ih ⊢; rw [List.cons_append, ih]

theorem join_len (r : List (List UInt8)) (h : ∀ y ∈ r, y.length ≤ 3) : (Lib.join r [32]).length ≤ 4 * r.length := by
  induction r with
  | nil => simp [Lib.join_nil]
  | cons x r ih =>
    have hx := h x List.mem_cons_self
    have hr := ih (fun y hy => h y (List.mem_cons_of_mem _ hy))
    cases r with
    | nil => rw [Lib.join_one]; simp; omega
    | cons y r => rw [join_two]; simp at hr ⊢; omega

theorem txtC_len (c : Nat) : (txtC c).length ≤ 3 := by
  unfold txtC
  split
  · rename_i h; exact (nm_plain c h).2.1
  · simp

theorem textL_len (l : List Nat) : (textL l).length ≤ 4 * l.length := by
  have := join_len (l.map txtC) (by intro y hy; rw [List.mem_map] at hy; obtain ⟨c, _, rfl⟩ := hy; exact txtC_len c)
  rw [List.length_map] at this
  exact this

/-- all words read -/
def readWs : List (List UInt8) → Option (List Nat)
  | [] => some []
  | w :: ws => match readC w with | none => none | some c => (match readWs ws with | none => none | some l => some (c :: l))

/-- the calls with a string -/
def readAllN (s : List UInt8) : Option (List Nat) := if s = [] then some [] else if 319 < (words s).length then none else readWs (words s)

theorem readWs_some {ws : List (List UInt8)} {l : List Nat} (h : readWs ws = some l) : ws = l.map nm ∧ (∀ c ∈ l, c < 38) := by
  induction ws generalizing l with
  | nil => cases h; exact ⟨rfl, by simp⟩
  | cons w ws ih =>
    unfold readWs at h
    split at h
    · cases h
    · rename_i c hc
      split at h
      · cases h
      · rename_i l' hl'
        cases h
        obtain ⟨h1, h2⟩ := ih hl'
        obtain ⟨c1, c2⟩ := readC_some hc
        refine ⟨by rw [List.map_cons, h1, c2], fun d hd => ?_⟩
        rcases List.mem_cons.1 hd with rfl | hd
        · exact c1
        · exact h2 d hd

theorem readWs_map (l : List Nat) (h : ∀ c ∈ l, c < 38) : readWs (l.map nm) = some l := by
  induction l with
  | nil => rfl
  | cons c l ih =>
    rw [List.map_cons]
    unfold readWs
    rw [readC_nm c (h c List.mem_cons_self), ih (fun d hd => h d (List.mem_cons_of_mem _ hd))]

theorem map_txtC (l : List Nat) (h : ∀ c ∈ l, c < 38) : l.map txtC = l.map nm := by
  apply List.map_congr_left
  intro c hc
  unfold txtC
  rw [if_pos (h c hc)]

theorem readAll_text (l : List Nat) (h : ∀ c ∈ l, c < 38) (hl : l.length ≤ 319) : readAllN (textL l) = some l := by
  unfold readAllN textL
  rw [map_txtC l h]
  cases l with
  | nil => rfl
  | cons c l =>
    have hw : words (Lib.join ((c :: l).map nm) [32]) = (c :: l).map nm := by
      rw [List.map_cons]
      refine words_join _ _ (fun y hy => ?_)
      rw [← List.map_cons, List.mem_map] at hy
      obtain ⟨d, hd, rfl⟩ := hy
      exact (nm_plain d (h d hd)).2.2.1
    have hne : Lib.join ((c :: l).map nm) [32] ≠ [] := by
      intro e
      rw [e] at hw
      have h1 : words [] = [[]] := rfl
      rw [h1, List.map_cons] at hw
      have := (nm_plain c (h c List.mem_cons_self)).1
      cases hl' : l.map nm with
      | nil => rw [hl'] at hw; exact this (List.cons.inj hw).1.symm
      | cons _ _ => rw [hl'] at hw; simp at hw
    rw [if_neg hne, hw, List.length_map, if_neg (by omega), readWs_map _ h]

theorem readAll_some {s : List UInt8} {l : List Nat} (h : readAllN s = some l) : textL l = s ∧ (∀ c ∈ l, c < 38) ∧ l.length ≤ 319 := by
  unfold readAllN at h
  split at h
  · rename_i hs
    cases h
    exact ⟨hs.symm, by simp, by simp⟩
  · split at h
    · cases h
    · rename_i hlen
      obtain ⟨h1, h2⟩ := readWs_some h
      refine ⟨?_, h2, by rw [h1, List.length_map] at hlen; omega⟩
      unfold textL
      rw [map_txtC l h2, ← h1, join_words]

end Go.Proofs.YtbgiiijdabpbcaaDoor
