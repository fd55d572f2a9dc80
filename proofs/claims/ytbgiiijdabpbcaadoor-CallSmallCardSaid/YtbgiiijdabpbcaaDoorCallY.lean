/- a string that is read word by word, plain -/
import Derived.Test.YtbgiiijdabpbcaaDoorCallQ
namespace Go.Proofs.YtbgiiijdabpbcaaDoor
open Go
set_option linter.unusedVariables false

/-- what is left to read: the calls, the word that is begun, the rest of the string -/
def more (out : List Nat) (word rest : List UInt8) : Option (List Nat) :=
  if 319 < out.length + (words (word ++ rest)).length then none else (match readWs (words (word ++ rest)) with | none => none | some r => some (out ++ r))

theorem more_start (s : List UInt8) (h : s ≠ []) : more [] [] s = readAllN s := by
  unfold more readAllN
  rw [if_neg h, List.nil_append, List.length_nil, Nat.zero_add]
  split
  · rfl
  · cases readWs (words s) <;> rfl

theorem more_byte (out : List Nat) (word : List UInt8) (b : UInt8) (t : List UInt8) : more out word (b :: t) = more out (word ++ [b]) t := by
  unfold more
  rw [show word ++ b :: t = (word ++ [b]) ++ t by simp]

theorem readWs_cons' (w : List UInt8) (ws : List (List UInt8)) : readWs (w :: ws) = match readC w with | none => none | some c => (match readWs ws with | none => none | some l => some (c :: l)) := rfl

theorem more_bad (out : List Nat) (word t : List UInt8) (hw : (32 : UInt8) ∉ word) (h : readC word = none ∨ out.length = 319) : more out word (32 :: t) = none := by
  unfold more
  rw [words_app word t hw, List.length_cons]
  split
  · rfl
  · rcases h with h | h
    · rw [readWs_cons', h]
    · omega

theorem more_word (out : List Nat) (word t : List UInt8) (c : Nat) (hw : (32 : UInt8) ∉ word) (h : readC word = some c) : more out word (32 :: t) = more (out ++ [c]) [] t := by
  unfold more
  rw [words_app word t hw, List.length_cons, List.nil_append, List.length_append, List.length_singleton, readWs_cons', h]
  simp only []
  rw [show out.length + ((words t).length + 1) = out.length + 1 + (words t).length by omega]
  split
  · rfl
  · cases readWs (words t) <;> simp

theorem more_end_bad (out : List Nat) (word : List UInt8) (hw : (32 : UInt8) ∉ word) (h : readC word = none ∨ out.length = 319) : more out word [] = none := by
  unfold more
  rw [List.append_nil, words_plain word hw]
  split
  · rfl
  · rcases h with h | h
    · rw [readWs_cons', h]
    · rename_i h2; simp at h2; omega

theorem more_end (out : List Nat) (word : List UInt8) (c : Nat) (hw : (32 : UInt8) ∉ word) (h : readC word = some c) (hl : out.length < 319) : more out word [] = some (out ++ [c]) := by
  unfold more
  rw [List.append_nil, words_plain word hw, readWs_cons', h, if_neg (by simp; omega)]
  rfl

end Go.Proofs.YtbgiiijdabpbcaaDoor
