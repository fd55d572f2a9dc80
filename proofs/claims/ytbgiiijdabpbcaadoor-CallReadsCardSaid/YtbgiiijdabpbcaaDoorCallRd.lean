/- two lists of calls one after the other, plain -/
import Derived.Test.YtbgiiijdabpbcaaDoorCallQ
import Derived.Lib.Space
namespace Go.Proofs.YtbgiiijdabpbcaaDoor
open Go
set_option linter.unusedVariables false

theorem nm_bytes : ∀ a, a < 38 → ((nm a).all fun b => !Lib.isSp b && decide (b.toNat < 128)) = true := by decide +kernel

theorem nm_byte {a : Nat} (h : a < 38) {b : UInt8} (hb : b ∈ nm a) : Lib.isSp b = false ∧ b.toNat < 128 := by
  have := List.all_eq_true.1 (nm_bytes a h) b hb
  simpa using this

/-- neither end is a blank -/
def Ends (l : List UInt8) : Prop := (∃ b r, l = b :: r ∧ Lib.isSp b = false) ∧ ∃ r b, l = r ++ [b] ∧ Lib.isSp b = false

theorem trim_ends {l : List UInt8} (h : Ends l) : Lib.trimSpace l = l := by
  obtain ⟨⟨b, r, h1, hb⟩, ⟨r', b', h2, hb'⟩⟩ := h
  have e1 : l.dropWhile Lib.isSp = l := by rw [h1, List.dropWhile_cons, hb]; rfl
  unfold Lib.trimSpace
  rw [e1, h2, List.reverse_append, List.reverse_singleton, List.singleton_append, List.dropWhile_cons, hb']
  simp

theorem trim_front {l : List UInt8} (h : Ends l) : Lib.trimSpace (32 :: l) = l := by
  have e : Lib.trimSpace (32 :: l) = Lib.trimSpace l := by
    unfold Lib.trimSpace
    rw [List.dropWhile_cons]
    rfl
  rw [e, trim_ends h]

theorem trim_back {l : List UInt8} (h : Ends l) : Lib.trimSpace (l ++ [32]) = l := by
  obtain ⟨⟨b, r, h1, hb⟩, ⟨r', b', h2, hb'⟩⟩ := h
  have e1 : (l ++ [32]).dropWhile Lib.isSp = l ++ [32] := by rw [h1, List.cons_append, List.dropWhile_cons, hb]; rfl
  unfold Lib.trimSpace
  rw [e1, List.reverse_append, List.reverse_singleton, List.singleton_append, List.dropWhile_cons]
  have e2 : Lib.isSp 32 = true := rfl
  rw [e2, if_pos rfl, h2, List.reverse_append, List.reverse_singleton, List.singleton_append, List.dropWhile_cons, hb']
  simp

theorem join_app (x : List UInt8) (xs : List (List UInt8)) (y : List UInt8) (ys : List (List UInt8)) : Lib.join (x :: xs ++ y :: ys) [32] = Lib.join (x :: xs) [32] ++ 32 :: Lib.join (y :: ys) [32] := by
  induction xs generalizing x with
  | nil => show Lib.join (x :: y :: ys) [32] = _; rw [join_two, Lib.join_one]
  | cons z xs ih =>
    show Lib.join (x :: z :: (xs ++ y :: ys)) [32] = _
    rw [join_two, join_two]
    have e : z :: (xs ++ y :: ys) = z :: xs ++ y :: ys := rfl
    rw [e, ih z]
    simp

theorem textL_cons (c : Nat) (l : List Nat) : textL (c :: l) = match l with | [] => txtC c | _ :: _ => txtC c ++ 32 :: textL l := by
  cases l with
  | nil => unfold textL; rw [List.map_cons, List.map_nil, Lib.join_one]
  | cons d l => unfold textL; rw [List.map_cons, List.map_cons, join_two]

theorem textL_app (c : Nat) (l : List Nat) (d : Nat) (m : List Nat) : textL (c :: l ++ d :: m) = textL (c :: l) ++ 32 :: textL (d :: m) := by
  unfold textL
  rw [List.map_append, List.map_cons, List.map_cons, join_app]

theorem txt_nm {c : Nat} (h : c < 38) : txtC c = nm c := by unfold txtC; rw [if_pos h]

theorem nm_ends {c : Nat} (h : c < 38) : Ends (nm c) := by
  have h0 := (nm_plain c h).1
  refine ⟨?_, ?_⟩
  · cases hn : nm c with
    | nil => exact absurd hn h0
    | cons b r => exact ⟨b, r, rfl, (nm_byte h (by rw [hn]; exact List.mem_cons_self)).1⟩
  · rcases List.eq_nil_or_concat (nm c) with hn | ⟨r, b, hn⟩
    · exact absurd hn h0
    · exact ⟨r, b, by rw [hn, List.concat_eq_append], (nm_byte h (by rw [hn, List.concat_eq_append]; simp)).1⟩

theorem ends_app {a b : List UInt8} (ha : Ends a) (hb : Ends b) : Ends (a ++ 32 :: b) := by
  obtain ⟨⟨x, r, h1, hx⟩, -⟩ := ha
  obtain ⟨-, ⟨r', y, h2, hy⟩⟩ := hb
  exact ⟨⟨x, r ++ 32 :: b, by rw [h1]; rfl, hx⟩, ⟨a ++ 32 :: r', y, by rw [h2]; simp, hy⟩⟩

theorem textL_ends (c : Nat) (l : List Nat) (h : ∀ x ∈ c :: l, x < 38) : Ends (textL (c :: l)) := by
  induction l generalizing c with
  | nil => rw [textL_cons]; simp only []; rw [txt_nm (h c (by simp))]; exact nm_ends (h c (by simp))
  | cons d l ih =>
    rw [textL_cons]
    simp only []
    rw [txt_nm (h c (by simp))]
    exact ends_app (nm_ends (h c (by simp))) (ih d (fun x hx => h x (List.mem_cons_of_mem _ hx)))

theorem textL_nil : textL [] = [] := rfl

/-- THE LAW: two lists one after the other -/
theorem textL_both (x y : List Nat) (hx : ∀ c ∈ x, c < 38) (hy : ∀ c ∈ y, c < 38) : Lib.trimSpace (textL x ++ [32] ++ textL y) = textL (x ++ y) := by
  cases x with
  | nil =>
    rw [List.nil_append, textL_nil, List.nil_append]
    cases y with
    | nil => rfl
    | cons d m => exact trim_front (textL_ends d m hy)
  | cons c l =>
    cases y with
    | nil => rw [List.append_nil, textL_nil, List.append_nil]; exact trim_back (textL_ends c l hx)
    | cons d m =>
      rw [textL_app, List.append_assoc, List.singleton_append]
      exact trim_ends (ends_app (textL_ends c l hx) (textL_ends d m hy))

theorem textL_ascii (l : List Nat) (h : ∀ c ∈ l, c < 38) : ∀ b ∈ textL l, b.toNat < 128 := by
  induction l with
  | nil => intro b hb; cases hb
  | cons c l ih =>
    have hc := h c (by simp)
    intro b hb
    rw [textL_cons] at hb
    cases l with
    | nil => simp only [] at hb; rw [txt_nm hc] at hb; exact (nm_byte hc hb).2
    | cons d l =>
      simp only [] at hb
      rw [txt_nm hc, List.mem_append, List.mem_cons] at hb
      rcases hb with hb | rfl | hb
      · exact (nm_byte hc hb).2
      · decide
      · exact ih (fun x hx => h x (List.mem_cons_of_mem _ hx)) b hb

theorem textL_inj {x y : List Nat} (hx : ∀ c ∈ x, c < 38) (hy : ∀ c ∈ y, c < 38) (hxl : x.length ≤ 319) (hyl : y.length ≤ 319) : textL x = textL y ↔ x = y := by
  refine ⟨fun e => ?_, fun e => by rw [e]⟩
  have h1 := readAll_text x hx hxl
  rw [e, readAll_text y hy hyl] at h1
  exact (Option.some.inj h1).symm

end Go.Proofs.YtbgiiijdabpbcaaDoor
