/- texts of numbers: read back, and their order; plain -/
import Derived.Test.YtfciebajiihcfaaDoorNatAwP
namespace Go.Proofs.YtfciebajiihcfaaDoor
open Go
set_option linter.unusedVariables false

theorem decV_append (v : Nat) (l : List UInt8) (b : UInt8) : decV v (l ++ [b]) = decV v l * 10 + (b.toNat - 48) := by
  induction l generalizing v with
  | nil => rfl
  | cons c l ih => exact ih _

theorem dgb_nat : ∀ d : Nat, d < 10 → (dgb d).toNat = 48 + d := by decide
theorem dgb_dig : ∀ d : Nat, d < 10 → isDg (dgb d) = true := by decide

theorem decV_txt (x : Nat) : decV 0 (txt x) = x := by
  induction x using Nat.strongRecOn with
  | _ x ih =>
    by_cases h : x < 10
    · rw [txt_small h]
      show 0 * 10 + ((dgb x).toNat - 48) = x
      rw [dgb_nat x h]
      omega
    · rw [txt_step (by omega), decV_append, ih (x / 10) (by omega), dgb_nat (x % 10) (by omega)]
      omega

theorem txt_dig (x : Nat) : ∀ b ∈ txt x, isDg b = true := by
  induction x using Nat.strongRecOn with
  | _ x ih =>
    by_cases h : x < 10
    · rw [txt_small h]
      intro b hb
      rw [List.mem_singleton.1 hb]
      exact dgb_dig x h
    · rw [txt_step (by omega)]
      intro b hb
      rcases List.mem_append.1 hb with hb | hb
      · exact ih (x / 10) (by omega) b hb
      · rw [List.mem_singleton.1 hb]
        exact dgb_dig (x % 10) (by omega)

theorem txt_cons (x : Nat) (h : 0 < x) : ∃ b r, txt x = b :: r ∧ b ≠ 48 := by
  induction x using Nat.strongRecOn with
  | _ x ih =>
    by_cases h10 : x < 10
    · refine ⟨dgb x, [], txt_small h10, fun e => ?_⟩
      have := dgb_nat x h10
      rw [e] at this
      change 48 = 48 + x at this
      omega
    · obtain ⟨b, r, h1, h2⟩ := ih (x / 10) (by omega) (by omega)
      exact ⟨b, r ++ [dgb (x % 10)], by rw [txt_step (by omega), h1]; rfl, h2⟩

theorem good_txt (x : Nat) : ¬ badS (txt x) := by
  rintro (h | ⟨h1, h2⟩ | h)
  · by_cases h10 : x < 10
    · rw [txt_small h10] at h; cases h
    · rw [txt_step (by omega)] at h; simp at h
  · by_cases h10 : x < 10
    · rw [txt_small h10] at h1; simp at h1
    · obtain ⟨b, r, e, hb⟩ := txt_cons x (by omega)
      rw [e] at h2
      exact hb (Option.some.inj h2)
  · exact h (txt_dig x)

/-- a text is read back -/
theorem read_txt (x : Nat) (hx : x < big) : vNRead (txt x) = .tuple #[vN x, .int .i64 0] := by
  unfold vNRead
  rw [if_neg (good_txt x), decV_txt, if_pos hx]

theorem len_step {x : Nat} (h : 10 ≤ x) : (txt x).length = (txt (x / 10)).length + 1 := by
  rw [txt_step h, List.length_append]
  rfl

theorem len_pos (x : Nat) : 1 ≤ (txt x).length := by
  by_cases h : x < 10
  · rw [txt_small h]; exact Nat.le_refl _
  · rw [len_step (by omega)]; omega

/-- a smaller number has no longer text -/
theorem len_mono (y : Nat) : ∀ x, x ≤ y → (txt x).length ≤ (txt y).length := by
  induction y using Nat.strongRecOn with
  | _ y ih =>
    intro x hx
    by_cases hy : y < 10
    · rw [txt_small hy, txt_small (by omega : x < 10)]
      exact Nat.le_refl _
    · by_cases hx10 : x < 10
      · rw [txt_small hx10]
        exact len_pos y
      · rw [len_step (by omega : 10 ≤ x), len_step (by omega : 10 ≤ y)]
        have := ih (y / 10) (by omega) (x / 10) (Nat.div_le_div_right hx)
        omega

/-- of two texts of one length, one after the other: the first place where they differ tells -/
theorem txt_first (y : Nat) : ∀ x, x < y → (txt x).length = (txt y).length → ∃ (p : List UInt8) (a b : UInt8) (r s : List UInt8), txt x = p ++ a :: r ∧ txt y = p ++ b :: s ∧ a.toNat < b.toNat := by
  induction y using Nat.strongRecOn with
  | _ y ih =>
    intro x hx hl
    by_cases hy : y < 10
    · rw [txt_small hy, txt_small (by omega : x < 10)]
      exact ⟨[], dgb x, dgb y, [], [], rfl, rfl, by rw [dgb_nat x (by omega), dgb_nat y hy]; omega⟩
    · by_cases hx10 : x < 10
      · rw [txt_small hx10, len_step (by omega : 10 ≤ y)] at hl
        have := len_pos (y / 10)
        rw [List.length_singleton] at hl
        omega
      · rw [len_step (by omega : 10 ≤ x), len_step (by omega : 10 ≤ y)] at hl
        rw [txt_step (by omega : 10 ≤ x), txt_step (by omega : 10 ≤ y)]
        rcases Nat.lt_or_ge (x / 10) (y / 10) with h | h
        · obtain ⟨p, a, b, r, s, e1, e2, hab⟩ := ih (y / 10) (by omega) (x / 10) h (by omega)
          exact ⟨p, a, b, r ++ [dgb (x % 10)], s ++ [dgb (y % 10)], by rw [e1]; simp, by rw [e2]; simp, hab⟩
        · have he : x / 10 = y / 10 := by omega
          exact ⟨txt (x / 10), dgb (x % 10), dgb (y % 10), [], [], rfl, by rw [he], by rw [dgb_nat (x % 10) (by omega), dgb_nat (y % 10) (by omega)]; omega⟩

theorem less_first (p : List UInt8) (a b : UInt8) (r s : List UInt8) (h : a.toNat < b.toNat) : Op.bytesLess (p ++ a :: r) (p ++ b :: s) = true ∧ Op.bytesLess (p ++ b :: s) (p ++ a :: r) = false := by
  induction p with
  | nil =>
    have h1 : a < b := h
    have h2 : ¬ b < a := fun e => by have : b.toNat < a.toNat := e; omega
    have h3 : (b == a) = false := by
      rw [beq_eq_false_iff_ne]
      intro e
      rw [e] at h
      omega
    refine ⟨?_, ?_⟩
    · show (decide (a < b) || (a == b && Op.bytesLess r s)) = true
      simp [h1]
    · show (decide (b < a) || (b == a && Op.bytesLess s r)) = false
      simp [h2, h3]
  | cons c p ih =>
    have h2 : ¬ c < c := fun e => by have : c.toNat < c.toNat := e; omega
    refine ⟨?_, ?_⟩
    · show (decide (c < c) || (c == c && Op.bytesLess (p ++ a :: r) (p ++ b :: s))) = true
      rw [ih.1]
      simp
    · show (decide (c < c) || (c == c && Op.bytesLess (p ++ b :: s) (p ++ a :: r))) = false
      rw [ih.2]
      simp [h2]

/-- texts of one length compare as their numbers -/
theorem less_txt {x y : Nat} (h : x < y) (hl : (txt x).length = (txt y).length) : Op.bytesLess (txt x) (txt y) = true ∧ Op.bytesLess (txt y) (txt x) = false := by
  obtain ⟨p, a, b, r, s, e1, e2, hab⟩ := txt_first y x h hl
  rw [e1, e2]
  exact less_first p a b r s hab

theorem txt_inj {x y : Nat} (h : txt x = txt y) : x = y := by
  have := decV_txt x
  rw [h, decV_txt] at this
  exact this.symm

end Go.Proofs.YtfciebajiihcfaaDoor
