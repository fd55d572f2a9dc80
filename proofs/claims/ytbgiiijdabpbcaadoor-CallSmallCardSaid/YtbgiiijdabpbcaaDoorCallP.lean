/- the names of calls: no program in sight -/
import Derived.Lib.Strings
namespace Go.Proofs.YtbgiiijdabpbcaaDoor
set_option linter.unusedVariables false

/-- the string of a denomination -/
def den (d : Nat) : List UInt8 := [[67], [68], [72], [83], [78, 84]].getD d []
/-- the string of a call -/
def nm (c : Nat) : List UInt8 := if c = 0 then [80] else if c = 1 then [88] else if c = 2 then [88, 88] else UInt8.ofNat (48 + ((c - 3) / 5 + 1)) :: den ((c - 3) % 5)

theorem nm_inj : ∀ a, a < 38 → ∀ b, b < 38 → nm a = nm b → a = b := by decide +kernel
theorem nm_plain : ∀ a, a < 38 → nm a ≠ [] ∧ (nm a).length ≤ 3 ∧ (32 : UInt8) ∉ nm a ∧ (35 : UInt8) ∉ nm a := by decide +kernel

/-- the call with a string, among those from k on -/
def readC (l : List UInt8) : Option Nat := (List.range 38).find? fun c => nm c == l

theorem readC_nm : ∀ c, c < 38 → readC (nm c) = some c := by decide +kernel

theorem readC_some {l : List UInt8} {c : Nat} (h : readC l = some c) : c < 38 ∧ nm c = l := by
  unfold readC at h
  have h1 := List.find?_some h
  have h2 := List.mem_of_find?_eq_some h
  simp only [beq_iff_eq] at h1
  exact ⟨by simpa using h2, h1⟩

theorem readC_none {l : List UInt8} (h : ∀ c, c < 38 → nm c ≠ l) : readC l = none := by
  cases hr : readC l with
  | none => rfl
  | some c =>
    obtain ⟨h1, h2⟩ := readC_some hr
    exact absurd h2 (h c h1)

/-- bids -/
def lev (c : Nat) : Nat := (c - 3) / 5 + 1
def dnm (c : Nat) : Nat := (c - 3) % 5
def isBid (c : Nat) : Bool := decide (3 ≤ c) && decide (c < 38)

/-- the cheapest bid of a denomination over a call: what is answered, and the error -/
def cheapC (o d : Nat) : Nat := if o < 3 + d then 3 + d else 3 + d + 5 * ((o - 3 - d) / 5 + 1)
def cheapN (o d : Nat) : Nat × Nat := if 38 ≤ o then (0, 80) else if 4 < d then (0, 2) else if cheapC o d < 38 then (cheapC o d, 0) else (0, 6)

/-- by how many levels a bid is higher than the cheapest one -/
def jumpN (o b : Nat) : Nat × Nat := if isBid b = true ∧ o < 38 then (if cheapC o (dnm b) < 38 ∧ cheapC o (dnm b) ≤ b then (lev b - lev (cheapC o (dnm b)), 0) else (0, 6)) else (0, 80)

/-- the string of a number: empty if it is no call -/
def txtC (c : Nat) : List UInt8 := if c < 38 then nm c else []
def errC (c : Nat) : Nat := if c < 38 then 0 else 80

end Go.Proofs.YtbgiiijdabpbcaaDoor
