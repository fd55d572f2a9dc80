/- decimal digits, the lowest one first: plain facts, no program in sight -/
import Derived.Test.YtfciebajiihcfaaDoorBase
namespace Go.Proofs.YtfciebajiihcfaaDoor
open Go.RowKit
set_option linter.unusedVariables false

/-- the value of digits -/
def dval : List Nat → Nat
  | [] => 0
  | d :: l => d + 10 * dval l

/-- the digits of a number -/
def dgs (n : Nat) : List Nat := if h : n = 0 then [] else n % 10 :: dgs (n / 10)
termination_by n
decreasing_by omega

theorem dgs_zero : dgs 0 = [] := by unfold dgs; simp
theorem dgs_pos {n : Nat} (h : 0 < n) : dgs n = n % 10 :: dgs (n / 10) := by
  rw [dgs, dif_neg (by omega)]

theorem dval_dgs (n : Nat) : dval (dgs n) = n := by
  induction n using Nat.strongRecOn with
  | _ n ih =>
    rcases Nat.eq_zero_or_pos n with rfl | h
    · rw [dgs_zero]; rfl
    · rw [dgs_pos h, dval, ih _ (by omega)]
      omega

theorem dgs_lt (n : Nat) : ∀ d ∈ dgs n, d < 10 := by
  induction n using Nat.strongRecOn with
  | _ n ih =>
    rcases Nat.eq_zero_or_pos n with rfl | h
    · rw [dgs_zero]; simp
    · rw [dgs_pos h]
      intro d hd
      rcases List.mem_cons.1 hd with rfl | hd
      · omega
      · exact ih _ (by omega) d hd

theorem dval_append (l m : List Nat) : dval (l ++ m) = dval l + 10 ^ l.length * dval m := by
  induction l with
  | nil => simp [dval]
  | cons d l ih =>
    simp only [List.cons_append, dval, ih, List.length_cons, Nat.pow_succ, Nat.mul_add]
    rw [Nat.mul_comm (10 ^ l.length) 10, Nat.mul_assoc]
    omega

theorem dval_snoc (l : List Nat) (d : Nat) : dval (l ++ [d]) = dval l + 10 ^ l.length * d := by
  rw [dval_append]; simp [dval]

theorem dval_lt (l : List Nat) (h : ∀ d ∈ l, d < 10) : dval l < 10 ^ l.length := by
  induction l with
  | nil => simp [dval]
  | cons d l ih =>
    have h1 := h d (by simp)
    have h2 := ih (fun x hx => h x (by simp [hx]))
    simp only [dval, List.length_cons, Nat.pow_succ]
    omega

theorem dgs_len_le {n k : Nat} (h : n < 10 ^ k) : (dgs n).length ≤ k := by
  induction k generalizing n with
  | zero =>
    have : n = 0 := by simpa using h
    subst this
    rw [dgs_zero]; simp
  | succ k ih =>
    rcases Nat.eq_zero_or_pos n with rfl | h0
    · rw [dgs_zero]; simp
    · rw [dgs_pos h0, List.length_cons]
      have := ih (n := n / 10) (by rw [Nat.pow_succ] at h; omega)
      omega

theorem dgs_lower {n : Nat} (h : 0 < n) : 10 ^ ((dgs n).length - 1) ≤ n := by
  induction n using Nat.strongRecOn with
  | _ n ih =>
    rw [dgs_pos h, List.length_cons, Nat.add_sub_cancel]
    rcases Nat.eq_zero_or_pos (n / 10) with h0 | h0
    · rw [h0, dgs_zero]; simp; omega
    · have h1 := ih _ (by omega) h0
      have h2 : 0 < (dgs (n / 10)).length := by rw [dgs_pos h0]; simp
      obtain ⟨k, hk⟩ : ∃ k, (dgs (n / 10)).length = k + 1 := ⟨_, (Nat.succ_pred_eq_of_pos h2).symm⟩
      rw [hk] at h1 ⊢
      rw [Nat.add_sub_cancel] at h1
      rw [Nat.pow_succ]
      omega

theorem dgs_upper (n : Nat) : n < 10 ^ (dgs n).length := by
  have := dval_lt (dgs n) (dgs_lt n)
  rwa [dval_dgs] at this

/-- digits with a first one that is not 0 are the digits of their value -/
theorem dgs_canon (l : List Nat) (h : ∀ d ∈ l, d < 10) (hl : l = [] ∨ 10 ^ (l.length - 1) ≤ dval l) : l = dgs (dval l) := by
  induction l with
  | nil => simp [dval, dgs_zero]
  | cons d l ih =>
    have h1 := h d (by simp)
    have hpos : 0 < dval (d :: l) := by
      rcases hl with hl | hl
      · cases hl
      · exact Nat.lt_of_lt_of_le (Nat.pow_pos (by omega)) hl
    rw [dgs_pos hpos]
    have e1 : dval (d :: l) % 10 = d := by simp only [dval]; omega
    have e2 : dval (d :: l) / 10 = dval l := by simp only [dval]; omega
    rw [e1, e2, ← ih (fun x hx => h x (by simp [hx]))]
    rcases hl with hl | hl
    · cases hl
    · rcases l with _ | ⟨d2, l⟩
      · exact .inl rfl
      · right
        simp only [List.length_cons, Nat.add_sub_cancel, dval, Nat.pow_succ] at hl ⊢
        omega

theorem dgs_canon_last (l : List Nat) (x : Nat) (h : ∀ d ∈ l ++ [x], d < 10) (hx : 0 < x) : l ++ [x] = dgs (dval (l ++ [x])) := by
  refine dgs_canon _ h (.inr ?_)
  rw [dval_snoc, List.length_append, List.length_singleton, Nat.add_sub_cancel]
  have : 10 ^ l.length * 1 ≤ 10 ^ l.length * x := Nat.mul_le_mul_left _ hx
  omega

theorem take_snoc {l : List Nat} {k : Nat} (h : k < l.length) : l.take (k + 1) = l.take k ++ [l.getD k 0] := by
  rw [List.take_succ_eq_append_getElem h]
  simp [List.getElem?_eq_getElem h]

theorem dval_take_succ {l : List Nat} {k : Nat} (h : k < l.length) : dval (l.take (k + 1)) = dval (l.take k) + 10 ^ k * l.getD k 0 := by
  rw [take_snoc h, dval_snoc, List.length_take, Nat.min_eq_left (by omega)]

theorem drop_cons {l : List Nat} {k : Nat} (h : k < l.length) : l.drop k = l.getD k 0 :: l.drop (k + 1) := by
  rw [List.drop_eq_getElem_cons h]
  simp [List.getElem?_eq_getElem h]

theorem dval_drop {l : List Nat} {k : Nat} (h : k < l.length) : dval (l.drop k) = l.getD k 0 + 10 * dval (l.drop (k + 1)) := by
  rw [drop_cons h, dval]

theorem getD_lt {l : List Nat} (h : ∀ d ∈ l, d < 10) (k : Nat) : l.getD k 0 < 10 := by
  rw [List.getD_eq_getElem?_getD]
  rcases Nat.lt_or_ge k l.length with hk | hk
  · rw [List.getElem?_eq_getElem hk]; exact h _ (List.getElem_mem hk)
  · rw [List.getElem?_eq_none hk]; simp

/-- the order of numbers of as many digits -/
theorem dval_order (l m : List Nat) (hl : ∀ d ∈ l, d < 10) (hm : ∀ d ∈ m, d < 10) (hlen : l.length = m.length) (i : Nat) (hi : i < l.length) (htop : l.drop (i + 1) = m.drop (i + 1)) (hlt : l.getD i 0 < m.getD i 0) : dval l < dval m := by
  have e1 : dval l = dval (l.take (i + 1)) + 10 ^ (i + 1) * dval (l.drop (i + 1)) := by
    conv => lhs; rw [← List.take_append_drop (i + 1) l]
    rw [dval_append, List.length_take, Nat.min_eq_left (by omega)]
  have e2 : dval m = dval (m.take (i + 1)) + 10 ^ (i + 1) * dval (m.drop (i + 1)) := by
    conv => lhs; rw [← List.take_append_drop (i + 1) m]
    rw [dval_append, List.length_take, Nat.min_eq_left (by omega)]
  rw [e1, e2, htop, dval_take_succ hi, dval_take_succ (by omega)]
  have h1 := dval_lt (l.take i) (fun d hd => hl d (List.mem_of_mem_take hd))
  rw [List.length_take, Nat.min_eq_left (by omega)] at h1
  have h2 : 10 ^ i * (l.getD i 0 + 1) ≤ 10 ^ i * m.getD i 0 := Nat.mul_le_mul_left _ hlt
  rw [Nat.mul_add, Nat.mul_one] at h2
  omega

theorem dgs_len_lt {x y : Nat} (h : (dgs x).length < (dgs y).length) : x < y := by
  have h1 := dgs_upper x
  have hy : 0 < y := by
    rcases Nat.eq_zero_or_pos y with rfl | h0
    · rw [dgs_zero] at h; simp at h
    · exact h0
  have h2 := dgs_lower hy
  have h3 : 10 ^ (dgs x).length ≤ 10 ^ ((dgs y).length - 1) := Nat.pow_le_pow_right (by omega) (by omega)
  omega

theorem dgs_len_mono {x y : Nat} (h : x ≤ y) : (dgs x).length ≤ (dgs y).length := by
  rcases Nat.lt_or_ge (dgs y).length (dgs x).length with h1 | h1
  · have := dgs_len_lt h1; omega
  · exact h1

theorem dgs_inj {x y : Nat} (h : dgs x = dgs y) : x = y := by rw [← dval_dgs x, h, dval_dgs]

/-- cells of digits -/
def nts (l : List Nat) : List Value := l.map fun (d : Nat) => .int .i64 (d : Int)
@[simp] theorem nts_length (l : List Nat) : (nts l).length = l.length := by simp [nts]
theorem nts_get (l : List Nat) (i : Nat) (h : i < l.length) : (nts l)[i]? = some (.int .i64 ((l.getD i 0 : Nat) : Int)) := by
  simp [nts, List.getElem?_eq_getElem h, List.getD]
theorem nts_append (l m : List Nat) : nts (l ++ m) = nts l ++ nts m := by simp [nts]
theorem nts_set (l : List Nat) (i x : Nat) : (nts l).set i (.int .i64 (x : Int)) = nts (l.set i x) := by simp [nts, List.map_set]
theorem nts_one (l : List Nat) : ∀ u ∈ nts l, u.oneCell' = true := by
  intro u hu
  simp only [nts, List.mem_map] at hu
  obtain ⟨x, _, rfl⟩ := hu
  rfl

/-- v reads as the digits l -/
def Ns (w : World) (v : Value) (l : List Nat) : Prop := Rd w.heap.size w 1 v l.length (nts l)
/-- v reads as the number n -/
def Dg (w : World) (v : Value) (n : Nat) : Prop := Ns w v (dgs n)
theorem Ns.later {w w' : World} {v : Value} {l : List Nat} (h : Ns w v l) (hb : Below w.heap.size w w') : Ns w' v l := Rd.later h hb (Nat.le_refl _)
theorem Dg.later {w w' : World} {v : Value} {n : Nat} (h : Dg w v n) (hb : Below w.heap.size w w') : Dg w' v n := Ns.later h hb

def SomeN (B : Nat) (W : World) (l : List Nat) (e : Ending) (w' : World) : Prop := ∃ v, e = .returned v ∧ Ns w' v l ∧ Below B W w'
def SomeD (W : World) (n : Nat) (e : Ending) (w' : World) : Prop := ∃ v, e = .returned v ∧ Dg w' v n ∧ Below W.heap.size W w'

/-- the readings of a list, as a walk wants them -/
theorem Ns.open {w : World} {v : Value} {l : List Nat} (h : Ns w v l) (hn : 0 < l.length) :
    ∃ b off c, v = .slice (some ⟨b, off, none⟩) l.length c ∧ b < w.heap.size ∧ l.length ≤ c ∧ c ≤ maxLen ∧ ∀ j, j < l.length → w.cell? ⟨b, off + j, none⟩ = some (.int .i64 ((l.getD j 0 : Nat) : Int)) := by
  obtain ⟨b, off, c, rfl, hb, _, h1, h2, hc⟩ := Rd.pos h hn
  exact ⟨b, off, c, rfl, hb, h1, h2, fun j hj => (hc j (by omega)).trans (nts_get l j hj)⟩

/-- the same place, another length -/
def AtD (v v' : Value) : Prop := ∀ a n c, v = .slice a n c → ∃ m, v' = .slice a m c
/-- in a block from B on -/
def NewD (B : Nat) (v : Value) : Prop := ∀ b off n c, v = .slice (some ⟨b, off, none⟩) n c → B ≤ b
theorem NewD.at {B : Nat} {a : Option Addr} {n c : Nat} {v' : Value} (h : NewD B (.slice a n c)) (ha : AtD (.slice a n c) v') : NewD B v' := by
  obtain ⟨m, rfl⟩ := ha _ _ _ rfl
  intro b off n' c' e
  cases e
  exact h b off _ _ rfl
theorem NewD.mono {B B' : Nat} {v : Value} (h : NewD B v) (hb : B' ≤ B) : NewD B' v := fun b off n c e => Nat.le_trans hb (h b off n c e)
theorem NewD.own {w : World} {base : Nat} {e : TypeId} {size : Nat} {v : Value} {n : Nat} {xs : List Value} (h : w.ownsRow base e size v n xs) : NewD base v := by
  intro b off n' c' he
  rcases h.2 with ⟨rfl, rfl⟩ | ⟨g, cap, cur, rfl, hb, _⟩
  · cases he
  · cases he; exact hb
theorem Ns.setOther {w : World} {B : Nat} {v : Value} {l : List Nat} (h : Ns w v l) (hn : NewD B v) (q j : Nat) (hq : q < B) (x : Value) : Ns (w.setCell ⟨q, j, none⟩ x) v l := by
  refine ⟨h.1, ?_⟩
  rcases h.2 with h2 | ⟨h0, b, off, c, rfl, hlt, hB2, h1, h2, h3⟩
  · exact .inl h2
  · have hb := hn b off _ _ rfl
    refine .inr ⟨h0, b, off, c, rfl, by simpa using hlt, Nat.le_refl _, h1, h2, fun i hi => ?_⟩
    rw [World.cell?_setCell_other _ _ _ _ (by intro e; cases e; omega)]
    exact h3 i hi

end Go.Proofs.YtfciebajiihcfaaDoor
