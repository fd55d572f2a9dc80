/- sets, lists and texts: plain facts -/
import Derived.Test.YtbjehiagaikhoaaProg
import Derived.Test.YtbjehiagaikhoaaCardF
import Derived.Test.YtbjehiagaikhoaaCardM
namespace Go.Proofs.Ytbjehiagaikhoaa
set_option linter.unusedVariables false

def orAll (m : Nat) (l : List Nat) : Nat := l.foldl (fun m c => m ||| 2 ^ c) m

theorem orAll_cons (m a : Nat) (l : List Nat) : orAll m (a :: l) = orAll (m ||| 2 ^ a) l := rfl
theorem orAll_append (m : Nat) (l r : List Nat) : orAll m (l ++ r) = orAll (orAll m l) r := by unfold orAll; rw [List.foldl_append]

theorem bt_orAll (l : List Nat) : ∀ m c, bt (orAll m l) c = (bt m c || decide (c ∈ l)) := by
  induction l with
  | nil => intro m c; simp [orAll]
  | cons a l ih =>
    intro m c
    rw [orAll_cons, ih, bt_or, Bool.or_assoc]
    congr 1
    simp [List.mem_cons]

theorem orAll_lt (l : List Nat) : ∀ m, m < 4503599627370496 → (∀ c ∈ l, c < 52) → orAll m l < 4503599627370496 := by
  induction l with
  | nil => intro m h _; exact h
  | cons a l ih =>
    intro m h hl
    rw [orAll_cons]
    refine ih _ ?_ (fun c hc => hl c (List.mem_cons_of_mem _ hc))
    have h1 : (2 : Nat) ^ a < 2 ^ 52 := Nat.pow_lt_pow_right (by decide) (hl a List.mem_cons_self)
    exact Nat.or_lt_two_pow (n := 52) h h1

theorem ext52 (a b : Nat) (ha : a < 4503599627370496) (hb : b < 4503599627370496) (h : ∀ c, c < 52 → bt a c = bt b c) : a = b := by
  apply Nat.eq_of_testBit_eq
  intro i
  rw [← bt_test, ← bt_test]
  rcases Nat.lt_or_ge i 52 with hi | hi
  · exact h i hi
  · rw [bt_low a i ha hi, bt_low b i hb hi]

theorem bt_zero (c : Nat) : bt 0 c = false := by simp [bt]

theorem orAll_downs (a : Nat) (ha : a < 4503599627370496) (l : List Nat) (hl : ∀ c, c ∈ l ↔ c ∈ downs a 52) : orAll 0 l = a := by
  refine ext52 _ _ (orAll_lt l 0 (by decide) (fun c hc => downs_lt a 52 c ((hl c).1 hc))) ha ?_
  intro c hc
  rw [bt_orAll, bt_zero, Bool.false_or, Bool.eq_iff_iff, decide_eq_true_eq, hl, mem_downs]
  exact ⟨fun h => h.2, fun h => ⟨hc, h⟩⟩

theorem mgo_app (l : List Nat) : ∀ m r, (∀ c ∈ l, c < 52) → l.Nodup → (∀ c ∈ l, bt m c = false) → mgo m (l ++ r) = mgo (orAll m l) r := by
  induction l with
  | nil => intro m r _ _ _; rfl
  | cons a l ih =>
    intro m r h1 h2 h3
    rw [List.cons_append]
    conv => lhs; unfold mgo
    rw [if_pos (h1 a List.mem_cons_self), h3 a List.mem_cons_self, if_neg (by decide), orAll_cons]
    rw [List.nodup_cons] at h2
    refine ih _ _ (fun c hc => h1 c (List.mem_cons_of_mem _ hc)) h2.2 (fun c hc => ?_)
    rw [bt_or, h3 c (List.mem_cons_of_mem _ hc), Bool.false_or, decide_eq_false_iff_not]
    rintro rfl
    exact h2.1 hc

theorem mgo_ok (l : List Nat) (h1 : ∀ c ∈ l, c < 52) (h2 : l.Nodup) : mgo 0 l = (orAll 0 l, 0) := by
  have := mgo_app l 0 [] h1 h2 (fun c _ => bt_zero c)
  rw [List.append_nil] at this
  rw [this]
  rfl

theorem mgo_twice (l : List Nat) (x : Nat) (h1 : ∀ c ∈ l, c < 52) (h2 : l.Nodup) (hx : x ∈ l) : mgo 0 (l ++ [x]) = (0, 42) := by
  rw [mgo_app l 0 [x] h1 h2 (fun c _ => bt_zero c)]
  unfold mgo
  rw [if_pos (h1 x hx), bt_orAll, bt_zero]
  simp [hx]

theorem downs_nodup (m k : Nat) : (downs m k).Nodup := (downs_sorted m k).imp (fun h => by omega)

/- texts -/
theorem rank_back : ∀ r, r < 13 → rankIx (rankB r) = some r ∧ rankB r ≠ 46 := by decide +kernel
theorem rank_dot : rankIx 46 = none := by decide +kernel

theorem pgo_nil (su m : Nat) : pgo su m [] = some m := by cases su <;> rfl

theorem pgo_dot (su m : Nat) (l : List UInt8) : pgo (su + 1) m (46 :: l) = pgo su m l := by
  conv => lhs; unfold pgo
  rw [if_pos ⟨rfl, by omega⟩]
  rfl

theorem pgo_part (su : Nat) (l : List Nat) : ∀ m rest, (∀ c ∈ l, c / 13 = su) → pgo su m ((l.map fun c => rankB (c % 13)) ++ rest) = pgo su (orAll m l) rest := by
  induction l with
  | nil => intro m rest _; rfl
  | cons a l ih =>
    intro m rest h
    have ha := h a List.mem_cons_self
    obtain ⟨h1, h2⟩ := rank_back (a % 13) (by omega)
    rw [List.map_cons, List.cons_append]
    conv => lhs; unfold pgo
    rw [if_neg (fun e => h2 e.1), h1]
    simp only []
    rw [show 13 * su + a % 13 = a by omega, orAll_cons]
    exact ih _ _ (fun c hc => h c (List.mem_cons_of_mem _ hc))

/-- the cards of a suit, as the parts have them -/
def fil (D : List Nat) (k : Nat) : List Nat := D.filter fun c => 3 - c / 13 == k
theorem partW_fil (D : List Nat) (k : Nat) : partW D k = (fil D k).map fun c => rankB (c % 13) := rfl
theorem mem_fil {D : List Nat} {k c : Nat} (hD : ∀ c ∈ D, c < 52) (hk : k < 4) : c ∈ fil D k ↔ c ∈ D ∧ c / 13 = 3 - k := by
  unfold fil
  rw [List.mem_filter, beq_iff_eq]
  constructor
  · rintro ⟨h1, h2⟩; have := hD c h1; exact ⟨h1, by omega⟩
  · rintro ⟨h1, h2⟩; have := hD c h1; exact ⟨h1, by omega⟩

theorem pgo_wtext (a : Nat) (ha : a < 4503599627370496) : pgo 3 0 (wtext a) = some a := by
  have hD := downs_lt a 52
  have e : ∀ k, k < 4 → ∀ c ∈ fil (downs a 52) k, c / 13 = 3 - k := fun k hk c hc => ((mem_fil hD hk).1 hc).2
  unfold wtext
  rw [partW_fil, partW_fil, partW_fil, partW_fil, pgo_part 3 _ _ _ (e 0 (by omega)), pgo_dot, pgo_part 2 _ _ _ (e 1 (by omega)), pgo_dot, pgo_part 1 _ _ _ (e 2 (by omega)), pgo_dot]
  have h3 := pgo_part 0 (fil (downs a 52) 3) (orAll (orAll (orAll 0 (fil (downs a 52) 0)) (fil (downs a 52) 1)) (fil (downs a 52) 2)) [] (e 3 (by omega))
  rw [List.append_nil] at h3
  rw [h3, pgo_nil, ← orAll_append, ← orAll_append, ← orAll_append]
  congr 1
  refine orAll_downs a ha _ (fun c => ?_)
  simp only [List.mem_append, mem_fil hD (show 0 < 4 by omega), mem_fil hD (show 1 < 4 by omega), mem_fil hD (show 2 < 4 by omega), mem_fil hD (show 3 < 4 by omega)]
  constructor
  · rintro (h | h | h | h) <;> exact h.1
  · intro h
    have := hD c h
    have h4 : c / 13 = 3 ∨ c / 13 = 2 ∨ c / 13 = 1 ∨ c / 13 = 0 := by omega
    rcases h4 with h4 | h4 | h4 | h4 <;> simp [h, h4]

theorem parse_wtext (a : Nat) (ha : a < 4503599627370496) : parseN (wtext a) = some a := by
  unfold parseN
  rw [pgo_wtext a ha]
  simp

theorem wtext_inj (a b : Nat) (ha : a < 4503599627370496) (hb : b < 4503599627370496) (h : wtext a = wtext b) : a = b := by
  have h1 := pgo_wtext a ha
  rw [h, pgo_wtext b hb] at h1
  exact (Option.some.inj h1).symm

theorem parse_some (l : List UInt8) (m : Nat) (h : parseN l = some m) : wtext m = l := by
  unfold parseN at h
  split at h
  · cases h
  · split at h
    · cases h; assumption
    · cases h

theorem orAll_le52 (l : List UInt8) : ∀ su m, su ≤ 3 → m < 4503599627370496 → ∀ r, pgo su m l = some r → r < 4503599627370496 := by
  induction l with
  | nil => intro su m hsu hm r h; rw [pgo_nil] at h; cases h; exact hm
  | cons b l ih =>
    intro su m hsu hm r h
    unfold pgo at h
    split at h
    · exact ih _ _ (by omega) hm r h
    · rcases ix_cases [50, 51, 52, 53, 54, 55, 56, 57, 84, 74, 81, 75, 65] b with ⟨x1, x2⟩ | ⟨q, x0, x1, x2⟩
      · simp only [rankIx] at h
        rw [x2] at h
        cases h
      · simp only [rankIx] at h
        rw [x2] at h
        have hq : q < 13 := x0
        refine ih _ _ hsu ?_ r h
        have h1 : (2 : Nat) ^ (13 * su + q) < 2 ^ 52 := Nat.pow_lt_pow_right (by decide) (by omega)
        exact Nat.or_lt_two_pow (n := 52) hm h1

theorem parse_lt (l : List UInt8) (m : Nat) (h : parseN l = some m) : m < 4503599627370496 := by
  unfold parseN at h
  split at h
  · cases h
  · rename_i r hr
    split at h
    · cases h; exact orAll_le52 l 3 0 (by omega) (by omega) _ hr
    · cases h

theorem fil_len (D : List Nat) (hD : ∀ c ∈ D, c < 52) : (fil D 0).length + (fil D 1).length + (fil D 2).length + (fil D 3).length = D.length := by
  induction D with
  | nil => rfl
  | cons a D ih =>
    have h := ih (fun c hc => hD c (List.mem_cons_of_mem _ hc))
    have ha := hD a List.mem_cons_self
    unfold fil at h ⊢
    have h4 : a / 13 = 3 ∨ a / 13 = 2 ∨ a / 13 = 1 ∨ a / 13 = 0 := by omega
    simp only [List.filter_cons, List.length_cons]
    rcases h4 with h4 | h4 | h4 | h4 <;> simp [h4] <;> omega

theorem wtext_len (a : Nat) : (wtext a).length = (downs a 52).length + 3 := by
  have := fil_len (downs a 52) (downs_lt a 52)
  unfold wtext
  simp only [List.length_append, List.length_cons, partW_fil, List.length_map]
  omega

/- rejected texts -/
theorem pgo_bad (b : UInt8) (hb : b ≠ 46) (hr : rankIx b = none) (l r : List UInt8) : ∀ su m, pgo su m (l ++ b :: r) = none := by
  induction l with
  | nil =>
    intro su m
    rw [List.nil_append]
    unfold pgo
    rw [if_neg (fun e => hb e.1), hr]
  | cons x l ih =>
    intro su m
    rw [List.cons_append]
    unfold pgo
    split
    · exact ih _ _
    · split
      · rfl
      · exact ih _ _

theorem pgo_dots (l : List UInt8) : ∀ su m, su < l.count 46 → pgo su m l = none := by
  induction l with
  | nil => intro su m h; simp at h
  | cons x l ih =>
    intro su m h
    unfold pgo
    rw [List.count_cons] at h
    split
    · rename_i e
      obtain ⟨e1, e2⟩ := e
      exact ih _ _ (by simp [e1] at h; omega)
    · rename_i e
      by_cases hx : x = 46
      · subst hx
        rw [rank_dot]
      · split
        · rfl
        · exact ih _ _ (by simp [hx] at h; omega)

theorem part_nodot (D : List Nat) (hD : ∀ c ∈ D, c < 52) (k : Nat) : (partW D k).count 46 = 0 := by
  rw [List.count_eq_zero, partW_fil]
  intro h
  rw [List.mem_map] at h
  obtain ⟨c, _, h2⟩ := h
  exact (rank_back (c % 13) (by omega)).2 h2

theorem wtext_dots (a : Nat) : (wtext a).count 46 = 3 := by
  have h := part_nodot (downs a 52) (downs_lt a 52)
  unfold wtext
  simp only [List.count_append, List.count_cons, h]
  simp

theorem parse_none (l : List UInt8) (h : pgo 3 0 l = none) : parseN l = none := by
  unfold parseN
  rw [h]

theorem bad_x (a i : Nat) : parseN ((wtext a).take i ++ 120 :: (wtext a).drop i) = none := parse_none _ (pgo_bad 120 (by decide) (by decide +kernel) _ _ _ _)
theorem bad_1 (a i : Nat) : parseN ((wtext a).take i ++ 49 :: (wtext a).drop i) = none := parse_none _ (pgo_bad 49 (by decide) (by decide +kernel) _ _ _ _)
theorem bad_end (a : Nat) : parseN (wtext a ++ [32]) = none := parse_none _ (pgo_bad 32 (by decide) (by decide +kernel) _ _ _ _)
theorem bad_dot (a i : Nat) : parseN ((wtext a).take i ++ 46 :: (wtext a).drop i) = none := by
  refine parse_none _ (pgo_dots _ _ _ ?_)
  have h := wtext_dots a
  rw [← List.take_append_drop i (wtext a), List.count_append] at h
  rw [List.count_append, List.count_cons]
  simp
  omega

end Go.Proofs.Ytbjehiagaikhoaa
