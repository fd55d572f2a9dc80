/- the reference's ways, plain: suits by rank, texts character by character -/
import Derived.Test.YtbjehiagaikhoaaProg
import Derived.Test.YtbjehiagaikhoaaCardG
namespace Go.Proofs.Ytbjehiagaikhoaa
set_option linter.unusedVariables false

/-- the cards of suit q with a rank below r, from high to low -/
def seg (m q : Nat) : Nat → List Nat
  | 0 => []
  | r + 1 => (if bt m (13 * q + r) then [13 * q + r] else []) ++ seg m q r

theorem seg_yes (m q r : Nat) (h : bt m (13 * q + r) = true) : seg m q (r + 1) = (13 * q + r) :: seg m q r := by simp [seg, h]
theorem seg_no (m q r : Nat) (h : bt m (13 * q + r) = false) : seg m q (r + 1) = seg m q r := by simp [seg, h]

theorem seg_filter (m q : Nat) : ∀ r, r ≤ 13 → (downs m (13 * q + r)).filter (fun c => decide (c / 13 = q)) = seg m q r := by
  intro r
  induction r with
  | zero =>
    intro _
    simp only [seg]
    rw [List.filter_eq_nil_iff]
    intro c hc
    have := downs_lt m _ c hc
    simp only [decide_eq_true_eq]
    omega
  | succ r ih =>
    intro h
    rw [show 13 * q + (r + 1) = (13 * q + r) + 1 by omega]
    unfold downs
    rw [List.filter_append, ih (by omega)]
    rw [show seg m q (r + 1) = (if bt m (13 * q + r) then [13 * q + r] else []) ++ seg m q r from rfl]
    congr 1
    split
    · simp only [List.filter_cons, List.filter_nil]
      rw [if_pos (by rw [decide_eq_true_eq]; omega)]
    · rfl

theorem filter_high (m q : Nat) : ∀ k, 13 * q + 13 ≤ k → (downs m k).filter (fun c => decide (c / 13 = q)) = seg m q 13 := by
  intro k
  induction k with
  | zero => intro h; omega
  | succ k ih =>
    intro h
    by_cases he : 13 * q + 13 ≤ k
    · unfold downs
      rw [List.filter_append, ih he]
      have : (if bt m k = true then [k] else []).filter (fun c => decide (c / 13 = q)) = [] := by
        rw [List.filter_eq_nil_iff]
        intro c hc
        split at hc
        · simp at hc; simp only [decide_eq_true_eq]; omega
        · simp at hc
      rw [this, List.nil_append]
    · have := seg_filter m q 13 (by omega)
      rw [show k + 1 = 13 * q + 13 by omega]
      exact this

theorem suit_seg (m s : Nat) (hm : m < 4503599627370496) (hs : s < 4) : downs (ofN m s) 52 = seg m s 13 := by
  rw [downs_of m s hm hs 52]
  exact filter_high m s 52 (by omega)

theorem fil_seg (m q : Nat) (hq : q < 4) : fil (downs m 52) (3 - q) = seg m q 13 := by
  rw [← filter_high m q 52 (by omega)]
  unfold fil
  apply List.filter_congr
  intro c hc
  have := downs_lt m 52 c hc
  rw [Bool.eq_iff_iff]
  simp only [beq_iff_eq, decide_eq_true_eq]
  omega

/-- the characters of cards -/
def chars (l : List Nat) : List UInt8 := l.map fun c => rankB (c % 13)

/-- the text of the suits below q -/
def rtext (m : Nat) : Nat → List UInt8
  | 0 => []
  | q + 1 => chars (seg m q 13) ++ (if 0 < q then 46 :: rtext m q else [])

theorem rtext_4 (m : Nat) : rtext m 4 = wtext m := by
  have h3 := fil_seg m 3 (by omega)
  have h2 := fil_seg m 2 (by omega)
  have h1 := fil_seg m 1 (by omega)
  have h0 := fil_seg m 0 (by omega)
  simp only [Nat.sub_self, Nat.sub_zero, Nat.reduceSub] at h3 h2 h1 h0
  unfold wtext
  simp only [partW_fil, h0, h1, h2, h3, rtext, chars]
  simp

/-- what is still to be written: suit q below rank r, then the suits below -/
def rt (m q r : Nat) : List UInt8 := chars (seg m q r) ++ (if 0 < q then 46 :: rtext m q else [])

theorem rt_full (m q : Nat) : rt m q 13 = rtext m (q + 1) := rfl

theorem seg_empty (m q : Nat) : ∀ r, (∀ j, j < r → bt m (13 * q + j) = false) → seg m q r = [] := by
  intro r
  induction r with
  | zero => intro _; rfl
  | succ r ih =>
    intro h
    rw [seg_no m q r (h r (by omega))]
    exact ih (fun j hj => h j (by omega))

theorem seg_skip (m q a : Nat) : ∀ d, (∀ j, a ≤ j → j < a + d → bt m (13 * q + j) = false) → seg m q (a + d) = seg m q a := by
  intro d
  induction d with
  | zero => intro _; rfl
  | succ d ih =>
    intro h
    rw [show a + (d + 1) = (a + d) + 1 by omega, seg_no m q _ (h _ (by omega) (by omega))]
    exact ih (fun j h1 h2 => h j h1 (by omega))

theorem seg_pre (m q a : Nat) : ∀ d, ∃ X, seg m q (a + d) = X ++ seg m q a := by
  intro d
  induction d with
  | zero => exact ⟨[], rfl⟩
  | succ d ih =>
    obtain ⟨X, h⟩ := ih
    refine ⟨(if bt m (13 * q + (a + d)) then [13 * q + (a + d)] else []) ++ X, ?_⟩
    rw [show a + (d + 1) = (a + d) + 1 by omega, seg, h, List.append_assoc]

/- a bit more -/
theorem or_half (a b : Nat) : (a ||| b) / 2 = a / 2 ||| b / 2 := by
  apply Nat.eq_of_testBit_eq
  intro i
  rw [Nat.testBit_or, Nat.testBit_div_two, Nat.testBit_div_two, Nat.testBit_div_two, Nat.testBit_or]

theorem or_odd (a b : Nat) : (a ||| b) % 2 = if a % 2 = 1 ∨ b % 2 = 1 then 1 else 0 := by
  have h1 := Nat.testBit_or a b 0
  simp only [Nat.testBit_zero] at h1
  rcases Nat.mod_two_eq_zero_or_one a with ha | ha <;> rcases Nat.mod_two_eq_zero_or_one b with hb | hb <;> rcases Nat.mod_two_eq_zero_or_one (a ||| b) with hc | hc <;> simp [ha, hb, hc] at h1 ⊢

theorem bt_half (m x : Nat) : bt (m / 2) x = bt m (x + 1) := by rw [bt_test, bt_test, Nat.testBit_div_two]

theorem or_add (x : Nat) : ∀ m, bt m x = false → m ||| 2 ^ x = m + 2 ^ x := by
  induction x with
  | zero =>
    intro m h
    have h0 : m % 2 = 0 := by
      simp only [bt, Nat.pow_zero, Nat.div_one, beq_eq_false_iff_ne] at h
      omega
    have h1 := or_half m 1
    have h2 := or_odd m 1
    simp only [Nat.pow_zero]
    rw [if_pos (Or.inr rfl)] at h2
    simp at h1
    omega
  | succ x ih =>
    intro m h
    rw [← bt_half] at h
    have h1 := or_half m (2 ^ (x + 1))
    have h2 := or_odd m (2 ^ (x + 1))
    have h3 : 2 ^ (x + 1) / 2 = 2 ^ x := by rw [Nat.pow_succ]; omega
    have h4 : 2 ^ (x + 1) % 2 = 0 := by rw [Nat.pow_succ]; omega
    rw [h3, ih _ h] at h1
    rw [h4] at h2
    have h5 : 2 ^ (x + 1) = 2 * 2 ^ x := by rw [Nat.pow_succ]; omega
    obtain ⟨z, hz⟩ : ∃ z, m ||| 2 ^ (x + 1) = z := ⟨_, rfl⟩
    obtain ⟨y, hy⟩ : ∃ y, 2 ^ x = y := ⟨_, rfl⟩
    rw [h5] at h1 h2 ⊢
    rw [h5] at hz
    rw [hy] at hz h1 h2 ⊢
    rw [hz] at h1 h2 ⊢
    split at h2 <;> omega

/-- the reference's reader -/
def rgo : Nat → Nat → Nat → List UInt8 → Option Nat
  | su, _, m, [] => if su = 0 then some m else none
  | su, last, m, b :: l => if b = 46 then (match su with | 0 => none | su + 1 => rgo su 13 m l) else
    match rankIx b with
    | none => none
    | some r => if r < last then rgo su r (m + 2 ^ (13 * su + r)) l else none

theorem rgo_nil (su last m : Nat) : rgo su last m [] = if su = 0 then some m else none := by cases su <;> rfl

theorem rankIx_some {b : UInt8} {r : Nat} (h : rankIx b = some r) : r < 13 ∧ rankB r = b := by
  rcases ix_cases [50, 51, 52, 53, 54, 55, 56, 57, 84, 74, 81, 75, 65] b with ⟨x1, x2⟩ | ⟨q, x0, x1, x2⟩
  · simp only [rankIx] at h
    rw [x2] at h
    cases h
  · simp only [rankIx] at h
    rw [x2] at h
    cases h
    have h1 := (Lib.indexByte_some x1).1
    refine ⟨x0, ?_⟩
    unfold rankB
    rw [List.getD_eq_getElem?_getD, h1]
    rfl

theorem suitIx_some {b : UInt8} {r : Nat} (h : suitIx b = some r) : r < 4 ∧ suitB r = b := by
  rcases ix_cases [67, 68, 72, 83] b with ⟨x1, x2⟩ | ⟨q, x0, x1, x2⟩
  · simp only [suitIx] at h
    rw [x2] at h
    cases h
  · simp only [suitIx] at h
    rw [x2] at h
    cases h
    have h1 := (Lib.indexByte_some x1).1
    refine ⟨x0, ?_⟩
    unfold suitB
    rw [List.getD_eq_getElem?_getD, h1]
    rfl

theorem rgo_text (l : List UInt8) : ∀ su last m r, su ≤ 3 → last ≤ 13 → m < 4503599627370496 → (∀ c, c < 13 * su + last → bt m c = false) → rgo su last m l = some r →
    l = rt r su last ∧ (∀ c, 13 * su + last ≤ c → bt r c = bt m c) ∧ r < 4503599627370496 := by
  induction l with
  | nil =>
    intro su last m r hsu hl hm hlow h
    rw [rgo_nil] at h
    split at h
    · rename_i h0
      subst h0
      cases h
      refine ⟨?_, fun _ _ => rfl, hm⟩
      unfold rt
      rw [seg_empty m 0 last (fun j hj => hlow _ (by omega))]
      rfl
    · cases h
  | cons b l ih =>
    intro su last m r hsu hl hm hlow h
    unfold rgo at h
    split at h
    · rename_i hb
      subst hb
      cases su with
      | zero => cases h
      | succ su =>
        simp only [] at h
        obtain ⟨h1, h2, h3⟩ := ih su 13 m r (by omega) (by omega) hm (fun c hc => hlow c (by omega)) h
        refine ⟨?_, fun c hc => h2 c (by omega), h3⟩
        unfold rt
        rw [seg_empty r (su + 1) last (fun j hj => by rw [h2 _ (by omega)]; exact hlow _ (by omega)), if_pos (by omega), ← rt_full, ← h1]
        rfl
    · rename_i hb
      cases hr : rankIx b with
      | none => rw [hr] at h; cases h
      | some q =>
        rw [hr] at h
        simp only [] at h
        obtain ⟨hq, hbq⟩ := rankIx_some hr
        split at h
        · rename_i hql
          have hx := hlow (13 * su + q) (by omega)
          have hor := or_add (13 * su + q) m hx
          rw [← hor] at h
          have h1p : (2 : Nat) ^ (13 * su + q) < 2 ^ 52 := Nat.pow_lt_pow_right (by decide) (by omega)
          have hm2 : m ||| 2 ^ (13 * su + q) < 4503599627370496 := Nat.or_lt_two_pow (n := 52) hm h1p
          obtain ⟨h1, h2, h3⟩ := ih su q _ r hsu (by omega) hm2 (fun c hc => by
            rw [bt_or, hlow c (by omega)]
            simp
            omega) h
          have hbit : bt r (13 * su + q) = true := by rw [h2 _ (by omega), bt_or]; simp
          refine ⟨?_, fun c hc => by rw [h2 c (by omega), bt_or]; simp; omega, h3⟩
          have hs := seg_skip r su (q + 1) (last - (q + 1)) (fun j h4 h5 => by
            rw [h2 _ (by omega), bt_or, hlow _ (by omega)]
            simp
            omega)
          rw [show q + 1 + (last - (q + 1)) = last by omega] at hs
          unfold rt
          rw [hs, seg_yes r su q hbit]
          simp only [chars, List.map_cons, List.cons_append]
          rw [show (13 * su + q) % 13 = q by omega, hbq]
          congr 1
        · cases h

theorem rgo_back (r : Nat) (hr : r < 4503599627370496) : ∀ su, su ≤ 3 → ∀ last, last ≤ 13 → ∀ L m, last ≤ L → m < 4503599627370496 → (∀ c, 13 * su + last ≤ c → bt m c = bt r c) → (∀ c, c < 13 * su + last → bt m c = false) →
    rgo su L m (rt r su last) = some r := by
  intro su
  induction su with
  | zero =>
    intro _ last
    induction last with
    | zero =>
      intro _ L m hL hm h1 h2
      show rgo 0 L m [] = some r
      rw [rgo_nil, if_pos rfl, ext52 m r hm hr (fun c _ => h1 c (by omega))]
    | succ last ih =>
      intro hl L m hL hm h1 h2
      cases hb : bt r (13 * 0 + last) with
      | true =>
        have e : rt r 0 (last + 1) = rankB last :: rt r 0 last := by
          unfold rt
          rw [seg_yes r 0 last hb]
          simp only [chars, List.map_cons, List.cons_append]
          rw [show (13 * 0 + last) % 13 = last by omega]
        obtain ⟨k1, k2⟩ := rank_back last (by omega)
        have hor := or_add (13 * 0 + last) m (h2 _ (by omega))
        have h1p : (2 : Nat) ^ (13 * 0 + last) < 2 ^ 52 := Nat.pow_lt_pow_right (by decide) (by omega)
        rw [e]
        unfold rgo
        rw [if_neg k2, k1]
        simp only []
        rw [if_pos (by omega), ← hor]
        refine ih (by omega) _ _ (by omega) (Nat.or_lt_two_pow (n := 52) hm h1p) (fun c hc => ?_) (fun c hc => ?_)
        · rw [bt_or]
          by_cases hcl : c = 13 * 0 + last
          · subst hcl; rw [hb]; simp
          · rw [h1 c (by omega), show decide (c = 13 * 0 + last) = false from decide_eq_false hcl, Bool.or_false]
        · rw [bt_or, h2 c (by omega)]; simp; omega
      | false =>
        have e : rt r 0 (last + 1) = rt r 0 last := by unfold rt; rw [seg_no r 0 last hb]
        rw [e]
        refine ih (by omega) L m (by omega) hm (fun c hc => ?_) (fun c hc => h2 c (by omega))
        by_cases hcl : c = 13 * 0 + last
        · subst hcl; rw [hb]; exact h2 _ (by omega)
        · exact h1 c (by omega)
  | succ su ihs =>
    intro hsu last
    induction last with
    | zero =>
      intro _ L m hL hm h1 h2
      show rgo (su + 1) L m (46 :: rtext r (su + 1)) = some r
      rw [← rt_full]
      unfold rgo
      rw [if_pos rfl]
      exact ihs (by omega) 13 (by omega) 13 m (by omega) hm (fun c hc => h1 c (by omega)) (fun c hc => h2 c (by omega))
    | succ last ih =>
      intro hl L m hL hm h1 h2
      cases hb : bt r (13 * (su + 1) + last) with
      | true =>
        have e : rt r (su + 1) (last + 1) = rankB last :: rt r (su + 1) last := by
          unfold rt
          rw [seg_yes r (su + 1) last hb]
          simp only [chars, List.map_cons, List.cons_append]
          rw [show (13 * (su + 1) + last) % 13 = last by omega]
        obtain ⟨k1, k2⟩ := rank_back last (by omega)
        have hor := or_add (13 * (su + 1) + last) m (h2 _ (by omega))
        have h1p : (2 : Nat) ^ (13 * (su + 1) + last) < 2 ^ 52 := Nat.pow_lt_pow_right (by decide) (by omega)
        rw [e]
        unfold rgo
        rw [if_neg k2, k1]
        simp only []
        rw [if_pos (by omega), ← hor]
        refine ih (by omega) _ _ (by omega) (Nat.or_lt_two_pow (n := 52) hm h1p) (fun c hc => ?_) (fun c hc => ?_)
        · rw [bt_or]
          by_cases hcl : c = 13 * (su + 1) + last
          · subst hcl; rw [hb]; simp
          · rw [h1 c (by omega), show decide (c = 13 * (su + 1) + last) = false from decide_eq_false hcl, Bool.or_false]
        · rw [bt_or, h2 c (by omega)]; simp; omega
      | false =>
        have e : rt r (su + 1) (last + 1) = rt r (su + 1) last := by unfold rt; rw [seg_no r (su + 1) last hb]
        rw [e]
        refine ih (by omega) L m (by omega) hm (fun c hc => ?_) (fun c hc => h2 c (by omega))
        by_cases hcl : c = 13 * (su + 1) + last
        · subst hcl; rw [hb]; exact h2 _ (by omega)
        · exact h1 c (by omega)

theorem rgo_parse (l : List UInt8) : rgo 3 13 0 l = parseN l := by
  cases h : rgo 3 13 0 l with
  | some r =>
    obtain ⟨h1, -, h3⟩ := rgo_text l 3 13 0 r (by omega) (by omega) (by omega) (fun c _ => bt_zero c) h
    rw [h1, rt_full, rtext_4]
    exact (parse_wtext r h3).symm
  | none =>
    cases h2 : parseN l with
    | none => rfl
    | some m =>
      have h3 := parse_some l m h2
      have h4 := parse_lt l m h2
      have h5 := rgo_back m h4 3 (by omega) 13 (by omega) 13 0 (by omega) (by omega) (fun c hc => by rw [bt_zero, bt_low m c h4 (by omega)]) (fun c _ => bt_zero c)
      rw [rt_full, rtext_4, h3, h] at h5
      cases h5

/- one card -/
theorem txt_read : ∀ c, c < 52 → readN (txt c) = some c := by decide +kernel

theorem read_txt {l : List UInt8} {c : Nat} (h : readN l = some c) : c < 52 ∧ l = txt c := by
  unfold readN at h
  split at h
  · rename_i a b
    split at h
    · rename_i p q hp hq
      cases h
      obtain ⟨p1, p2⟩ := suitIx_some hp
      obtain ⟨q1, q2⟩ := rankIx_some hq
      refine ⟨by omega, ?_⟩
      unfold txt
      rw [show (13 * p + q) / 13 = p by omega, show (13 * p + q) % 13 = q by omega, p2, q2]
    · cases h
  · cases h

theorem read_none {l : List UInt8} (h : ∀ c, c < 52 → txt c ≠ l) : readN l = none := by
  cases hr : readN l with
  | none => rfl
  | some c =>
    obtain ⟨h1, h2⟩ := read_txt hr
    exact absurd h2.symm (h c h1)

end Go.Proofs.Ytbjehiagaikhoaa
