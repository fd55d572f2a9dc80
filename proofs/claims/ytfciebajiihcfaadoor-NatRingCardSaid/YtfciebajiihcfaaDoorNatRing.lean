/- NatRing, walked -/
import Derived.Test.YtfciebajiihcfaaDoorSteps
import Derived.Deep.RegionHeld3
import Derived.Deep.DeepCutAuto
import Derived.Deep.DrawnRows
namespace Go.Proofs.YtfciebajiihcfaaDoor
open Go.RowKit
set_option linter.unusedVariables false
set_option linter.unusedSimpArgs false
set_option maxRecDepth 100000
set_option maxHeartbeats 4000000

/-- what the two operations give -/
def adN (x y : Nat) : Nat := if x + y < big then x + y else 0
def adE (x y : Nat) : Int := if x + y < big then 0 else 3
def muN (x y : Nat) : Nat := if x * y < big then x * y else 0
def muE (x y : Nat) : Int := if x * y < big then 0 else 3

/-- what is wanted of an operation -/
structure OpLaw (N : Nat → Nat → Nat) (E : Nat → Nat → Int) : Prop where
  bd : ∀ x y, N x y < big
  comm : ∀ x y, N x y = N y x
  ecomm : ∀ x y, E x y = E y x
  err : ∀ x y, E x y = 0 ∨ E x y = 3
  assoc : ∀ x y z, E x y = 0 → E (N x y) z = 0 → E y z = 0 → E x (N y z) = 0 → N (N x y) z = N x (N y z)

theorem adLaw : OpLaw adN adE := by
  constructor
  · intro x y; unfold adN; split
    · assumption
    · unfold big; omega
  · intro x y; unfold adN; rw [Nat.add_comm]
  · intro x y; unfold adE; rw [Nat.add_comm]
  · intro x y; unfold adE; split <;> simp
  · intro x y z h1 h2 h3 h4
    have g : ∀ a b, adE a b = 0 → adN a b = a + b := by
      intro a b h
      unfold adE at h
      unfold adN
      split at h
      · rw [if_pos (by assumption)]
      · omega
    rw [g _ _ h2, g _ _ h1, g _ _ h4, g _ _ h3, Nat.add_assoc]

theorem muLaw : OpLaw muN muE := by
  constructor
  · intro x y; unfold muN; split
    · assumption
    · unfold big; omega
  · intro x y; unfold muN; rw [Nat.mul_comm]
  · intro x y; unfold muE; rw [Nat.mul_comm]
  · intro x y; unfold muE; split <;> simp
  · intro x y z h1 h2 h3 h4
    have g : ∀ a b, muE a b = 0 → muN a b = a * b := by
      intro a b h
      unfold muE at h
      unfold muN
      split at h
      · rw [if_pos (by assumption)]
      · omega
    rw [g _ _ h2, g _ _ h1, g _ _ h4, g _ _ h3, Nat.mul_assoc]

theorem distr (a b c : Nat) (h1 : adE b c = 0) (h2 : muE a (adN b c) = 0) : muE a b = 0 ∧ muE a c = 0 ∧ adE (muN a b) (muN a c) = 0 ∧ muN a (adN b c) = adN (muN a b) (muN a c) := by
  unfold adE at h1
  split at h1
  · rename_i hs
    have e1 : adN b c = b + c := by unfold adN; rw [if_pos hs]
    rw [e1] at h2 ⊢
    unfold muE at h2
    split at h2
    · rename_i hm
      have hd := Nat.mul_add a b c
      have hab : a * b < big := by omega
      have hac : a * c < big := by omega
      have e2 : muN a b = a * b := by unfold muN; rw [if_pos hab]
      have e3 : muN a c = a * c := by unfold muN; rw [if_pos hac]
      have hsum : a * b + a * c < big := by omega
      rw [e2, e3]
      unfold muE adE adN muN
      rw [if_pos hab, if_pos hac, if_pos hsum, if_pos hsum, if_pos hm]
      exact ⟨rfl, rfl, rfl, hd⟩
    · omega
  · omega

theorem ringAdd (x y : Nat) (w : World) (hx : x < big) (hy : y < big) :
    Calls Tryd.prog 15 #[vN x, vN y] w fun e w' => e = .returned (.tuple #[vN (adN x y), .int .i64 (adE x y)]) ∧ Below w.heap.size w w' := by
  unfold adN adE
  by_cases h : x + y < big
  · rw [if_pos h, if_pos h]
    exact Add_yes x y w hx hy h
  · rw [if_neg h, if_neg h]
    exact Add_no x y w hx hy (by omega)

theorem ringMul2 (a : World) (b x y : Nat) (hb : a.heap.size = b) (hx : x < big) (hy : y < big) : Calls Tryd.prog 17 #[.slice (some ⟨b, 0, none⟩) 2 2]
    (a.alloc (.cells #[.int .u32 (dg 0 x), .int .u32 (dg 1 x), .int .u32 (dg 2 x), .int .u32 (dg 3 x), .int .u32 (dg 0 y), .int .u32 (dg 1 y), .int .u32 (dg 2 y), .int .u32 (dg 3 y)] 28)) fun e w' => e = .returned (.tuple #[vN (muN x y), .int .i64 (muE x y)]) ∧
    Below (a.alloc (.cells #[.int .u32 (dg 0 x), .int .u32 (dg 1 x), .int .u32 (dg 2 x), .int .u32 (dg 3 x), .int .u32 (dg 0 y), .int .u32 (dg 1 y), .int .u32 (dg 2 y), .int .u32 (dg 3 y)] 28)).heap.size (a.alloc (.cells #[.int .u32 (dg 0 x), .int .u32 (dg 1 x), .int .u32 (dg 2 x), .int .u32 (dg 3 x), .int .u32 (dg 0 y), .int .u32 (dg 1 y), .int .u32 (dg 2 y), .int .u32 (dg 3 y)] 28)) w' := by
  unfold muN muE
  by_cases h : x * y < big
  · rw [if_pos h, if_pos h]
    exact Mul2_yes a b x y hb hx hy h
  · rw [if_neg h, if_neg h]
    exact Mul2_no a b x y hb hx hy h

theorem ringMul (x y : Nat) (w : World) (hx : x < big) (hy : y < big) :
    Calls Tryd.prog 16 #[vN x, vN y] w fun e w' => e = .returned (.tuple #[vN (muN x y), .int .i64 (muE x y)]) ∧ Below w.heap.size w w' := by
  obtain ⟨r, hr⟩ : ∃ r, muN x y = r := ⟨_, rfl⟩
  obtain ⟨e, he⟩ : ∃ e, muE x y = e := ⟨_, rfl⟩
  rw [hr, he]
  have H := Lib.hid (And.intro hr he)
  clear hr he
  go_enter Tryd.func16, Tryd.ntmps16
  go_wp2_with (go_at_call 17; refine stop_of ?_)
  unfold Stop
  refine (ringMul2 _ _ x y (by simp only [World.size_alloc]) hx hy).mono ?_
  rintro e w1 ⟨rfl, hb⟩
  rw [H.out.1, H.out.2]
  obtain ⟨-, -, rC, -, hB, z0, z1, z2, z3⟩ := rows4 hb
  obtain ⟨c0, c1, c2, c3, f0, f1, f2, f3⟩ := row4 rC
  clear hb
  go_wp2_with fail
  refine bodyPost_ret (res_ct rfl rfl (load4 (rC.stored4 _ _ _ _))) rfl ⟨rfl, ?_⟩
  exact Below.stored4 hB (by omega) _ _ _ _

theorem bel1 {w a : World} {o : Obj} (h : Below w.heap.size w a) : Below w.heap.size w (a.alloc o) := h.alloc h.size o
theorem bel2 {w a : World} {o o' : Obj} (h : Below w.heap.size w a) : Below w.heap.size w ((a.alloc o).alloc o') := bel1 (bel1 h)
theorem dg_small (p : Nat) (h : p < 4294967296) : dg 0 p = (p : Int) ∧ dg 1 p = 0 ∧ dg 2 p = 0 ∧ dg 3 p = 0 := by
  rw [dg0, dg1, dg2, dg3, Nat.mod_eq_of_lt h, Nat.div_eq_of_lt h, Nat.div_eq_of_lt (by omega), Nat.div_eq_of_lt (by omega)]
  exact ⟨rfl, rfl, rfl, rfl⟩
theorem pN_small (p : Nat) (h : p < 4294967296) : pN p = #[vU (p : Int), vU 0, vU 0, vU 0] := by
  unfold pN
  rw [dg0, dg1, dg2, dg3, Nat.mod_eq_of_lt h, Nat.div_eq_of_lt h, Nat.div_eq_of_lt (by omega), Nat.div_eq_of_lt (by omega)]
  rfl
theorem box3 (W : World) (v0 : Array Value) (t0 t : TypeId) (v1 v2 v3 : Array Value) :
    Row (((((W.alloc (.cells v0 t0)).alloc (.cells v1 t)).alloc (.cells v2 t)).alloc (.cells v3 t)).drew) (W.heap.size + 1) t v1 ∧
    Row (((((W.alloc (.cells v0 t0)).alloc (.cells v1 t)).alloc (.cells v2 t)).alloc (.cells v3 t)).drew) (W.heap.size + 1 + 1) t v2 ∧
    Row (((((W.alloc (.cells v0 t0)).alloc (.cells v1 t)).alloc (.cells v2 t)).alloc (.cells v3 t)).drew) (W.heap.size + 1 + 1 + 1) t v3 := by
  obtain ⟨-, h1, h2, h3, -⟩ := rows4 (w := W) (v0 := v0) (v1 := v1) (v2 := v2) (v3 := v3) (t0 := t0) (t1 := t) (t2 := t) (t3 := t) (Below.refl _ _)
  exact ⟨h1.drew, h2.drew, h3.drew⟩
abbrev three0 (a b c d e f g h i j k l : Int) : Array Value := #[vU a, vU b, vU c, vU d, vU e, vU f, vU g, vU h, vU i, vU j, vU k, vU l]

abbrev six (x y z p q r : Nat) : Array Value := #[vU (dg 0 x), vU (dg 1 x), vU (dg 2 x), vU (dg 3 x), vU (dg 0 y), vU (dg 1 y), vU (dg 2 y), vU (dg 3 y), vU (dg 0 z), vU (dg 1 z), vU (dg 2 z), vU (dg 3 z), vU (p : Int), vU 0, vU 0, vU 0, vU (q : Int), vU 0, vU 0, vU 0, vU (r : Int), vU 0, vU 0, vU 0]

def six3 (a b c : Nat) : List Value := [vU (dg 0 a), vU (dg 1 a), vU (dg 2 a), vU (dg 3 a), vU (dg 0 b), vU (dg 1 b), vU (dg 2 b), vU (dg 3 b), vU (dg 0 c), vU (dg 1 c), vU (dg 2 c), vU (dg 3 c)]
theorem six_cells {w : World} {g : Nat} {t : TypeId} {x y z p q r k : Nat} (h : Row w g t (six x y z p q r)) (hx : x < big) (hy : y < big) (hz : z < big) (hp : p < 4294967296) (hq : q < 4294967296) (hr : r < 4294967296) (hk : k < 2) :
    ∃ a b c : Nat, a < big ∧ b < big ∧ c < big ∧ ∀ j, j < 12 → w.cell? ⟨g, k * 12 + j, none⟩ = (six3 a b c)[j]? := by
  have e : k = 0 ∨ k = 1 := by omega
  rcases e with rfl | rfl
  · refine ⟨x, y, z, hx, hy, hz, fun j hj => ?_⟩
    rw [h.cell]
    match j, hj with
    | 0, _ | 1, _ | 2, _ | 3, _ | 4, _ | 5, _ | 6, _ | 7, _ | 8, _ | 9, _ | 10, _ | 11, _ => rfl
  · obtain ⟨p0, p1, p2, p3⟩ := dg_small p hp
    obtain ⟨q0, q1, q2, q3⟩ := dg_small q hq
    obtain ⟨r0, r1, r2, r3⟩ := dg_small r hr
    refine ⟨p, q, r, by unfold big; omega, by unfold big; omega, by unfold big; omega, fun j hj => ?_⟩
    rw [h.cell]
    unfold six3
    rw [p0, p1, p2, p3, q0, q1, q2, q3, r0, r1, r2, r3]
    match j, hj with
    | 0, _ | 1, _ | 2, _ | 3, _ | 4, _ | 5, _ | 6, _ | 7, _ | 8, _ | 9, _ | 10, _ | 11, _ => rfl

theorem NatRing_nat (x y z p q r : Nat) (w : World) (hx : x < big) (hy : y < big) (hz : z < big) (hp : p < 4294967296) (hq : q < 4294967296) (hr : r < 4294967296) :
    Calls Tryd.prog 5 #[vN x, vN y, vN z, .int .u32 (p : Int), .int .u32 (q : Int), .int .u32 (r : Int)] w fun e w' => e = .returned (.bool true) ∧ Below w.heap.size w w' := by
  have d00 : dg 0 0 = 0 := rfl
  have d10 : dg 1 0 = 0 := rfl
  have d20 : dg 2 0 = 0 := rfl
  have d30 : dg 3 0 = 0 := rfl
  go_enter Tryd.func5, Tryd.ntmps5
  go_wp2_with (go_at_call 13; refine stop_of ?_)
  unfold Stop
  refine (nawake_true _).mono ?_
  rintro e w1 ⟨rfl, hb⟩
  obtain ⟨RX, RY, RZ⟩ := new3 hb
  have hB := call3 (Below.refl _ w) hb
  clear hb
  obtain ⟨cX0, cX1, cX2, cX3, -⟩ := row4 RX
  have zX := RX.lt
  obtain ⟨cY0, cY1, cY2, cY3, -⟩ := row4 RY
  have zY := RY.lt
  have yY := Nat.lt_of_succ_lt zY
  obtain ⟨cZ0, cZ1, cZ2, cZ3, -⟩ := row4 RZ
  have zZ := RZ.lt
  go_wp2_with fail
  go_loopw [55] (fun i wr => ∃ k : Nat, i = .int .i64 k ∧ k ≤ 2 ∧ Row wr w1.heap.size 29 (six x y z p q r) ∧ Below w.heap.size w wr) (fun i _ => 2 - (intOf i).toNat)
  case atStart => exact ⟨0, rfl, by omega, Row.new _ _ _, hB.alloc hB.size _⟩
  case round =>
    clear cX0 cX1 cX2 cX3 cY0 cY1 cY2 cY3 cZ0 cZ1 cZ2 cZ3 zX zY yY zZ RX RY RZ hB
    obtain ⟨k, rfl, hk, RR, hB⟩ := hrel
    -- ROUNDS
    by_cases hk2 : k < 2
    · obtain ⟨a, b, c, ha, hb9, hc, hcell⟩ := six_cells RR hx hy hz hp hq hr hk2
      have g0 := hcell 0 (by decide)
      have g1 := hcell 1 (by decide)
      have g2 := hcell 2 (by decide)
      have g3 := hcell 3 (by decide)
      have g4 := hcell 4 (by decide)
      have g5 := hcell 5 (by decide)
      have g6 := hcell 6 (by decide)
      have g7 := hcell 7 (by decide)
      have g8 := hcell 8 (by decide)
      have g9 := hcell 9 (by decide)
      have g10 := hcell 10 (by decide)
      have g11 := hcell 11 (by decide)
      simp only [six3, List.getElem?_cons_zero, List.getElem?_cons_succ, Nat.add_zero] at g0 g1 g2 g3 g4 g5 g6 g7 g8 g9 g10 g11
      clear hcell
      have zR := RR.lt
      go_upto_region 6 with fail
      go_cut [15, 16, 17] (fun s15 s16 s17 wx => ∃ A B C : Nat, s15 = .pointer (some ⟨A, 0, none⟩) ∧ s16 = .pointer (some ⟨B, 0, none⟩) ∧ s17 = .pointer (some ⟨C, 0, none⟩) ∧ Row wx A 28 (pN a) ∧ Row wx B 28 (pN b) ∧ Row wx C 28 (pN c) ∧ Row wx w1.heap.size 29 (six x y z p q r) ∧ Below w.heap.size w wx)
      case first =>
        go_region_held3 (fun w' => w'.cell? ⟨wr.heap.size, 0, none⟩ = some (vU (dg 0 a)) ∧ w'.cell? ⟨wr.heap.size, 1, none⟩ = some (vU (dg 1 a)) ∧ w'.cell? ⟨wr.heap.size, 2, none⟩ = some (vU (dg 2 a)) ∧ w'.cell? ⟨wr.heap.size, 3, none⟩ = some (vU (dg 3 a)) ∧ w'.cell? ⟨wr.heap.size, 4, none⟩ = some (vU (dg 0 b)) ∧ w'.cell? ⟨wr.heap.size, 5, none⟩ = some (vU (dg 1 b)) ∧ w'.cell? ⟨wr.heap.size, 6, none⟩ = some (vU (dg 2 b)) ∧ w'.cell? ⟨wr.heap.size, 7, none⟩ = some (vU (dg 3 b)) ∧ w'.cell? ⟨wr.heap.size, 8, none⟩ = some (vU (dg 0 c)) ∧ w'.cell? ⟨wr.heap.size, 9, none⟩ = some (vU (dg 1 c)) ∧ w'.cell? ⟨wr.heap.size, 10, none⟩ = some (vU (dg 2 c)) ∧ w'.cell? ⟨wr.heap.size, 11, none⟩ = some (vU (dg 3 c))) (go_keep) (fail)
        all_goals
          go_wp2_with fail
          go_meet
          have h3 := box3 wr (three0 (dg 0 a) (dg 1 a) (dg 2 a) (dg 3 a) (dg 0 b) (dg 1 b) (dg 2 b) (dg 3 b) (dg 0 c) (dg 1 c) (dg 2 c) (dg 3 c)) 29 28
          refine ⟨_, _, _, rfl, rfl, rfl, by first | exact (h3 _ _ _).1 | exact (h3 _ _ _).2.1 | exact (h3 _ _ _).2.2, by first | exact (h3 _ _ _).1 | exact (h3 _ _ _).2.1 | exact (h3 _ _ _).2.2, by first | exact (h3 _ _ _).1 | exact (h3 _ _ _).2.1 | exact (h3 _ _ _).2.2, ?_, ?_⟩
          · exact ((((RR.alloc _).alloc _).alloc _).alloc _).drew
          · exact (bel2 (bel2 hB)).drew
      case rest =>
        clear RR hB
        obtain ⟨A, B, C, rfl, rfl, rfl, RA, RB, RC, RR, hB⟩ := hcut
        clear g0 g1 g2 g3 g4 g5 g6 g7 g8 g9 g10 g11 zR
        go_wp2_with fail
        go_loopw [67] (fun i wr2 => ∃ k2 : Nat, i = .int .i64 k2 ∧ k2 ≤ 2 ∧ Row wr2 A 28 (pN a) ∧ Row wr2 B 28 (pN b) ∧ Row wr2 C 28 (pN c) ∧ Row wr2 wc.heap.size 31 #[.func (.func 15) #[] #[], .func (.func 16) #[] #[]] ∧ Row wr2 w1.heap.size 29 (six x y z p q r) ∧ Below w.heap.size w wr2) (fun i _ => 2 - (intOf i).toNat)
        case atStart => exact ⟨0, rfl, by omega, RA.alloc _, RB.alloc _, RC.alloc _, Row.new _ _ _, RR.alloc _, hB.alloc hB.size _⟩
        case round =>
          clear RA RB RC RR hB
          obtain ⟨k2, rfl, hk2, RA, RB, RC, RF, RR, hB⟩ := hrel
          have k23 : k2 = 0 ∨ k2 = 1 ∨ k2 = 2 := by omega
          rcases k23 with rfl | rfl | rfl
          · have f0 := RF.cell 0
            simp only [List.getElem?_toArray, List.getElem?_cons_zero, List.getElem?_cons_succ] at f0
            have zF := RF.lt
            obtain ⟨p0, hp⟩ : ∃ p0, adN a b = p0 := ⟨_, rfl⟩
            have hpb : p0 < big := by rw [← hp]; exact adLaw.bd _ _
            obtain ⟨e1, he1⟩ : ∃ e1, adE a b = e1 := ⟨_, rfl⟩
            have hq : adN b a = p0 := by rw [adLaw.comm, hp]
            have he2 : adE b a = e1 := by rw [adLaw.ecomm, he1]
            obtain ⟨r0, hr⟩ : ∃ r0, adN p0 c = r0 := ⟨_, rfl⟩
            obtain ⟨g, hg⟩ : ∃ g, adE p0 c = g := ⟨_, rfl⟩
            obtain ⟨s0, hs⟩ : ∃ s0, adN b c = s0 := ⟨_, rfl⟩
            have hsb : s0 < big := by rw [← hs]; exact adLaw.bd _ _
            obtain ⟨h, hh⟩ : ∃ h, adE b c = h := ⟨_, rfl⟩
            obtain ⟨t0, ht⟩ : ∃ t0, adN a s0 = t0 := ⟨_, rfl⟩
            obtain ⟨i0, hi⟩ : ∃ i0, adE a s0 = i0 := ⟨_, rfl⟩
            have x1 := adLaw.err a b
            have x2 := adLaw.err p0 c
            have x3 := adLaw.err b c
            have x4 := adLaw.err a s0
            have xa := adLaw.assoc a b c
            rw [hp, hs] at xa
            rw [hr, ht] at xa
            rw [he1] at x1 xa
            rw [hg] at x2 xa
            rw [hh] at x3 xa
            rw [hi] at x4 xa
            have H := Lib.hid (And.intro hp (And.intro he1 (And.intro hq (And.intro he2 (And.intro hr (And.intro hg (And.intro hs (And.intro hh (And.intro ht hi)))))))))
            clear hp he1 hq he2 hr hg hs hh ht hi
            have hcase : (e1 = 0 ∧ g = 0 ∧ h = 0 ∧ i0 = 0) ∨ ¬ (e1 = 0 ∧ g = 0 ∧ h = 0 ∧ i0 = 0) ∧ e1 = 0 ∨ ¬ (e1 = 0 ∧ g = 0 ∧ h = 0 ∧ i0 = 0) ∧ e1 = 3 := by omega
            rcases hcase with ⟨rfl, rfl, rfl, rfl⟩ | ⟨hno, he0⟩ | ⟨hno, he0⟩
            · have hrt := xa rfl rfl rfl rfl
              have HT := Lib.hid hrt
              clear x1 x2 x3 x4 xa hrt
              obtain ⟨cA0, cA1, cA2, cA3, -⟩ := row4 RA
              have zA := RA.lt
              obtain ⟨cB0, cB1, cB2, cB3, -⟩ := row4 RB
              have zB := RB.lt
              go_wp2_with (go_at_call 15; refine stop_of ?_)
              unfold Stop
              refine (ringAdd a b _ ha hb9).mono ?_
              rintro e v1 ⟨rfl, hb⟩
              rw [H.out.1, H.out.2.1]
              clear cA0 cA1 cA2 cA3 cB0 cB1 cB2 cB3 zA zB
              replace RA := row0 RA hb
              replace RB := row0 RB hb
              replace RC := row0 RC hb
              replace RF := row0 RF hb
              replace RR := row0 RR hb
              replace hB := call0 hB hb
              clear hb
              obtain ⟨cA0, cA1, cA2, cA3, -⟩ := row4 RA
              have zA := RA.lt
              obtain ⟨cB0, cB1, cB2, cB3, -⟩ := row4 RB
              have zB := RB.lt
              go_wp2_with (go_at_call 15; refine stop_of ?_)
              unfold Stop
              refine (ringAdd b a _ hb9 ha).mono ?_
              rintro e v2 ⟨rfl, hb⟩
              rw [H.out.2.2.1, H.out.2.2.2.1]
              clear cA0 cA1 cA2 cA3 cB0 cB1 cB2 cB3 zA zB
              replace RA := row1 RA hb
              replace RB := row1 RB hb
              replace RC := row1 RC hb
              replace RF := row1 RF hb
              replace RR := row1 RR hb
              have RP := new1 hb
              replace hB := call1 hB hb
              clear hb
              obtain ⟨cP0, cP1, cP2, cP3, -⟩ := row4 RP
              have zP := RP.lt
              obtain ⟨cC0, cC1, cC2, cC3, -⟩ := row4 RC
              have zC := RC.lt
              go_wp2_with (go_at_call 15; refine stop_of ?_)
              unfold Stop
              refine (ringAdd p0 c _ hpb hc).mono ?_
              rintro e v3 ⟨rfl, hb⟩
              rw [H.out.2.2.2.2.1, H.out.2.2.2.2.2.1]
              clear cP0 cP1 cP2 cP3 cC0 cC1 cC2 cC3 zP zC
              replace RA := row1 RA hb
              replace RB := row1 RB hb
              replace RC := row1 RC hb
              replace RF := row1 RF hb
              replace RP := row1 RP hb
              replace RR := row1 RR hb
              have RQ := new1 hb
              replace hB := call1 hB hb
              clear hb
              obtain ⟨cB0, cB1, cB2, cB3, -⟩ := row4 RB
              have zB := RB.lt
              obtain ⟨cC0, cC1, cC2, cC3, -⟩ := row4 RC
              have zC := RC.lt
              go_wp2_with (go_at_call 15; refine stop_of ?_)
              unfold Stop
              refine (ringAdd b c _ hb9 hc).mono ?_
              rintro e v4 ⟨rfl, hb⟩
              rw [H.out.2.2.2.2.2.2.1, H.out.2.2.2.2.2.2.2.1]
              clear cB0 cB1 cB2 cB3 cC0 cC1 cC2 cC3 zB zC
              replace RA := row1 RA hb
              replace RB := row1 RB hb
              replace RC := row1 RC hb
              replace RF := row1 RF hb
              replace RP := row1 RP hb
              replace RQ := row1 RQ hb
              replace RR := row1 RR hb
              have RU := new1 hb
              replace hB := call1 hB hb
              clear hb
              obtain ⟨cA0, cA1, cA2, cA3, -⟩ := row4 RA
              have zA := RA.lt
              obtain ⟨cU0, cU1, cU2, cU3, -⟩ := row4 RU
              have zU := RU.lt
              go_wp2_with (go_at_call 15; refine stop_of ?_)
              unfold Stop
              refine (ringAdd a s0 _ ha hsb).mono ?_
              rintro e v5 ⟨rfl, hb⟩
              rw [H.out.2.2.2.2.2.2.2.2.1, H.out.2.2.2.2.2.2.2.2.2]
              clear cA0 cA1 cA2 cA3 cU0 cU1 cU2 cU3 zA zU
              replace RA := row1 RA hb
              replace RB := row1 RB hb
              replace RC := row1 RC hb
              replace RF := row1 RF hb
              replace RP := row1 RP hb
              replace RQ := row1 RQ hb
              replace RU := row1 RU hb
              replace RR := row1 RR hb
              have RS := new1 hb
              replace hB := call1 hB hb
              clear hb
              obtain ⟨cU0, cU1, cU2, cU3, -⟩ := row4 RU
              have zU := RU.lt
              obtain rfl := HT.out
              go_wp2_with fail
              exact ⟨⟨1, by go_num, by omega, RA.alloc _, RB.alloc _, RC.alloc _, RF.alloc _, RR.alloc _, hB.alloc hB.size _⟩, by simp [intOf]⟩
            · have l1 : 0 ≤ e1 ∧ e1 ≤ 3 := by omega
              have l2 : 0 ≤ g ∧ g ≤ 3 := by omega
              have l3 : 0 ≤ h ∧ h ≤ 3 := by omega
              have l4 : 0 ≤ i0 ∧ i0 ≤ 3 := by omega
              have m0 : ((e1 + g + h + i0 : Int) == 0) = false := by rw [beq_eq_false_iff_ne]; omega
              have m1 : ((e1 : Int) != 0) = false := by rw [he0]; rfl
              obtain ⟨l10, l11⟩ := l1
              obtain ⟨l20, l21⟩ := l2
              obtain ⟨l30, l31⟩ := l3
              obtain ⟨l40, l41⟩ := l4
              clear x1 x2 x3 x4 xa hno he0
              obtain ⟨cA0, cA1, cA2, cA3, -⟩ := row4 RA
              have zA := RA.lt
              obtain ⟨cB0, cB1, cB2, cB3, -⟩ := row4 RB
              have zB := RB.lt
              go_wp2_with (go_at_call 15; refine stop_of ?_)
              unfold Stop
              refine (ringAdd a b _ ha hb9).mono ?_
              rintro e v1 ⟨rfl, hb⟩
              rw [H.out.1, H.out.2.1]
              clear cA0 cA1 cA2 cA3 cB0 cB1 cB2 cB3 zA zB
              replace RA := row0 RA hb
              replace RB := row0 RB hb
              replace RC := row0 RC hb
              replace RF := row0 RF hb
              replace RR := row0 RR hb
              replace hB := call0 hB hb
              clear hb
              obtain ⟨cA0, cA1, cA2, cA3, -⟩ := row4 RA
              have zA := RA.lt
              obtain ⟨cB0, cB1, cB2, cB3, -⟩ := row4 RB
              have zB := RB.lt
              go_wp2_with (go_at_call 15; refine stop_of ?_)
              unfold Stop
              refine (ringAdd b a _ hb9 ha).mono ?_
              rintro e v2 ⟨rfl, hb⟩
              rw [H.out.2.2.1, H.out.2.2.2.1]
              clear cA0 cA1 cA2 cA3 cB0 cB1 cB2 cB3 zA zB
              replace RA := row1 RA hb
              replace RB := row1 RB hb
              replace RC := row1 RC hb
              replace RF := row1 RF hb
              replace RR := row1 RR hb
              have RP := new1 hb
              replace hB := call1 hB hb
              clear hb
              obtain ⟨cP0, cP1, cP2, cP3, -⟩ := row4 RP
              have zP := RP.lt
              obtain ⟨cC0, cC1, cC2, cC3, -⟩ := row4 RC
              have zC := RC.lt
              go_wp2_with (go_at_call 15; refine stop_of ?_)
              unfold Stop
              refine (ringAdd p0 c _ hpb hc).mono ?_
              rintro e v3 ⟨rfl, hb⟩
              rw [H.out.2.2.2.2.1, H.out.2.2.2.2.2.1]
              clear cP0 cP1 cP2 cP3 cC0 cC1 cC2 cC3 zP zC
              replace RA := row1 RA hb
              replace RB := row1 RB hb
              replace RC := row1 RC hb
              replace RF := row1 RF hb
              replace RP := row1 RP hb
              replace RR := row1 RR hb
              have RQ := new1 hb
              replace hB := call1 hB hb
              clear hb
              obtain ⟨cB0, cB1, cB2, cB3, -⟩ := row4 RB
              have zB := RB.lt
              obtain ⟨cC0, cC1, cC2, cC3, -⟩ := row4 RC
              have zC := RC.lt
              go_wp2_with (go_at_call 15; refine stop_of ?_)
              unfold Stop
              refine (ringAdd b c _ hb9 hc).mono ?_
              rintro e v4 ⟨rfl, hb⟩
              rw [H.out.2.2.2.2.2.2.1, H.out.2.2.2.2.2.2.2.1]
              clear cB0 cB1 cB2 cB3 cC0 cC1 cC2 cC3 zB zC
              replace RA := row1 RA hb
              replace RB := row1 RB hb
              replace RC := row1 RC hb
              replace RF := row1 RF hb
              replace RP := row1 RP hb
              replace RQ := row1 RQ hb
              replace RR := row1 RR hb
              have RU := new1 hb
              replace hB := call1 hB hb
              clear hb
              obtain ⟨cA0, cA1, cA2, cA3, -⟩ := row4 RA
              have zA := RA.lt
              obtain ⟨cU0, cU1, cU2, cU3, -⟩ := row4 RU
              have zU := RU.lt
              go_wp2_with (go_at_call 15; refine stop_of ?_)
              unfold Stop
              refine (ringAdd a s0 _ ha hsb).mono ?_
              rintro e v5 ⟨rfl, hb⟩
              rw [H.out.2.2.2.2.2.2.2.2.1, H.out.2.2.2.2.2.2.2.2.2]
              clear cA0 cA1 cA2 cA3 cU0 cU1 cU2 cU3 zA zU
              replace RA := row1 RA hb
              replace RB := row1 RB hb
              replace RC := row1 RC hb
              replace RF := row1 RF hb
              replace RP := row1 RP hb
              replace RQ := row1 RQ hb
              replace RU := row1 RU hb
              replace RR := row1 RR hb
              have RS := new1 hb
              replace hB := call1 hB hb
              clear hb
              obtain ⟨cU0, cU1, cU2, cU3, -⟩ := row4 RU
              have zU := RU.lt
              go_wp2_with fail
              exact ⟨⟨1, by go_num, by omega, RA.alloc _, RB.alloc _, RC.alloc _, RF.alloc _, RR.alloc _, hB.alloc hB.size _⟩, by simp [intOf]⟩
            · have l1 : 0 ≤ e1 ∧ e1 ≤ 3 := by omega
              have l2 : 0 ≤ g ∧ g ≤ 3 := by omega
              have l3 : 0 ≤ h ∧ h ≤ 3 := by omega
              have l4 : 0 ≤ i0 ∧ i0 ≤ 3 := by omega
              have m0 : ((e1 + g + h + i0 : Int) == 0) = false := by rw [beq_eq_false_iff_ne]; omega
              have m1 : ((e1 : Int) != 0) = true := by rw [he0]; rfl
              have m2 : ((e1 : Int) != 3) = false := by rw [he0]; rfl
              obtain ⟨l10, l11⟩ := l1
              obtain ⟨l20, l21⟩ := l2
              obtain ⟨l30, l31⟩ := l3
              obtain ⟨l40, l41⟩ := l4
              clear x1 x2 x3 x4 xa hno he0
              obtain ⟨cA0, cA1, cA2, cA3, -⟩ := row4 RA
              have zA := RA.lt
              obtain ⟨cB0, cB1, cB2, cB3, -⟩ := row4 RB
              have zB := RB.lt
              go_wp2_with (go_at_call 15; refine stop_of ?_)
              unfold Stop
              refine (ringAdd a b _ ha hb9).mono ?_
              rintro e v1 ⟨rfl, hb⟩
              rw [H.out.1, H.out.2.1]
              clear cA0 cA1 cA2 cA3 cB0 cB1 cB2 cB3 zA zB
              replace RA := row0 RA hb
              replace RB := row0 RB hb
              replace RC := row0 RC hb
              replace RF := row0 RF hb
              replace RR := row0 RR hb
              replace hB := call0 hB hb
              clear hb
              obtain ⟨cA0, cA1, cA2, cA3, -⟩ := row4 RA
              have zA := RA.lt
              obtain ⟨cB0, cB1, cB2, cB3, -⟩ := row4 RB
              have zB := RB.lt
              go_wp2_with (go_at_call 15; refine stop_of ?_)
              unfold Stop
              refine (ringAdd b a _ hb9 ha).mono ?_
              rintro e v2 ⟨rfl, hb⟩
              rw [H.out.2.2.1, H.out.2.2.2.1]
              clear cA0 cA1 cA2 cA3 cB0 cB1 cB2 cB3 zA zB
              replace RA := row1 RA hb
              replace RB := row1 RB hb
              replace RC := row1 RC hb
              replace RF := row1 RF hb
              replace RR := row1 RR hb
              have RP := new1 hb
              replace hB := call1 hB hb
              clear hb
              obtain ⟨cP0, cP1, cP2, cP3, -⟩ := row4 RP
              have zP := RP.lt
              obtain ⟨cC0, cC1, cC2, cC3, -⟩ := row4 RC
              have zC := RC.lt
              go_wp2_with (go_at_call 15; refine stop_of ?_)
              unfold Stop
              refine (ringAdd p0 c _ hpb hc).mono ?_
              rintro e v3 ⟨rfl, hb⟩
              rw [H.out.2.2.2.2.1, H.out.2.2.2.2.2.1]
              clear cP0 cP1 cP2 cP3 cC0 cC1 cC2 cC3 zP zC
              replace RA := row1 RA hb
              replace RB := row1 RB hb
              replace RC := row1 RC hb
              replace RF := row1 RF hb
              replace RP := row1 RP hb
              replace RR := row1 RR hb
              have RQ := new1 hb
              replace hB := call1 hB hb
              clear hb
              obtain ⟨cB0, cB1, cB2, cB3, -⟩ := row4 RB
              have zB := RB.lt
              obtain ⟨cC0, cC1, cC2, cC3, -⟩ := row4 RC
              have zC := RC.lt
              go_wp2_with (go_at_call 15; refine stop_of ?_)
              unfold Stop
              refine (ringAdd b c _ hb9 hc).mono ?_
              rintro e v4 ⟨rfl, hb⟩
              rw [H.out.2.2.2.2.2.2.1, H.out.2.2.2.2.2.2.2.1]
              clear cB0 cB1 cB2 cB3 cC0 cC1 cC2 cC3 zB zC
              replace RA := row1 RA hb
              replace RB := row1 RB hb
              replace RC := row1 RC hb
              replace RF := row1 RF hb
              replace RP := row1 RP hb
              replace RQ := row1 RQ hb
              replace RR := row1 RR hb
              have RU := new1 hb
              replace hB := call1 hB hb
              clear hb
              obtain ⟨cA0, cA1, cA2, cA3, -⟩ := row4 RA
              have zA := RA.lt
              obtain ⟨cU0, cU1, cU2, cU3, -⟩ := row4 RU
              have zU := RU.lt
              go_wp2_with (go_at_call 15; refine stop_of ?_)
              unfold Stop
              refine (ringAdd a s0 _ ha hsb).mono ?_
              rintro e v5 ⟨rfl, hb⟩
              rw [H.out.2.2.2.2.2.2.2.2.1, H.out.2.2.2.2.2.2.2.2.2]
              clear cA0 cA1 cA2 cA3 cU0 cU1 cU2 cU3 zA zU
              replace RA := row1 RA hb
              replace RB := row1 RB hb
              replace RC := row1 RC hb
              replace RF := row1 RF hb
              replace RP := row1 RP hb
              replace RQ := row1 RQ hb
              replace RU := row1 RU hb
              replace RR := row1 RR hb
              have RS := new1 hb
              replace hB := call1 hB hb
              clear hb
              obtain ⟨cU0, cU1, cU2, cU3, -⟩ := row4 RU
              have zU := RU.lt
              go_wp2_with fail
              exact ⟨⟨1, by go_num, by omega, RA.alloc _, RB.alloc _, RC.alloc _, RF.alloc _, RR.alloc _, hB.alloc hB.size _⟩, by simp [intOf]⟩
          · have f0 := RF.cell 1
            simp only [List.getElem?_toArray, List.getElem?_cons_zero, List.getElem?_cons_succ] at f0
            have zF := RF.lt
            obtain ⟨p0, hp⟩ : ∃ p0, muN a b = p0 := ⟨_, rfl⟩
            have hpb : p0 < big := by rw [← hp]; exact muLaw.bd _ _
            obtain ⟨e1, he1⟩ : ∃ e1, muE a b = e1 := ⟨_, rfl⟩
            have hq : muN b a = p0 := by rw [muLaw.comm, hp]
            have he2 : muE b a = e1 := by rw [muLaw.ecomm, he1]
            obtain ⟨r0, hr⟩ : ∃ r0, muN p0 c = r0 := ⟨_, rfl⟩
            obtain ⟨g, hg⟩ : ∃ g, muE p0 c = g := ⟨_, rfl⟩
            obtain ⟨s0, hs⟩ : ∃ s0, muN b c = s0 := ⟨_, rfl⟩
            have hsb : s0 < big := by rw [← hs]; exact muLaw.bd _ _
            obtain ⟨h, hh⟩ : ∃ h, muE b c = h := ⟨_, rfl⟩
            obtain ⟨t0, ht⟩ : ∃ t0, muN a s0 = t0 := ⟨_, rfl⟩
            obtain ⟨i0, hi⟩ : ∃ i0, muE a s0 = i0 := ⟨_, rfl⟩
            have x1 := muLaw.err a b
            have x2 := muLaw.err p0 c
            have x3 := muLaw.err b c
            have x4 := muLaw.err a s0
            have xa := muLaw.assoc a b c
            rw [hp, hs] at xa
            rw [hr, ht] at xa
            rw [he1] at x1 xa
            rw [hg] at x2 xa
            rw [hh] at x3 xa
            rw [hi] at x4 xa
            have H := Lib.hid (And.intro hp (And.intro he1 (And.intro hq (And.intro he2 (And.intro hr (And.intro hg (And.intro hs (And.intro hh (And.intro ht hi)))))))))
            clear hp he1 hq he2 hr hg hs hh ht hi
            have hcase : (e1 = 0 ∧ g = 0 ∧ h = 0 ∧ i0 = 0) ∨ ¬ (e1 = 0 ∧ g = 0 ∧ h = 0 ∧ i0 = 0) ∧ e1 = 0 ∨ ¬ (e1 = 0 ∧ g = 0 ∧ h = 0 ∧ i0 = 0) ∧ e1 = 3 := by omega
            rcases hcase with ⟨rfl, rfl, rfl, rfl⟩ | ⟨hno, he0⟩ | ⟨hno, he0⟩
            · have hrt := xa rfl rfl rfl rfl
              have HT := Lib.hid hrt
              clear x1 x2 x3 x4 xa hrt
              obtain ⟨cA0, cA1, cA2, cA3, -⟩ := row4 RA
              have zA := RA.lt
              obtain ⟨cB0, cB1, cB2, cB3, -⟩ := row4 RB
              have zB := RB.lt
              go_wp2_with (go_at_call 16; refine stop_of ?_)
              unfold Stop
              refine (ringMul a b _ ha hb9).mono ?_
              rintro e v1 ⟨rfl, hb⟩
              rw [H.out.1, H.out.2.1]
              clear cA0 cA1 cA2 cA3 cB0 cB1 cB2 cB3 zA zB
              replace RA := row0 RA hb
              replace RB := row0 RB hb
              replace RC := row0 RC hb
              replace RF := row0 RF hb
              replace RR := row0 RR hb
              replace hB := call0 hB hb
              clear hb
              obtain ⟨cA0, cA1, cA2, cA3, -⟩ := row4 RA
              have zA := RA.lt
              obtain ⟨cB0, cB1, cB2, cB3, -⟩ := row4 RB
              have zB := RB.lt
              go_wp2_with (go_at_call 16; refine stop_of ?_)
              unfold Stop
              refine (ringMul b a _ hb9 ha).mono ?_
              rintro e v2 ⟨rfl, hb⟩
              rw [H.out.2.2.1, H.out.2.2.2.1]
              clear cA0 cA1 cA2 cA3 cB0 cB1 cB2 cB3 zA zB
              replace RA := row1 RA hb
              replace RB := row1 RB hb
              replace RC := row1 RC hb
              replace RF := row1 RF hb
              replace RR := row1 RR hb
              have RP := new1 hb
              replace hB := call1 hB hb
              clear hb
              obtain ⟨cP0, cP1, cP2, cP3, -⟩ := row4 RP
              have zP := RP.lt
              obtain ⟨cC0, cC1, cC2, cC3, -⟩ := row4 RC
              have zC := RC.lt
              go_wp2_with (go_at_call 16; refine stop_of ?_)
              unfold Stop
              refine (ringMul p0 c _ hpb hc).mono ?_
              rintro e v3 ⟨rfl, hb⟩
              rw [H.out.2.2.2.2.1, H.out.2.2.2.2.2.1]
              clear cP0 cP1 cP2 cP3 cC0 cC1 cC2 cC3 zP zC
              replace RA := row1 RA hb
              replace RB := row1 RB hb
              replace RC := row1 RC hb
              replace RF := row1 RF hb
              replace RP := row1 RP hb
              replace RR := row1 RR hb
              have RQ := new1 hb
              replace hB := call1 hB hb
              clear hb
              obtain ⟨cB0, cB1, cB2, cB3, -⟩ := row4 RB
              have zB := RB.lt
              obtain ⟨cC0, cC1, cC2, cC3, -⟩ := row4 RC
              have zC := RC.lt
              go_wp2_with (go_at_call 16; refine stop_of ?_)
              unfold Stop
              refine (ringMul b c _ hb9 hc).mono ?_
              rintro e v4 ⟨rfl, hb⟩
              rw [H.out.2.2.2.2.2.2.1, H.out.2.2.2.2.2.2.2.1]
              clear cB0 cB1 cB2 cB3 cC0 cC1 cC2 cC3 zB zC
              replace RA := row1 RA hb
              replace RB := row1 RB hb
              replace RC := row1 RC hb
              replace RF := row1 RF hb
              replace RP := row1 RP hb
              replace RQ := row1 RQ hb
              replace RR := row1 RR hb
              have RU := new1 hb
              replace hB := call1 hB hb
              clear hb
              obtain ⟨cA0, cA1, cA2, cA3, -⟩ := row4 RA
              have zA := RA.lt
              obtain ⟨cU0, cU1, cU2, cU3, -⟩ := row4 RU
              have zU := RU.lt
              go_wp2_with (go_at_call 16; refine stop_of ?_)
              unfold Stop
              refine (ringMul a s0 _ ha hsb).mono ?_
              rintro e v5 ⟨rfl, hb⟩
              rw [H.out.2.2.2.2.2.2.2.2.1, H.out.2.2.2.2.2.2.2.2.2]
              clear cA0 cA1 cA2 cA3 cU0 cU1 cU2 cU3 zA zU
              replace RA := row1 RA hb
              replace RB := row1 RB hb
              replace RC := row1 RC hb
              replace RF := row1 RF hb
              replace RP := row1 RP hb
              replace RQ := row1 RQ hb
              replace RU := row1 RU hb
              replace RR := row1 RR hb
              have RS := new1 hb
              replace hB := call1 hB hb
              clear hb
              obtain ⟨cU0, cU1, cU2, cU3, -⟩ := row4 RU
              have zU := RU.lt
              obtain rfl := HT.out
              go_wp2_with fail
              exact ⟨⟨2, by go_num, by omega, RA.alloc _, RB.alloc _, RC.alloc _, RF.alloc _, RR.alloc _, hB.alloc hB.size _⟩, by simp [intOf]⟩
            · have l1 : 0 ≤ e1 ∧ e1 ≤ 3 := by omega
              have l2 : 0 ≤ g ∧ g ≤ 3 := by omega
              have l3 : 0 ≤ h ∧ h ≤ 3 := by omega
              have l4 : 0 ≤ i0 ∧ i0 ≤ 3 := by omega
              have m0 : ((e1 + g + h + i0 : Int) == 0) = false := by rw [beq_eq_false_iff_ne]; omega
              have m1 : ((e1 : Int) != 0) = false := by rw [he0]; rfl
              obtain ⟨l10, l11⟩ := l1
              obtain ⟨l20, l21⟩ := l2
              obtain ⟨l30, l31⟩ := l3
              obtain ⟨l40, l41⟩ := l4
              clear x1 x2 x3 x4 xa hno he0
              obtain ⟨cA0, cA1, cA2, cA3, -⟩ := row4 RA
              have zA := RA.lt
              obtain ⟨cB0, cB1, cB2, cB3, -⟩ := row4 RB
              have zB := RB.lt
              go_wp2_with (go_at_call 16; refine stop_of ?_)
              unfold Stop
              refine (ringMul a b _ ha hb9).mono ?_
              rintro e v1 ⟨rfl, hb⟩
              rw [H.out.1, H.out.2.1]
              clear cA0 cA1 cA2 cA3 cB0 cB1 cB2 cB3 zA zB
              replace RA := row0 RA hb
              replace RB := row0 RB hb
              replace RC := row0 RC hb
              replace RF := row0 RF hb
              replace RR := row0 RR hb
              replace hB := call0 hB hb
              clear hb
              obtain ⟨cA0, cA1, cA2, cA3, -⟩ := row4 RA
              have zA := RA.lt
              obtain ⟨cB0, cB1, cB2, cB3, -⟩ := row4 RB
              have zB := RB.lt
              go_wp2_with (go_at_call 16; refine stop_of ?_)
              unfold Stop
              refine (ringMul b a _ hb9 ha).mono ?_
              rintro e v2 ⟨rfl, hb⟩
              rw [H.out.2.2.1, H.out.2.2.2.1]
              clear cA0 cA1 cA2 cA3 cB0 cB1 cB2 cB3 zA zB
              replace RA := row1 RA hb
              replace RB := row1 RB hb
              replace RC := row1 RC hb
              replace RF := row1 RF hb
              replace RR := row1 RR hb
              have RP := new1 hb
              replace hB := call1 hB hb
              clear hb
              obtain ⟨cP0, cP1, cP2, cP3, -⟩ := row4 RP
              have zP := RP.lt
              obtain ⟨cC0, cC1, cC2, cC3, -⟩ := row4 RC
              have zC := RC.lt
              go_wp2_with (go_at_call 16; refine stop_of ?_)
              unfold Stop
              refine (ringMul p0 c _ hpb hc).mono ?_
              rintro e v3 ⟨rfl, hb⟩
              rw [H.out.2.2.2.2.1, H.out.2.2.2.2.2.1]
              clear cP0 cP1 cP2 cP3 cC0 cC1 cC2 cC3 zP zC
              replace RA := row1 RA hb
              replace RB := row1 RB hb
              replace RC := row1 RC hb
              replace RF := row1 RF hb
              replace RP := row1 RP hb
              replace RR := row1 RR hb
              have RQ := new1 hb
              replace hB := call1 hB hb
              clear hb
              obtain ⟨cB0, cB1, cB2, cB3, -⟩ := row4 RB
              have zB := RB.lt
              obtain ⟨cC0, cC1, cC2, cC3, -⟩ := row4 RC
              have zC := RC.lt
              go_wp2_with (go_at_call 16; refine stop_of ?_)
              unfold Stop
              refine (ringMul b c _ hb9 hc).mono ?_
              rintro e v4 ⟨rfl, hb⟩
              rw [H.out.2.2.2.2.2.2.1, H.out.2.2.2.2.2.2.2.1]
              clear cB0 cB1 cB2 cB3 cC0 cC1 cC2 cC3 zB zC
              replace RA := row1 RA hb
              replace RB := row1 RB hb
              replace RC := row1 RC hb
              replace RF := row1 RF hb
              replace RP := row1 RP hb
              replace RQ := row1 RQ hb
              replace RR := row1 RR hb
              have RU := new1 hb
              replace hB := call1 hB hb
              clear hb
              obtain ⟨cA0, cA1, cA2, cA3, -⟩ := row4 RA
              have zA := RA.lt
              obtain ⟨cU0, cU1, cU2, cU3, -⟩ := row4 RU
              have zU := RU.lt
              go_wp2_with (go_at_call 16; refine stop_of ?_)
              unfold Stop
              refine (ringMul a s0 _ ha hsb).mono ?_
              rintro e v5 ⟨rfl, hb⟩
              rw [H.out.2.2.2.2.2.2.2.2.1, H.out.2.2.2.2.2.2.2.2.2]
              clear cA0 cA1 cA2 cA3 cU0 cU1 cU2 cU3 zA zU
              replace RA := row1 RA hb
              replace RB := row1 RB hb
              replace RC := row1 RC hb
              replace RF := row1 RF hb
              replace RP := row1 RP hb
              replace RQ := row1 RQ hb
              replace RU := row1 RU hb
              replace RR := row1 RR hb
              have RS := new1 hb
              replace hB := call1 hB hb
              clear hb
              obtain ⟨cU0, cU1, cU2, cU3, -⟩ := row4 RU
              have zU := RU.lt
              go_wp2_with fail
              exact ⟨⟨2, by go_num, by omega, RA.alloc _, RB.alloc _, RC.alloc _, RF.alloc _, RR.alloc _, hB.alloc hB.size _⟩, by simp [intOf]⟩
            · have l1 : 0 ≤ e1 ∧ e1 ≤ 3 := by omega
              have l2 : 0 ≤ g ∧ g ≤ 3 := by omega
              have l3 : 0 ≤ h ∧ h ≤ 3 := by omega
              have l4 : 0 ≤ i0 ∧ i0 ≤ 3 := by omega
              have m0 : ((e1 + g + h + i0 : Int) == 0) = false := by rw [beq_eq_false_iff_ne]; omega
              have m1 : ((e1 : Int) != 0) = true := by rw [he0]; rfl
              have m2 : ((e1 : Int) != 3) = false := by rw [he0]; rfl
              obtain ⟨l10, l11⟩ := l1
              obtain ⟨l20, l21⟩ := l2
              obtain ⟨l30, l31⟩ := l3
              obtain ⟨l40, l41⟩ := l4
              clear x1 x2 x3 x4 xa hno he0
              obtain ⟨cA0, cA1, cA2, cA3, -⟩ := row4 RA
              have zA := RA.lt
              obtain ⟨cB0, cB1, cB2, cB3, -⟩ := row4 RB
              have zB := RB.lt
              go_wp2_with (go_at_call 16; refine stop_of ?_)
              unfold Stop
              refine (ringMul a b _ ha hb9).mono ?_
              rintro e v1 ⟨rfl, hb⟩
              rw [H.out.1, H.out.2.1]
              clear cA0 cA1 cA2 cA3 cB0 cB1 cB2 cB3 zA zB
              replace RA := row0 RA hb
              replace RB := row0 RB hb
              replace RC := row0 RC hb
              replace RF := row0 RF hb
              replace RR := row0 RR hb
              replace hB := call0 hB hb
              clear hb
              obtain ⟨cA0, cA1, cA2, cA3, -⟩ := row4 RA
              have zA := RA.lt
              obtain ⟨cB0, cB1, cB2, cB3, -⟩ := row4 RB
              have zB := RB.lt
              go_wp2_with (go_at_call 16; refine stop_of ?_)
              unfold Stop
              refine (ringMul b a _ hb9 ha).mono ?_
              rintro e v2 ⟨rfl, hb⟩
              rw [H.out.2.2.1, H.out.2.2.2.1]
              clear cA0 cA1 cA2 cA3 cB0 cB1 cB2 cB3 zA zB
              replace RA := row1 RA hb
              replace RB := row1 RB hb
              replace RC := row1 RC hb
              replace RF := row1 RF hb
              replace RR := row1 RR hb
              have RP := new1 hb
              replace hB := call1 hB hb
              clear hb
              obtain ⟨cP0, cP1, cP2, cP3, -⟩ := row4 RP
              have zP := RP.lt
              obtain ⟨cC0, cC1, cC2, cC3, -⟩ := row4 RC
              have zC := RC.lt
              go_wp2_with (go_at_call 16; refine stop_of ?_)
              unfold Stop
              refine (ringMul p0 c _ hpb hc).mono ?_
              rintro e v3 ⟨rfl, hb⟩
              rw [H.out.2.2.2.2.1, H.out.2.2.2.2.2.1]
              clear cP0 cP1 cP2 cP3 cC0 cC1 cC2 cC3 zP zC
              replace RA := row1 RA hb
              replace RB := row1 RB hb
              replace RC := row1 RC hb
              replace RF := row1 RF hb
              replace RP := row1 RP hb
              replace RR := row1 RR hb
              have RQ := new1 hb
              replace hB := call1 hB hb
              clear hb
              obtain ⟨cB0, cB1, cB2, cB3, -⟩ := row4 RB
              have zB := RB.lt
              obtain ⟨cC0, cC1, cC2, cC3, -⟩ := row4 RC
              have zC := RC.lt
              go_wp2_with (go_at_call 16; refine stop_of ?_)
              unfold Stop
              refine (ringMul b c _ hb9 hc).mono ?_
              rintro e v4 ⟨rfl, hb⟩
              rw [H.out.2.2.2.2.2.2.1, H.out.2.2.2.2.2.2.2.1]
              clear cB0 cB1 cB2 cB3 cC0 cC1 cC2 cC3 zB zC
              replace RA := row1 RA hb
              replace RB := row1 RB hb
              replace RC := row1 RC hb
              replace RF := row1 RF hb
              replace RP := row1 RP hb
              replace RQ := row1 RQ hb
              replace RR := row1 RR hb
              have RU := new1 hb
              replace hB := call1 hB hb
              clear hb
              obtain ⟨cA0, cA1, cA2, cA3, -⟩ := row4 RA
              have zA := RA.lt
              obtain ⟨cU0, cU1, cU2, cU3, -⟩ := row4 RU
              have zU := RU.lt
              go_wp2_with (go_at_call 16; refine stop_of ?_)
              unfold Stop
              refine (ringMul a s0 _ ha hsb).mono ?_
              rintro e v5 ⟨rfl, hb⟩
              rw [H.out.2.2.2.2.2.2.2.2.1, H.out.2.2.2.2.2.2.2.2.2]
              clear cA0 cA1 cA2 cA3 cU0 cU1 cU2 cU3 zA zU
              replace RA := row1 RA hb
              replace RB := row1 RB hb
              replace RC := row1 RC hb
              replace RF := row1 RF hb
              replace RP := row1 RP hb
              replace RQ := row1 RQ hb
              replace RU := row1 RU hb
              replace RR := row1 RR hb
              have RS := new1 hb
              replace hB := call1 hB hb
              clear hb
              obtain ⟨cU0, cU1, cU2, cU3, -⟩ := row4 RU
              have zU := RU.lt
              go_wp2_with fail
              exact ⟨⟨2, by go_num, by omega, RA.alloc _, RB.alloc _, RC.alloc _, RF.alloc _, RR.alloc _, hB.alloc hB.size _⟩, by simp [intOf]⟩
          · obtain ⟨sm, hsm⟩ : ∃ sm, adN b c = sm := ⟨_, rfl⟩
            have hsmb : sm < big := by rw [← hsm]; exact adLaw.bd _ _
            obtain ⟨e1, he1⟩ : ∃ e1, adE b c = e1 := ⟨_, rfl⟩
            obtain ⟨lf, hlf⟩ : ∃ lf, muN a sm = lf := ⟨_, rfl⟩
            obtain ⟨e2, he2⟩ : ∃ e2, muE a sm = e2 := ⟨_, rfl⟩
            obtain ⟨p0, hp0⟩ : ∃ p0, muN a b = p0 := ⟨_, rfl⟩
            have hpb : p0 < big := by rw [← hp0]; exact muLaw.bd _ _
            obtain ⟨e3, he3⟩ : ∃ e3, muE a b = e3 := ⟨_, rfl⟩
            obtain ⟨q0, hq0⟩ : ∃ q0, muN a c = q0 := ⟨_, rfl⟩
            have hqb : q0 < big := by rw [← hq0]; exact muLaw.bd _ _
            obtain ⟨e4, he4⟩ : ∃ e4, muE a c = e4 := ⟨_, rfl⟩
            obtain ⟨rg, hrg⟩ : ∃ rg, adN p0 q0 = rg := ⟨_, rfl⟩
            obtain ⟨e5, he5⟩ : ∃ e5, adE p0 q0 = e5 := ⟨_, rfl⟩
            have x1 := adLaw.err b c
            have x2 := muLaw.err a sm
            have x3 := muLaw.err a b
            have x4 := muLaw.err a c
            have x5 := adLaw.err p0 q0
            have xa := distr a b c
            rw [hsm, hp0, hq0] at xa
            rw [hlf, hrg, he1, he2, he3, he4, he5] at xa
            rw [he1] at x1
            rw [he2] at x2
            rw [he3] at x3
            rw [he4] at x4
            rw [he5] at x5
            have H := Lib.hid (And.intro hsm (And.intro he1 (And.intro hlf (And.intro he2 (And.intro hp0 (And.intro he3 (And.intro hq0 (And.intro he4 (And.intro hrg he5)))))))))
            clear hsm he1 hlf he2 hp0 he3 hq0 he4 hrg he5
            by_cases hz9 : e1 = 0 ∧ e2 = 0
            · obtain ⟨rfl, rfl⟩ := hz9
              obtain ⟨rfl, rfl, rfl, hxe⟩ := xa rfl rfl
              have HT := Lib.hid hxe
              clear x1 x2 x3 x4 x5 xa hxe
              obtain ⟨cB0, cB1, cB2, cB3, -⟩ := row4 RB
              have zB := RB.lt
              obtain ⟨cC0, cC1, cC2, cC3, -⟩ := row4 RC
              have zC := RC.lt
              go_wp2_with (go_at_call 15; refine stop_of ?_)
              unfold Stop
              refine (ringAdd b c _ hb9 hc).mono ?_
              rintro e v1 ⟨rfl, hb⟩
              rw [H.out.1, H.out.2.1]
              clear cB0 cB1 cB2 cB3 cC0 cC1 cC2 cC3 zB zC
              replace RA := row0 RA hb
              replace RB := row0 RB hb
              replace RC := row0 RC hb
              replace RF := row0 RF hb
              replace RR := row0 RR hb
              replace hB := call0 hB hb
              clear hb
              obtain ⟨cA0, cA1, cA2, cA3, -⟩ := row4 RA
              have zA := RA.lt
              go_wp2_with (go_at_call 17; refine stop_of ?_)
              unfold Stop
              refine (ringMul2 _ _ a sm (by simp only [World.size_alloc]) ha hsmb).mono ?_
              rintro e v2 ⟨rfl, hb⟩
              rw [H.out.2.2.1, H.out.2.2.2.1]
              clear cA0 cA1 cA2 cA3 zA
              replace RA := row2 RA hb
              replace RB := row2 RB hb
              replace RC := row2 RC hb
              replace RF := row2 RF hb
              replace RR := row2 RR hb
              obtain ⟨RSM, -⟩ := new2 hb
              replace hB := call2 hB hb
              clear hb
              obtain ⟨cA0, cA1, cA2, cA3, -⟩ := row4 RA
              have zA := RA.lt
              obtain ⟨cB0, cB1, cB2, cB3, -⟩ := row4 RB
              have zB := RB.lt
              go_wp2_with (go_at_call 17; refine stop_of ?_)
              unfold Stop
              refine (ringMul2 _ _ a b (by simp only [World.size_alloc]) ha hb9).mono ?_
              rintro e v3 ⟨rfl, hb⟩
              rw [H.out.2.2.2.2.1, H.out.2.2.2.2.2.1]
              clear cA0 cA1 cA2 cA3 cB0 cB1 cB2 cB3 zA zB
              replace RA := row2 RA hb
              replace RB := row2 RB hb
              replace RC := row2 RC hb
              replace RF := row2 RF hb
              replace RSM := row2 RSM hb
              replace RR := row2 RR hb
              obtain ⟨RL, -⟩ := new2 hb
              replace hB := call2 hB hb
              clear hb
              obtain ⟨cA0, cA1, cA2, cA3, -⟩ := row4 RA
              have zA := RA.lt
              obtain ⟨cC0, cC1, cC2, cC3, -⟩ := row4 RC
              have zC := RC.lt
              go_wp2_with (go_at_call 17; refine stop_of ?_)
              unfold Stop
              refine (ringMul2 _ _ a c (by simp only [World.size_alloc]) ha hc).mono ?_
              rintro e v4 ⟨rfl, hb⟩
              rw [H.out.2.2.2.2.2.2.1, H.out.2.2.2.2.2.2.2.1]
              clear cA0 cA1 cA2 cA3 cC0 cC1 cC2 cC3 zA zC
              replace RA := row2 RA hb
              replace RB := row2 RB hb
              replace RC := row2 RC hb
              replace RF := row2 RF hb
              replace RSM := row2 RSM hb
              replace RL := row2 RL hb
              replace RR := row2 RR hb
              obtain ⟨RP, -⟩ := new2 hb
              replace hB := call2 hB hb
              clear hb
              obtain ⟨cP0, cP1, cP2, cP3, -⟩ := row4 RP
              have zP := RP.lt
              go_wp2_with (go_at_call 15; refine stop_of ?_)
              unfold Stop
              refine (ringAdd p0 q0 _ hpb hqb).mono ?_
              rintro e v5 ⟨rfl, hb⟩
              rw [H.out.2.2.2.2.2.2.2.2.1, H.out.2.2.2.2.2.2.2.2.2]
              clear cP0 cP1 cP2 cP3 zP
              replace RA := row1 RA hb
              replace RB := row1 RB hb
              replace RC := row1 RC hb
              replace RF := row1 RF hb
              replace RSM := row1 RSM hb
              replace RL := row1 RL hb
              replace RP := row1 RP hb
              replace RR := row1 RR hb
              have RQ := new1 hb
              replace hB := call1 hB hb
              clear hb
              obtain ⟨cL0, cL1, cL2, cL3, -⟩ := row4 RL
              have zL := RL.lt
              obtain rfl := HT.out
              go_wp2_with fail
              go_roundw
              case rel => exact ⟨k + 1, by go_num, by omega, RR.alloc _, hB.alloc hB.size _⟩
              case measure => simp [intOf]; omega
            · have m0 : ((e1 + e2 : Int) == 0) = false := by rw [beq_eq_false_iff_ne]; omega
              have l1 : 0 ≤ e1 := by omega
              have k1 : e1 ≤ 3 := by omega
              have l2 : 0 ≤ e2 := by omega
              have k2 : e2 ≤ 3 := by omega
              have l3 : 0 ≤ e3 := by omega
              have k3 : e3 ≤ 3 := by omega
              have l4 : 0 ≤ e4 := by omega
              have k4 : e4 ≤ 3 := by omega
              have l5 : 0 ≤ e5 := by omega
              have k5 : e5 ≤ 3 := by omega
              clear x1 x2 x3 x4 x5 xa hz9
              obtain ⟨cB0, cB1, cB2, cB3, -⟩ := row4 RB
              have zB := RB.lt
              obtain ⟨cC0, cC1, cC2, cC3, -⟩ := row4 RC
              have zC := RC.lt
              go_wp2_with (go_at_call 15; refine stop_of ?_)
              unfold Stop
              refine (ringAdd b c _ hb9 hc).mono ?_
              rintro e v1 ⟨rfl, hb⟩
              rw [H.out.1, H.out.2.1]
              clear cB0 cB1 cB2 cB3 cC0 cC1 cC2 cC3 zB zC
              replace RA := row0 RA hb
              replace RB := row0 RB hb
              replace RC := row0 RC hb
              replace RF := row0 RF hb
              replace RR := row0 RR hb
              replace hB := call0 hB hb
              clear hb
              obtain ⟨cA0, cA1, cA2, cA3, -⟩ := row4 RA
              have zA := RA.lt
              go_wp2_with (go_at_call 17; refine stop_of ?_)
              unfold Stop
              refine (ringMul2 _ _ a sm (by simp only [World.size_alloc]) ha hsmb).mono ?_
              rintro e v2 ⟨rfl, hb⟩
              rw [H.out.2.2.1, H.out.2.2.2.1]
              clear cA0 cA1 cA2 cA3 zA
              replace RA := row2 RA hb
              replace RB := row2 RB hb
              replace RC := row2 RC hb
              replace RF := row2 RF hb
              replace RR := row2 RR hb
              obtain ⟨RSM, -⟩ := new2 hb
              replace hB := call2 hB hb
              clear hb
              obtain ⟨cA0, cA1, cA2, cA3, -⟩ := row4 RA
              have zA := RA.lt
              obtain ⟨cB0, cB1, cB2, cB3, -⟩ := row4 RB
              have zB := RB.lt
              go_wp2_with (go_at_call 17; refine stop_of ?_)
              unfold Stop
              refine (ringMul2 _ _ a b (by simp only [World.size_alloc]) ha hb9).mono ?_
              rintro e v3 ⟨rfl, hb⟩
              rw [H.out.2.2.2.2.1, H.out.2.2.2.2.2.1]
              clear cA0 cA1 cA2 cA3 cB0 cB1 cB2 cB3 zA zB
              replace RA := row2 RA hb
              replace RB := row2 RB hb
              replace RC := row2 RC hb
              replace RF := row2 RF hb
              replace RSM := row2 RSM hb
              replace RR := row2 RR hb
              obtain ⟨RL, -⟩ := new2 hb
              replace hB := call2 hB hb
              clear hb
              obtain ⟨cA0, cA1, cA2, cA3, -⟩ := row4 RA
              have zA := RA.lt
              obtain ⟨cC0, cC1, cC2, cC3, -⟩ := row4 RC
              have zC := RC.lt
              go_wp2_with (go_at_call 17; refine stop_of ?_)
              unfold Stop
              refine (ringMul2 _ _ a c (by simp only [World.size_alloc]) ha hc).mono ?_
              rintro e v4 ⟨rfl, hb⟩
              rw [H.out.2.2.2.2.2.2.1, H.out.2.2.2.2.2.2.2.1]
              clear cA0 cA1 cA2 cA3 cC0 cC1 cC2 cC3 zA zC
              replace RA := row2 RA hb
              replace RB := row2 RB hb
              replace RC := row2 RC hb
              replace RF := row2 RF hb
              replace RSM := row2 RSM hb
              replace RL := row2 RL hb
              replace RR := row2 RR hb
              obtain ⟨RP, -⟩ := new2 hb
              replace hB := call2 hB hb
              clear hb
              obtain ⟨cP0, cP1, cP2, cP3, -⟩ := row4 RP
              have zP := RP.lt
              go_wp2_with (go_at_call 15; refine stop_of ?_)
              unfold Stop
              refine (ringAdd p0 q0 _ hpb hqb).mono ?_
              rintro e v5 ⟨rfl, hb⟩
              rw [H.out.2.2.2.2.2.2.2.2.1, H.out.2.2.2.2.2.2.2.2.2]
              clear cP0 cP1 cP2 cP3 zP
              replace RA := row1 RA hb
              replace RB := row1 RB hb
              replace RC := row1 RC hb
              replace RF := row1 RF hb
              replace RSM := row1 RSM hb
              replace RL := row1 RL hb
              replace RP := row1 RP hb
              replace RR := row1 RR hb
              have RQ := new1 hb
              replace hB := call1 hB hb
              clear hb
              obtain ⟨cL0, cL1, cL2, cL3, -⟩ := row4 RL
              have zL := RL.lt
              go_wp2_with fail
              go_roundw
              case rel => exact ⟨k + 1, by go_num, by omega, RR.alloc _, hB.alloc hB.size _⟩
              case measure => simp [intOf]; omega
    · obtain rfl : k = 2 := by omega
      go_wp2_with fail
      go_ret
      exact ⟨rfl, hB⟩

end Go.Proofs.YtfciebajiihcfaaDoor
