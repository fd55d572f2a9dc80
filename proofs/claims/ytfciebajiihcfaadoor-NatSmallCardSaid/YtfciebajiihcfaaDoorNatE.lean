/- nat: Mul of a list -/
import Derived.Test.YtfciebajiihcfaaDoorNatM
namespace Go.Proofs.YtfciebajiihcfaaDoor
open Go.RowKit
set_option linter.unusedVariables false
set_option linter.unusedSimpArgs false
set_option maxRecDepth 100000
set_option maxHeartbeats 2000000

/-- the cells of a list of numbers -/
def nls : List Nat → List Value
  | [] => []
  | n :: l => vU (dg 0 n) :: vU (dg 1 n) :: vU (dg 2 n) :: vU (dg 3 n) :: nls l

@[simp] theorem nls_length (l : List Nat) : (nls l).length = l.length * 4 := by
  induction l with
  | nil => rfl
  | cons n l ih => simp only [nls, List.length_cons, ih]; omega

theorem nls_append (l m : List Nat) : nls (l ++ m) = nls l ++ nls m := by
  induction l with
  | nil => rfl
  | cons n l ih => simp only [List.cons_append, nls, ih]

theorem nls_get (l : List Nat) (i j : Nat) (hi : i < l.length) (hj : j < 4) : (nls l)[i * 4 + j]? = some (vU (dg j (l.getD i 0))) := by
  induction l generalizing i with
  | nil => cases hi
  | cons n l ih =>
    cases i with
    | zero =>
      rw [Nat.zero_mul, Nat.zero_add]
      match j, hj with
      | 0, _ => rfl
      | 1, _ => rfl
      | 2, _ => rfl
      | 3, _ => rfl
    | succ i =>
      have h := ih i (by simpa using hi)
      rw [show (i + 1) * 4 + j = (i * 4 + j) + 1 + 1 + 1 + 1 by omega]
      simp only [nls, List.getElem?_cons_succ]
      rw [h]
      rfl

theorem nls_one (l : List Nat) : ∀ u ∈ nls l, u.oneCell' = true := by
  induction l with
  | nil => intro u hu; cases hu
  | cons n l ih =>
    intro u hu
    simp only [nls, List.mem_cons] at hu
    rcases hu with rfl | rfl | rfl | rfl | hu
    · rfl
    · rfl
    · rfl
    · rfl
    · exact ih u hu

/-- a list of numbers that reads: the cells of each -/
theorem Rd.nat {B : Nat} {w : World} {v : Value} {l : List Nat} (h : Rd B w 4 v l.length (nls l)) (hn : 0 < l.length) :
    ∃ b off c, v = .slice (some ⟨b, off, none⟩) l.length c ∧ b < B ∧ l.length ≤ c ∧ c ≤ maxLen ∧ ∀ i, i < l.length → ∀ x, l.getD i 0 = x → ∀ wr : World, (∀ o, wr.cell? ⟨b, o, none⟩ = w.cell? ⟨b, o, none⟩) →
      wr.cell? ⟨b, off + i * 4, none⟩ = some (vU (dg 0 x)) ∧ wr.cell? ⟨b, off + i * 4 + 1, none⟩ = some (vU (dg 1 x)) ∧ wr.cell? ⟨b, off + i * 4 + 2, none⟩ = some (vU (dg 2 x)) ∧ wr.cell? ⟨b, off + i * 4 + 3, none⟩ = some (vU (dg 3 x)) := by
  obtain ⟨b, off, c, rfl, hb, _, h1, h2, hc⟩ := h.pos hn
  refine ⟨b, off, c, rfl, hb, h1, h2, fun i hi x hx wr hw => ?_⟩
  subst hx
  have hcell : ∀ j, j < 4 → wr.cell? ⟨b, off + (i * 4 + j), none⟩ = some (vU (dg j (l.getD i 0))) := fun j hj => by
    rw [hw, hc (i * 4 + j) (by omega)]
    exact nls_get l i j hi hj
  exact ⟨hcell 0 (by decide), hcell 1 (by decide), hcell 2 (by decide), hcell 3 (by decide)⟩

def prd : List Nat → Nat
  | [] => 1
  | a :: l => a * prd l

theorem prd_append (l : List Nat) (a : Nat) : prd (l ++ [a]) = prd l * a := by
  induction l with
  | nil => simp [prd]
  | cons x l ih => simp only [List.cons_append, prd, ih, Nat.mul_assoc]

theorem prd_zero {l : List Nat} (h : 0 ∈ l) : prd l = 0 := by
  induction l with
  | nil => cases h
  | cons x l ih =>
    rcases List.mem_cons.1 h with rfl | h
    · simp [prd]
    · simp [prd, ih h]

theorem prd_pos {l : List Nat} (h : ∀ a ∈ l, 0 < a) : 0 < prd l := by
  induction l with
  | nil => exact Nat.one_pos
  | cons x l ih => exact Nat.mul_pos (h x (by simp)) (ih (fun a ha => h a (List.mem_cons_of_mem _ ha)))

def vMul (l : List Nat) : Value := if prd l < big then .tuple #[vN (prd l), .int .i64 0] else .tuple #[vN 0, .int .i64 3]

theorem prd_split (l : List Nat) (k : Nat) : prd l = prd (l.take k) * prd (l.drop k) := by
  induction l generalizing k with
  | nil => simp [prd]
  | cons x l ih =>
    cases k with
    | zero => simp [prd]
    | succ k => simp only [List.take_succ_cons, List.drop_succ_cons, prd, ih k, Nat.mul_assoc]

theorem dg_all (x : Nat) : (dg 0 x == 0 && (dg 1 x == 0 && (dg 2 x == 0 && dg 3 x == 0))) = false → x ≠ 0 := by
  rintro h rfl
  have : (dg 0 0 == 0 && (dg 1 0 == 0 && (dg 2 0 == 0 && dg 3 0 == 0))) = true := by decide
  rw [this] at h
  cases h

theorem Mul_any (v : Value) (l : List Nat) (w : World) (hrd : Rd w.heap.size w 4 v l.length (nls l)) (hl : ∀ a ∈ l, a < big) (hll : l.length ≤ 1000000) :
    Calls Tryd.prog 17 #[v] w fun e w' => e = .returned (vMul l) ∧ Below w.heap.size w w' := by
  obtain ⟨R, hR⟩ : ∃ R, vMul l = R := ⟨_, rfl⟩
  rw [hR]
  have HD := Lib.hid hrd
  obtain ⟨a, c, rfl⟩ := hrd.shape
  have HR := Lib.hid hR
  clear hR hrd
  obtain ⟨n, hn⟩ : ∃ n, l.length = n := ⟨_, rfl⟩
  have HN := Lib.hid hn
  rw [hn] at hll ⊢
  clear hn
  have HL := Lib.hid hl
  clear hl
  have d0 : dg 0 0 = 0 := rfl
  have d1 : dg 1 0 = 0 := rfl
  have d2 : dg 2 0 = 0 := rfl
  have d3 : dg 3 0 = 0 := rfl
  go_enter Tryd.func17, Tryd.ntmps17
  go_wp2_with fail
  go_loopw [14] (fun i wr => ∃ k : Nat, i = .int .i64 k ∧ k ≤ n ∧ Row wr w.heap.size 28 #[vU 0, vU 0, vU 0, vU 0] ∧ Row wr (w.heap.size + 1) 28 #[vU 1, vU 0, vU 0, vU 0] ∧ Below w.heap.size w wr ∧ Hid (∀ j, j < k → l.getD j 0 ≠ 0)) (fun i _ => n - (intOf i).toNat)
  case atStart =>
    obtain ⟨r0, r1, hB, -⟩ := rows2 (w := w) (v0 := #[vU 0, vU 0, vU 0, vU 0]) (v1 := #[vU 1, vU 0, vU 0, vU 0]) (t0 := 28) (t1 := 28) (Below.refl _ _)
    exact ⟨0, rfl, by omega, r0, r1, hB, Lib.hid (fun j hj => by omega)⟩
  case round =>
    obtain ⟨k, rfl, hk, r0, r1, hB, hG⟩ := hrel
    by_cases hlt : k < n
    · have hkl : k < l.length := by have := HN.out; omega
      obtain ⟨b, off, cc, hvv, hbb, hc1, hc2, hcell⟩ := HD.out.nat (by omega)
      cases hvv
      obtain ⟨x, hx⟩ : ∃ x, l.getD k 0 = x := ⟨_, rfl⟩
      obtain ⟨e0, e1, e2, e3⟩ := hcell k hkl x hx wr (fun o => hB.cell (p := ⟨b, o, none⟩) hbb)
      have hxb : x < big := by
        rw [← hx, List.getD_eq_getElem?_getD, List.getElem?_eq_getElem hkl]
        exact HL.out _ (List.getElem_mem hkl)
      have hxm : x ∈ l := by
        rw [← hx, List.getD_eq_getElem?_getD, List.getElem?_eq_getElem hkl]
        exact List.getElem_mem hkl
      clear hcell
      by_cases hx0 : x = 0
      · have hv : R = .tuple #[vN 0, .int .i64 0] := by
          rw [← HR.out]
          unfold vMul
          rw [prd_zero (by rw [← hx0]; exact hxm), if_pos (by decide)]
        subst hv
        have f0 : dg 0 x = 0 := by rw [hx0]; rfl
        have f1 : dg 1 x = 0 := by rw [hx0]; rfl
        have f2 : dg 2 x = 0 := by rw [hx0]; rfl
        have f3 : dg 3 x = 0 := by rw [hx0]; rfl
        rw [f0] at e0
        rw [f1] at e1
        rw [f2] at e2
        rw [f3] at e3
        obtain ⟨ca0, ca1, ca2, ca3, fa0, fa1, fa2, fa3⟩ := row4 r0
        have z0 := r0.lt
        clear hx hx0 hxm
        go_wp2_with fail
        have rZ := (r0.stored4 (vU 0) (vU 0) (vU 0) (vU 0)).alloc (.cells #[vU 0, vU 0, vU 0, vU 0] 28)
        have hB0 := Below.stored4 hB (Nat.le_refl _) (vU 0) (vU 0) (vU 0) (vU 0)
        have hBZ := hB0.alloc hB0.size (.cells #[vU 0, vU 0, vU 0, vU 0] 28)
        refine bodyPost_ret (res_ct rfl rfl (load4 rZ)) rfl ⟨rfl, hBZ⟩
      · have hz := dg_zero x hxb (by omega)
        have HG := Lib.hid (show ∀ j, j < k + 1 → l.getD j 0 ≠ 0 from fun j hj => by
          rcases Nat.lt_or_ge j k with h | h
          · exact hG.out j h
          · obtain rfl : j = k := by omega
            rw [hx]; exact hx0)
        clear hx hx0 hxm hG
        go_wp2_with fail
        go_roundw
        case rel => exact ⟨k + 1, by go_num, by omega, r0.alloc _, r1.alloc _, hB.alloc hB.size _, HG⟩
        case measure => simp [intOf]; omega
    · have hpos : ∀ a ∈ l, 0 < a := by
        intro a ha
        obtain ⟨j, hj, rfl⟩ := List.getElem_of_mem ha
        have h := hG.out j (by have := HN.out; omega)
        rw [List.getD_eq_getElem?_getD, List.getElem?_eq_getElem hj] at h
        exact Nat.pos_of_ne_zero h
      have HP := Lib.hid hpos
      clear hpos hG
      go_wp2_with fail
      obtain ⟨W, rfl⟩ : ∃ W : World, W = wr := ⟨_, rfl⟩
      go_loopw [25] (fun i wr => ∃ (k P : Nat), i = .int .i64 k ∧ k ≤ n ∧ P < big ∧ Hid (prd (l.take k) = P) ∧ Row wr w.heap.size 28 #[vU 0, vU 0, vU 0, vU 0] ∧ Row wr (w.heap.size + 1) 28 (pN P) ∧ Below w.heap.size w wr) (fun i _ => n - (intOf i).toNat)
      case atStart => exact ⟨0, 1, rfl, by omega, by decide, Lib.hid rfl, r0, r1, hB⟩
      case round =>
        clear hB r0 r1 hlt hk
        obtain ⟨k, P, rfl, hk, hPb, hG, r0, r1, hB⟩ := hrel
        have z0 := r0.lt
        have z1 := r1.lt
        obtain ⟨ca0, ca1, ca2, ca3, fa0, fa1, fa2, fa3⟩ := row4 r0
        obtain ⟨cb0, cb1, cb2, cb3, fb0, fb1, fb2, fb3⟩ := row4 r1
        by_cases hlt : k < n
        · have hkl : k < l.length := by have := HN.out; omega
          obtain ⟨b, off, cc, hvv, hbb, hc1, hc2, hcell⟩ := HD.out.nat (by omega)
          cases hvv
          obtain ⟨x, hx⟩ : ∃ x, l.getD k 0 = x := ⟨_, rfl⟩
          obtain ⟨e0, e1, e2, e3⟩ := hcell k hkl x hx wr (fun o => hB.cell (p := ⟨b, o, none⟩) hbb)
          have hx2 : l[k] = x := by rw [← hx, List.getD_eq_getElem?_getD, List.getElem?_eq_getElem hkl]; rfl
          have hxb : x < big := by rw [← hx2]; exact HL.out _ (List.getElem_mem hkl)
          have hPx : prd (l.take (k + 1)) = P * x := by rw [List.take_succ_eq_append_getElem hkl, prd_append, hG.out, hx2]
          have HPX := Lib.hid hPx
          clear hcell hx hx2 hPx hG
          by_cases hfit : P * x < big
          · have hdec : decide (P * x < big) = true := by simpa using hfit
            have hmod : P * x % big = P * x := Nat.mod_eq_of_lt hfit
            obtain ⟨Z, hZ⟩ : ∃ Z, P * x = Z := ⟨_, rfl⟩
            have HZ := Lib.hid hZ
            have hZb : Z < big := by rw [← hZ]; exact hfit
            rw [hZ] at hdec hmod
            have HM := Lib.hid (And.intro hdec hmod)
            clear hdec hmod hZ hfit
            go_wp2_with (go_at_call 34; refine (mul_any P x _ hPb hxb).mono ?_; rintro e w5 ⟨rfl, hb5⟩; rw [HZ.out, HM.out.1, HM.out.2]; replace r0 := (r0.alloc (.cells (pN x) 28)).below hb5 (by simp; omega); replace r1 := (r1.alloc (.cells (pN x) 28)).below hb5 (by simp; omega); replace hB := (hB.alloc hB.size (.cells (pN x) 28)).trans (hb5.mono (hB.alloc hB.size _).size); clear hb5; obtain ⟨ca0, ca1, ca2, ca3, fa0, fa1, fa2, fa3⟩ := row4 r0; obtain ⟨cb0, cb1, cb2, cb3, fb0, fb1, fb2, fb3⟩ := row4 r1; have z1 := r1.lt; have z0 := r0.lt)
            go_roundw
            case rel =>
              refine ⟨k + 1, Z, by go_num, by omega, hZb, Lib.hid (HPX.out.trans HZ.out), ?_, ?_, ?_⟩
              · exact (r0.other4 (b' := w.heap.size + 1) (by omega) (vU (dg 0 Z)) (vU (dg 1 Z)) (vU (dg 2 Z)) (vU (dg 3 Z))).alloc (.cells (pN Z) 28)
              · exact (r1.stored4 (vU (dg 0 Z)) (vU (dg 1 Z)) (vU (dg 2 Z)) (vU (dg 3 Z))).alloc (.cells (pN Z) 28)
              · have hBs := Below.stored4 hB (by omega : w.heap.size ≤ w.heap.size + 1) (vU (dg 0 Z)) (vU (dg 1 Z)) (vU (dg 2 Z)) (vU (dg 3 Z))
                exact hBs.alloc hBs.size _
            case measure => simp [intOf]; omega
          · have hv : R = .tuple #[vN 0, .int .i64 3] := by
              rw [← HR.out]
              unfold vMul
              rw [if_neg]
              rw [prd_split l (k + 1), HPX.out]
              have h1 : 0 < prd (l.drop (k + 1)) := prd_pos (fun a ha => HP.out a (List.mem_of_mem_drop ha))
              have h2 := Nat.mul_le_mul_left (P * x) h1
              rw [Nat.mul_one] at h2
              omega
            subst hv
            have hdec : decide (P * x < big) = false := by simpa using hfit
            obtain ⟨Z, hZ⟩ : ∃ Z, P * x % big = Z := ⟨_, rfl⟩
            have HM := Lib.hid (And.intro hdec hZ)
            clear hdec hZ hfit
            go_wp2_with (go_at_call 34; refine (mul_any P x _ hPb hxb).mono ?_; rintro e w5 ⟨rfl, hb5⟩; rw [HM.out.1, HM.out.2]; replace r0 := (r0.alloc (.cells (pN x) 28)).below hb5 (by simp; omega); replace r1 := (r1.alloc (.cells (pN x) 28)).below hb5 (by simp; omega); replace hB := (hB.alloc hB.size (.cells (pN x) 28)).trans (hb5.mono (hB.alloc hB.size _).size); clear hb5; obtain ⟨ca0, ca1, ca2, ca3, fa0, fa1, fa2, fa3⟩ := row4 r0; obtain ⟨cb0, cb1, cb2, cb3, fb0, fb1, fb2, fb3⟩ := row4 r1; have z1 := r1.lt; have z0 := r0.lt)
            have rZ := (r0.stored4 (vU 0) (vU 0) (vU 0) (vU 0)).alloc (.cells (pN Z) 28)
            have hB0 := Below.stored4 hB (Nat.le_refl _) (vU 0) (vU 0) (vU 0) (vU 0)
            have hBZ := hB0.alloc hB0.size (.cells (pN Z) 28)
            refine bodyPost_ret (res_ct rfl rfl (load4 rZ)) rfl ⟨rfl, hBZ⟩
        · have hkn : l.take k = l := List.take_of_length_le (by have := HN.out; omega)
          have hv : R = .tuple #[vN P, .int .i64 0] := by
            have h1 := hG.out
            rw [hkn] at h1
            rw [← HR.out]
            unfold vMul
            rw [h1, if_pos hPb]
          subst hv
          clear hkn hG
          go_wp2_with fail
          have rZ := r0.stored4 (vU (dg 0 P)) (vU (dg 1 P)) (vU (dg 2 P)) (vU (dg 3 P))
          have hBZ := Below.stored4 hB (Nat.le_refl _) (vU (dg 0 P)) (vU (dg 1 P)) (vU (dg 2 P)) (vU (dg 3 P))
          refine bodyPost_ret (res_ct rfl rfl (load4 rZ)) rfl ⟨rfl, hBZ⟩

end Go.Proofs.YtfciebajiihcfaaDoor
