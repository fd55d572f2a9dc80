/- NatMore: products of some numbers, and choices, are as the reference says, walked -/
import Derived.Test.YtfciebajiihcfaaDoorNatTells
import Derived.Test.YtfciebajiihcfaaDoorNatReads
import Derived.Test.YtfciebajiihcfaaDoorOpenN
namespace Go.Proofs.YtfciebajiihcfaaDoor
open Go.RowKit
set_option linter.unusedVariables false
set_option linter.unusedSimpArgs false
set_option maxRecDepth 100000
set_option maxHeartbeats 4000000

theorem info_A4 : (Tryd.prog.info? 27).map (fun i => (i.zero, i.size, i.bytes)) = some (some (.agg #[.int .u32 0, .int .u32 0, .int .u32 0, .int .u32 0]), 4, 16) := by kernel_rfl

theorem append_A4 {w wr : World} {ops : Array Oper} {rest : List Oper} {o : Oper} {a : Act} {Q : Exit → Act → World → Prop} (hw : o.guard = none) (s x : Operand)
    (ho : o.op = .call { callee := .builtin .append, args := #[s, x], argTypes := #[57, 57] }) (B0 base : Nat) (v : Value) (n : Nat) (L : List Value) (d : Nat)
    (g : Nat) (hgz : wr.heap.size = g) (hs : a.eval s = v) (hx : a.eval x = .slice (some ⟨g, 0, none⟩) 1 1) (hown : wr.ownsRow base 27 4 v n L) (hn : n ≤ 1000000) (hbase : base ≤ wr.heap.size) (hB : Below B0 w wr) (hB0 : B0 ≤ base)
    (h : ∀ v' w', w'.ownsRow base 27 4 v' (n + 1) (L ++ nls [d]) → Below B0 w w' → wpList Tryd.prog ops Q rest (a.put o.dst v') w') :
    wpList Tryd.prog ops Q (o :: rest) a (wr.alloc (.cells (pN d) 27)) := by
  subst hgz
  obtain ⟨i0, hinf, hz0, hz1, hz2⟩ := info_parts info_A4
  have hown5 := own_below hown ((Below.refl wr.heap.size wr).alloc (Nat.le_refl _) (.cells (pN d) 27))
  have hB5 : Below B0 w (wr.alloc (.cells (pN d) 27)) := hB.alloc (by omega) _
  have hnew : ∀ j u, (nls [d])[j]? = some u → (wr.alloc (.cells (pN d) 27)).cell? ((⟨wr.heap.size, 0, none⟩ : Addr).add j) = some u := by
    intro j u hu
    rw [addr_add, (Row.new wr 27 (pN d)).cell (0 + j), Nat.zero_add, show pN d = (nls [d]).toArray from rfl, List.getElem?_toArray]
    exact hu
  refine wpList_append_own _ hw s x 57 ho base 27 i0 (.agg #[.int .u32 0, .int .u32 0, .int .u32 0, .int .u32 0]) 4 16 Tryd.underlying57 hinf hz0 hz1 hz2 rfl (by decide) v n L hs hown5 ⟨wr.heap.size, 0, none⟩ 1 1 (nls [d]) hx (by simp) hnew (nls_one [d]) (by unfold maxLen; omega) (by omega) (by simp; omega) ?_
  intro v' w8 hown1 hgrow _
  exact h v' w8 hown1 (below_append hB5 hgrow hown5 hB0 (by simp; omega))

def vOf (n : Int) : Value := if n < 0 then .tuple #[vN 0, .int .i64 21] else .tuple #[vN n.toNat, .int .i64 0]
theorem pOf (n : Int) (w : World) (hn : -9223372036854775808 ≤ n ∧ n ≤ 9223372036854775807) :
    Calls Tryd.prog 23 #[.int .i64 n] w fun e w' => e = .returned (vOf n) ∧ Below w.heap.size w w' := by
  unfold vOf
  by_cases h : n < 0
  · rw [if_pos h]; exact Of_no n w h
  · rw [if_neg h]; exact Of_yes n w (by omega) hn.2
theorem rOf (n : Int) (w : World) (hn : -9223372036854775808 ≤ n ∧ n ≤ 9223372036854775807) :
    Calls Tryd.prog 31 #[.int .i64 n] w fun e w' => e = .returned (vOf n) ∧ Below w.heap.size w w' := by
  unfold vOf
  by_cases h : n < 0
  · rw [if_pos h]; exact rOf_no n w h
  · rw [if_neg h]
    obtain ⟨m, rfl⟩ : ∃ m : Nat, n = m := ⟨n.toNat, by omega⟩
    rw [Int.toNat_natCast]
    exact rOf_yes m w (by omega)

theorem more_all (n k : Int) (l : List Nat) : ∃ (p r t : Nat) (e1 e2 e3 : Int), vMul l = .tuple #[vN p, .int .i64 e1] ∧ vOf n = .tuple #[vN r, .int .i64 e2] ∧ vChoose n k = .tuple #[vN t, .int .i64 e3] := by
  have h1 : ∃ (p : Nat) (e1 : Int), vMul l = .tuple #[vN p, .int .i64 e1] := by unfold vMul; split <;> exact ⟨_, _, rfl⟩
  have h2 : ∃ (p : Nat) (e1 : Int), vOf n = .tuple #[vN p, .int .i64 e1] := by unfold vOf; split <;> exact ⟨_, _, rfl⟩
  have h3 : ∃ (p : Nat) (e1 : Int), vChoose n k = .tuple #[vN p, .int .i64 e1] := by
    unfold vChoose
    split
    · exact ⟨_, _, rfl⟩
    · split
      · exact ⟨_, _, rfl⟩
      · split <;> exact ⟨_, _, rfl⟩
  obtain ⟨p, e1, h1⟩ := h1
  obtain ⟨r, e2, h2⟩ := h2
  obtain ⟨t, e3, h3⟩ := h3
  exact ⟨p, r, t, e1, e2, e3, h1, h2, h3⟩

theorem more_any (n k : Int) (v : Value) (l : List Nat) (w : World) (hn : -9223372036854775808 ≤ n ∧ n ≤ 9223372036854775807) (hk : -9223372036854775808 ≤ k ∧ k ≤ 9223372036854775807)
    (hrd : Rd w.heap.size w 4 v l.length (nls l)) (hl : ∀ a ∈ l, a < big) :
    Calls Tryd.prog 14 #[.int .i64 n, .int .i64 k, v] w fun e w' => e = .returned (.bool true) ∧ Below w.heap.size w w' := by
  have hml := hrd.len
  unfold maxLen at hml
  have HD := Lib.hid (And.intro hrd (And.intro hl (And.intro hn hk)))
  obtain ⟨a, c, rfl⟩ := hrd.shape
  obtain ⟨m, hm⟩ : ∃ m, l.length = m := ⟨_, rfl⟩
  have HM := Lib.hid hm
  rw [hm] at hml ⊢
  clear hrd hl hm hn hk
  by_cases h12 : 12 < m
  · go_enter Tryd.func14, Tryd.ntmps14
    go_wp2_with fail
    go_ret
    exact ⟨rfl, Below.refl _ _⟩
  · have hm12 : m ≤ 12 := by omega
    obtain ⟨p, r, t, e1, e2, e3, h1, h2, h3⟩ := more_all n k l
    have H := Lib.hid (And.intro h1 (And.intro h2 h3))
    obtain ⟨i0, hinf, hz0, hz1, hz2⟩ := info_parts info_N
    clear h1 h2 h3 h12
    go_enter Tryd.func14, Tryd.ntmps14
    go_wp2_with (at_builtin; refine stopD_of ?_)
    unfold StopD
    have hbE : Below w.heap.size w (w.alloc (.cells #[] 28)) := (Below.refl _ _).alloc (Nat.le_refl _) _
    have hownE : (w.alloc (.cells #[] 28)).ownsRow w.heap.size 28 4 (.slice (some ⟨w.heap.size, 0, none⟩) 0 0) 0 [] :=
      ⟨rfl, .inr ⟨w.heap.size, 0, #[], rfl, Nat.le_refl _, Row.new w 28 #[], by simp, by simp [maxLen], rfl, rfl⟩⟩
    refine appendD_rd (by rfl) _ _ 24 (by rfl) w.heap.size 28 i0 (.agg #[.int .u32 0, .int .u32 0, .int .u32 0, .int .u32 0]) 4 16 Tryd.underlying24 hinf hz0 hz1 hz2 rfl (by decide) _ 0 [] (by rfl) hownE (.slice a m c) m (nls l) _ (by rfl) (by have h9 := HD.out.1.below hbE (Nat.le_refl _); rw [HM.out] at h9; exact h9) (nls_one l) (by unfold maxLen; omega) (by omega) hbE.size ?_
    intro v1 w1 hown1 hg1
    have hB1 : Below w.heap.size w w1 := below_append hbE hg1 hownE (Nat.le_refl _) hbE.size
    rw [Nat.zero_add, List.nil_append] at hown1
    have hR1 : Rd w1.heap.size w1 4 v1 m (nls l) := Rd.of_own hown1
    obtain ⟨a1, c1, rfl⟩ := hR1.shape
    have H1 := Lib.hid (And.intro hR1 hB1)
    clear hbE hownE hown1 hg1 hR1 hB1
    go_wp2_with fail
    go_loopw [8, 32] (fun o i wr => ∃ k : Nat, i = .int .i64 k ∧ k ≤ m ∧ wr.ownsRow w1.heap.size 27 4 o k (nls (l.take k)) ∧ Below w1.heap.size w1 wr) (fun _ i _ => m - (intOf i).toNat)
    case atStart => exact ⟨0, rfl, by omega, ⟨rfl, .inl ⟨rfl, rfl⟩⟩, Below.refl _ _⟩
    case round =>
      obtain ⟨j, rfl, hj, hown, hB⟩ := hrel
      obtain ⟨a8, c8, rfl⟩ := own_shape hown
      have HO := Lib.hid (And.intro hown hB)
      have hsz := hB.size
      clear hown hB
      by_cases hjm : j < m
      · have hjl : j < l.length := by have := HM.out; omega
        obtain ⟨b, off, cc, hvv, hbb, hc1, hc2, hcell⟩ := HD.out.1.nat (by omega)
        have hml2 := HM.out
        rw [hml2] at hvv
        cases hvv
        obtain ⟨x, hx⟩ : ∃ x, l.getD j 0 = x := ⟨_, rfl⟩
        obtain ⟨f0, f1, f2, f3⟩ := hcell j hjl x hx wr (fun o => (H1.out.2.trans (HO.out.2.mono H1.out.2.size)).cell (p := ⟨b, o, none⟩) hbb)
        have hnx : nls (l.take (j + 1)) = nls (l.take j) ++ nls [x] := by rw [take_snoc hjl, nls_append, hx]
        have HX := Lib.hid hnx
        have hmc : m ≤ c := by omega
        clear hcell hx hnx hc1 hml2
        go_wp2_with (at_builtin; refine stopD_of ?_)
        unfold StopD
        have hownA := own_below HO.out.1 ((Below.refl wr.heap.size wr).alloc (Nat.le_refl _) (.cells (pN x) 28))
        have hBA : Below w1.heap.size w1 (wr.alloc (.cells (pN x) 28)) := HO.out.2.alloc hsz _
        refine append_A4 (wr := wr.alloc (.cells (pN x) 28)) (by rfl) _ _ (by rfl) w1.heap.size w1.heap.size _ j (nls (l.take j)) x (wr.heap.size + 1) (by simp) (by rfl) (by rfl) hownA (by omega) (by simp; omega) hBA (Nat.le_refl _) ?_
        intro v' w8 hown8 hB8
        obtain ⟨a', c', rfl⟩ := own_shape hown8
        have HO8 := Lib.hid (And.intro hown8 hB8)
        clear hown8 hB8 hownA hBA
        go_wp2_with fail
        go_roundw
        case rel => exact ⟨j + 1, by go_num, by omega, by rw [HX.out]; exact HO8.out.1, HO8.out.2⟩
        case measure => simp [intOf]; omega
      · obtain rfl : j = m := by omega
        have htk : l.take j = l := List.take_of_length_le (by have := HM.out; omega)
        have hown := HO.out.1
        rw [htk] at hown
        have hR8 : Rd wr.heap.size wr 4 (.slice a8 j c8) j (nls l) := Rd.of_own hown
        have hR1 : Rd wr.heap.size wr 4 (.slice a1 j c1) j (nls l) := H1.out.1.later HO.out.2 (Nat.le_refl _)
        have hBw := H1.out.2.trans (HO.out.2.mono H1.out.2.size)
        have hR1' : Rd wr.heap.size wr 4 (.slice a1 j c1) l.length (nls l) := by rw [HM.out]; exact hR1
        have hR8' : Rd wr.heap.size wr 4 (.slice a8 j c8) l.length (nls l) := by rw [HM.out]; exact hR8
        have HR := Lib.hid (And.intro hR1' (And.intro hR8' hBw))
        have HL := Lib.hid (show l.length = j from HM.out)
        clear htk hown hR8 hR1 hR1' hR8' hBw HO hjm
        go_wp2_with (go_at_call 17; refine stopD_of ?_)
        unfold StopD
        refine (Mul_any _ l _ HR.out.1 HD.out.2.1 (by have := HL.out; omega)).mono ?_
        rintro e w2 ⟨rfl, hb⟩
        rw [H.out.1]
        have hB := call0 HR.out.2.2 hb
        have H2 := Lib.hid (And.intro (HR.out.1.later hb (Nat.le_refl _)) (HR.out.2.1.later hb (Nat.le_refl _)))
        clear hb
        go_wp2_with (go_at_call 30; refine stopD_of ?_)
        unfold StopD
        have hbP : Below w2.heap.size w2 (w2.alloc (.cells (pN p) 28)) := (Below.refl _ _).alloc (Nat.le_refl _) _
        refine (rMul_any _ l _ (H2.out.2.later hbP (Nat.le_refl _)) HD.out.2.1 (by have := HL.out; omega)).mono ?_
        rintro e w3 ⟨rfl, hb⟩
        rw [H.out.1]
        have RP := new1 hb
        have hb23 := hbP.trans (hb.mono hbP.size)
        replace hB := call1 hB hb
        have H3 := Lib.hid (H2.out.1.later hb23 (Nat.le_refl _))
        clear hb hbP hb23 H2
        go_wp2_with (go_at_call 23; refine stopD_of ?_)
        unfold StopD
        refine (pOf n _ HD.out.2.2.1).mono ?_
        rintro e w4 ⟨rfl, hb⟩
        rw [H.out.2.1]
        replace RP := row1 RP hb
        have RQ := new1 hb
        have hb2 := call1 (Below.refl w3.heap.size w3) hb
        have H4 := Lib.hid (H3.out.later hb2 (Nat.le_refl _))
        replace hB := call1 hB hb
        clear hb hb2 H3
        go_wp2_with (go_at_call 31; refine stopD_of ?_)
        unfold StopD
        refine (rOf n _ HD.out.2.2.1).mono ?_
        rintro e w5 ⟨rfl, hb⟩
        rw [H.out.2.1]
        replace RP := row1 RP hb
        replace RQ := row1 RQ hb
        have RR := new1 hb
        have hb2 := call1 (Below.refl w4.heap.size w4) hb
        have H5 := Lib.hid (H4.out.later hb2 (Nat.le_refl _))
        replace hB := call1 hB hb
        clear hb hb2 H4
        go_wp2_with (go_at_call 22; refine stopD_of ?_)
        unfold StopD
        refine (Choose_any n k _ HD.out.2.2.1 HD.out.2.2.2).mono ?_
        rintro e w6 ⟨rfl, hb⟩
        rw [H.out.2.2]
        replace RP := row1 RP hb
        replace RQ := row1 RQ hb
        replace RR := row1 RR hb
        have RS := new1 hb
        have hb2 := call1 (Below.refl w5.heap.size w5) hb
        have H6 := Lib.hid (H5.out.later hb2 (Nat.le_refl _))
        replace hB := call1 hB hb
        clear hb hb2 H5
        go_wp2_with (go_at_call 32; refine stopD_of ?_)
        unfold StopD
        refine (rChoose_any n k _ HD.out.2.2.1 HD.out.2.2.2).mono ?_
        rintro e w7 ⟨rfl, hb⟩
        rw [H.out.2.2]
        replace RP := row1 RP hb
        replace RQ := row1 RQ hb
        replace RR := row1 RR hb
        replace RS := row1 RS hb
        have RT := new1 hb
        have hb2 := call1 (Below.refl w6.heap.size w6) hb
        have H7 := Lib.hid (H6.out.later hb2 (Nat.le_refl _))
        replace hB := call1 hB hb
        clear hb hb2 H6
        have hbZ : Below w7.heap.size w7 (w7.alloc (.cells (pN t) 27)) := (Below.refl _ _).alloc (Nat.le_refl _) _
        have H8 := Lib.hid (And.intro (H7.out.later hbZ (Nat.le_refl _)) (And.intro (RP.alloc (.cells (pN t) 27)) (And.intro (RQ.alloc (.cells (pN t) 27)) (And.intro (RR.alloc (.cells (pN t) 27)) (And.intro (RS.alloc (.cells (pN t) 27)) (And.intro (RT.alloc (.cells (pN t) 27)) (And.intro (Row.new w7 27 (pN t)) (hB.alloc hB.size (.cells (pN t) 27)))))))))
        clear hbZ H7 RP RQ RR RS RT hB
        go_wp2_with fail
        obtain ⟨Z, hZ⟩ : ∃ Z, w7.alloc (.cells (pN t) 27) = Z := ⟨_, rfl⟩
        have hz21 : w7.heap.size < Z.heap.size := by rw [← hZ]; simp
        rw [hZ] at H8
        rw [hZ]
        clear hZ
        go_loopw [75] (fun i wr2 => ∃ q : Nat, i = .int .i64 q ∧ q ≤ j ∧ Below Z.heap.size Z wr2) (fun i _ => j - (intOf i).toNat)
        case atStart => exact ⟨0, rfl, by omega, Below.refl _ _⟩
        case round =>
          obtain ⟨q, rfl, hq, hZ⟩ := hrel
          by_cases hqj : q < j
          · have hql : q < l.length := by have := HL.out; omega
            obtain ⟨b, off, cc, hvv, hbb, hcA, hcB, hcell⟩ := HD.out.1.nat (by omega)
            rw [HL.out] at hvv hcA
            cases hvv
            obtain ⟨b5, off5, cc5, hvv5, hbb5, hcA5, hcB5, hcell5⟩ := H8.out.1.nat (by omega)
            rw [HL.out] at hvv5 hcA5
            cases hvv5
            obtain ⟨x, hx⟩ : ∃ x, l.getD q 0 = x := ⟨_, rfl⟩
            obtain ⟨f0, f1, f2, f3⟩ := hcell q hql x hx wr (fun o => (H8.out.2.2.2.2.2.2.2.trans (hZ.mono H8.out.2.2.2.2.2.2.2.size)).cell (p := ⟨b, o, none⟩) hbb)
            obtain ⟨g0, g1, g2, g3⟩ := hcell5 q hql x hx wr (fun o => hZ.cell (p := ⟨b5, o, none⟩) hbb5)
            clear hcell hcell5 hx
            have i1 : (0 : Int) ≤ (q : Int) := by omega
            have i2 : (q : Int) < (j : Int) := by omega
            go_wp2_with fail
            go_region_with (fail)
            all_goals
              go_wp2_with fail
              go_roundw
              case rel => exact ⟨q + 1, by go_num, by omega, hZ.drew⟩
              case measure => simp [intOf]; omega
          · obtain ⟨-, RP, RQ, RR, RS, RT, RU, hB⟩ := H8.out
            obtain ⟨cP0, cP1, cP2, cP3, -⟩ := row4 (dr0 RP hZ)
            obtain ⟨cQ0, cQ1, cQ2, cQ3, -⟩ := row4 (dr0 RQ hZ)
            obtain ⟨cR0, cR1, cR2, cR3, -⟩ := row4 (dr0 RR hZ)
            obtain ⟨cS0, cS1, cS2, cS3, -⟩ := row4 (dr0 RS hZ)
            obtain ⟨cT0, cT1, cT2, cT3, -⟩ := row4 (dr0 RT hZ)
            obtain ⟨cU0, cU1, cU2, cU3, -⟩ := row4 (dr0 RU hZ)
            have HB := Lib.hid (hB.trans (hZ.mono hB.size))
            have zz := hZ.size
            clear RP RQ RR RS RT RU hB hZ
            go_wp2_with fail
            go_ret
            exact ⟨by simp, HB.out⟩

theorem NatMore_nat (n k : Int) (v : Value) (l : List Nat) (w : World) (hn : -9223372036854775808 ≤ n ∧ n ≤ 9223372036854775807) (hk : -9223372036854775808 ≤ k ∧ k ≤ 9223372036854775807)
    (hrd : Rd w.heap.size w 4 v l.length (nls l)) (hl : ∀ a ∈ l, a < big) :
    Calls Tryd.prog 4 #[.int .i64 n, .int .i64 k, v] w fun e w' => e = .returned (.bool true) ∧ Below w.heap.size w w' := by
  have HM := Lib.hid (more_any n k v l w hn hk hrd hl)
  obtain ⟨a, c, rfl⟩ := hrd.shape
  clear hrd hl hn hk
  go_enter Tryd.func4, Tryd.ntmps4
  go_wp2_with (go_at_call 14; refine stopD_of ?_)
  unfold StopD
  refine HM.out.mono ?_
  rintro e w1 ⟨rfl, hb⟩
  have hB := call0 (Below.refl _ w) hb
  clear hb
  go_wp2_with (go_at_call 13; refine stopD_of ?_)
  unfold StopD
  refine (nawake_true _).mono ?_
  rintro e w2 ⟨rfl, hb⟩
  replace hB := call0 hB hb
  clear hb
  go_wp2_with fail
  go_ret
  exact ⟨rfl, hB⟩

theorem NatMore_walk (n k : Int) (v : Value) (l : List Nat) (w : World) (hn : -9223372036854775808 ≤ n ∧ n ≤ 9223372036854775807) (hk : -9223372036854775808 ≤ k ∧ k ≤ 9223372036854775807)
    (hl : Rd w.heap.size w 4 v l.length (nls l) ∧ ∀ a ∈ l, a < big) :
    Calls Tryd.prog 4 #[.int .i64 n, .int .i64 k, v] w fun e w' => e = .returned (.bool true) ∧ Below w.heap.size w w' :=
  NatMore_nat n k v l w hn hk hl.1 hl.2

end Go.Proofs.YtfciebajiihcfaaDoor
