/- nat: Read -/
import Derived.Test.YtfciebajiihcfaaDoorNatU
import Derived.Test.YtfciebajiihcfaaDoorNatH
import Derived.Test.YtfciebajiihcfaaDoorShelf
import Derived.Shelf.Strings.SlTrimAscii
namespace Go.Proofs.YtfciebajiihcfaaDoor
open Go.RowKit
set_option linter.unusedVariables false
set_option linter.unusedSimpArgs false
set_option maxRecDepth 100000
set_option maxHeartbeats 4000000

theorem Trim_digs (s : ByteArray) (w : World) (hs : s.size ≤ 9223372036854775807) :
    Calls Tryd.prog 39 #[.string s, .string ⟨#[48, 49, 50, 51, 52, 53, 54, 55, 56, 57]⟩] w fun e w' => e = .returned (.string ⟨(Lib.trimS s.data.toList digs).toArray⟩) ∧ Below w.heap.size w w' :=
  Any.strings_Trim_laid Tryd.lays160 (by kernel_rfl) s ⟨#[48, 49, 50, 51, 52, 53, 54, 55, 56, 57]⟩ w hs (by decide) (ascii_of_all (by decide))

theorem add_dig (t d : Nat) (w : World) (ht : t < big) (hd : d < 10) :
    Calls Tryd.prog 33 #[vN t, .agg #[.int .u32 (d : Int), .int .u32 0, .int .u32 0, .int .u32 0]] w fun e w' => e = .returned (.tuple #[vN ((t + d) % big), .int .u64 (cry t d)]) ∧ Below w.heap.size w w' := by
  obtain ⟨h0, h1, h2, h3⟩ := dg_lit d (by omega)
  have h := add_any t d w ht (by unfold big; omega)
  rw [show vN d = .agg #[.int .u32 (d : Int), .int .u32 0, .int .u32 0, .int .u32 0] by show Value.agg #[.int .u32 (dg 0 d), .int .u32 (dg 1 d), .int .u32 (dg 2 d), .int .u32 (dg 3 d)] = _; rw [h0, h1, h2, h3]] at h
  exact h

theorem mul10 (v : Nat) (w : World) (hv : v < big) :
    Calls Tryd.prog 34 #[vN v, .agg #[.int .u32 10, .int .u32 0, .int .u32 0, .int .u32 0]] w fun e w' => e = .returned (.tuple #[vN (v * 10 % big), .bool (decide (v * 10 < big))]) ∧ Below w.heap.size w w' :=
  mul_any v 10 w hv (by decide)

theorem dig_of {b : UInt8} (h : isDg b = true) : b.toNat - 48 < 10 ∧ 48 ≤ b.toNat ∧ b.toNat ≤ 57 := by
  unfold isDg at h
  simp only [Bool.and_eq_true, decide_eq_true_eq] at h
  omega

theorem NRead_any (s : ByteArray) (w : World) (hs : s.size ≤ 9223372036854775807) :
    Calls Tryd.prog 25 #[.string s] w fun e w' => e = .returned (vNRead s.data.toList) ∧ Below w.heap.size w w' := by
  have hsz : s.data.toList.length = s.size := by rw [Array.length_toList]; rfl
  obtain ⟨l, hl⟩ : ∃ l, s.data.toList = l := ⟨_, rfl⟩
  obtain ⟨R, hR⟩ : ∃ R, vNRead l = R := ⟨_, rfl⟩
  rw [hl, hR]
  rw [hl] at hsz
  have HR := Lib.hid hR
  have HL := Lib.hid hl
  have HSz := Lib.hid hsz
  clear hR hl hsz
  have hret : ∀ (w5 : World), Row w5 w.heap.size 28 z4 → Below w.heap.size w w5 → True := fun _ _ _ => trivial
  by_cases he : s = ⟨#[]⟩
  · have hv : R = .tuple #[vN 0, .int .i64 20] := by
      rw [← HR.out]
      unfold vNRead
      rw [if_pos (show badS l from Or.inl (by rw [← HL.out, he]))]
    subst hv
    subst he
    go_enter Tryd.func25, Tryd.ntmps25
    go_wp2_with fail
    obtain ⟨r0, hB, -⟩ := rows1 (w := w) (v0 := z4) (t0 := 28) (Below.refl _ _)
    refine bodyPost_ret (res_ct rfl rfl (load4 r0)) rfl ⟨rfl, hB⟩
  · have hsl : l ≠ [] := fun e => he (by apply ByteArray.ext; apply Array.toList_inj.1; rw [HL.out, e])
    have hne : (s.toList == []) = false := by rw [beq_eq_false_iff_ne, Lib.toList_data, HL.out]; exact hsl
    have hne2 : s.toList.isEmpty = false := by rw [← Bool.not_eq_true, List.isEmpty_iff, Lib.toList_data, HL.out]; exact hsl
    have hs0 : 0 < s.size := by
      rcases Nat.eq_zero_or_pos s.size with h | h
      · exact absurd (List.eq_nil_of_length_eq_zero (HSz.out.trans h)) hsl
      · exact h
    obtain ⟨b0, hb0⟩ : ∃ b, s[0] = b := ⟨_, rfl⟩
    have hhd : l.head? = some b0 := by
      rw [← HL.out, List.head?_eq_getElem?, List.getElem?_eq_getElem (by have := HSz.out; rw [HL.out]; omega)]
      exact congrArg some hb0
    by_cases hz : 1 < s.size ∧ b0 = 48
    · obtain ⟨h1, rfl⟩ := hz
      have hv : R = .tuple #[vN 0, .int .i64 20] := by
        rw [← HR.out]
        unfold vNRead
        rw [if_pos (show badS l from Or.inr (Or.inl ⟨by rw [HSz.out]; exact h1, hhd⟩))]
      subst hv
      have h1d : decide ((1 : Int) < (s.size : Int)) = true := by simp; omega
      clear hhd hsl
      go_enter Tryd.func25, Tryd.ntmps25
      go_wp2_with fail
      obtain ⟨r0, hB, -⟩ := rows1 (w := w) (v0 := z4) (t0 := 28) (Below.refl _ _)
      refine bodyPost_ret (res_ct rfl rfl (load4 r0)) rfl ⟨rfl, hB⟩
    · have hcase : ¬ (1 : Int) < (s.size : Int) ∨ ((1 : Int) < (s.size : Int) ∧ (((b0.toNat : Nat) : Int) == 48) = false) := by
        by_cases h1 : 1 < s.size
        · refine Or.inr ⟨by omega, ?_⟩
          rw [beq_eq_false_iff_ne]
          intro e
          exact hz ⟨h1, UInt8.toNat_inj.1 (by show b0.toNat = 48; omega)⟩
        · exact Or.inl (by omega)
      obtain ⟨T, hT⟩ : ∃ T : ByteArray, (⟨(Lib.trimS s.data.toList digs).toArray⟩ : ByteArray) = T := ⟨_, rfl⟩
      have hct := fun w5 => Trim_digs s w5 hs
      rw [hT] at hct
      have hT1 : T.data.toList = Lib.trimS l digs := by rw [← hT, HL.out]
      have HT := Lib.hid (And.intro hct hT1)
      have HH := Lib.hid (And.intro hhd hz)
      clear hct hT hT1 hhd hz hsl
      by_cases hd : ∀ b ∈ l, isDg b = true
      · have hTn : T.toList = [] := by rw [Lib.toList_data, HT.out.2]; exact (trim_digits l).2 hd
        have hTe : (T.toList == []) = true := by rw [hTn]; rfl
        have hTe2 : T.toList.isEmpty = true := by rw [hTn]; rfl
        have HD := Lib.hid hd
        clear hd hTn
        go_enter Tryd.func25, Tryd.ntmps25
        rcases hcase with h1 | ⟨h1, h2⟩
        all_goals
          go_wp2_with (go_at_call 39; refine (HT.out.1 _).mono ?_; rintro e w5 ⟨rfl, hb5⟩)
          have hbad : ¬ badS l := by
            rintro (h | ⟨h3, h4⟩ | h)
            · have := HSz.out; rw [h] at this; simp at this; omega
            · exact HH.out.2 ⟨by have := HSz.out; omega, by have h5 := HH.out.1; rw [h5] at h4; exact Option.some.inj h4⟩
            · exact h HD.out
          have HBad := Lib.hid hbad
          obtain ⟨r0, hB, z0⟩ := rows1 hb5
          have r0' := r0.alloc (.cells z4 28)
          have r1' := Row.new w5 28 z4
          have hB' := hB.alloc hB.size (.cells z4 28)
          clear hbad r0 hB hb5 h1
          go_loopw [5] (fun i wr => ∃ (k v : Nat), i = .int .i64 k ∧ k ≤ s.size ∧ v < big ∧ Row wr w.heap.size 28 z4 ∧ Row wr w5.heap.size 28 (pN v) ∧ Below w.heap.size w wr ∧ Hid (decV v (l.drop k) = decV 0 l)) (fun i _ => s.size - (intOf i).toNat)
          case atStart => exact ⟨0, 0, rfl, by omega, by decide, r0', r1', hB', Lib.hid rfl⟩
          case round =>
            clear r0' r1' hB'
            obtain ⟨k, v, rfl, hk, hv, r0, r1, hB, hG⟩ := hrel
            obtain ⟨c0, c1, c2, c3, f0, f1, f2, f3⟩ := row4 r0
            obtain ⟨g0, g1, g2, g3, j0, j1, j2, j3⟩ := row4 r1
            have y0 := r0.lt
            have y1 := r1.lt
            by_cases hlt : k < s.size
            · obtain ⟨b, hb⟩ : ∃ b, s[k] = b := ⟨_, rfl⟩
              have hkl : k < l.length := by have := HSz.out; omega
              have hlb : l[k] = b := by
                have e : l[k]? = some b := by
                  rw [← HL.out, List.getElem?_eq_getElem (by have := HSz.out; rw [HL.out]; omega)]
                  exact congrArg some hb
                rw [List.getElem?_eq_getElem hkl] at e
                exact Option.some.inj e
              obtain ⟨hd10, hb48, hb57⟩ := dig_of (HD.out b (by rw [← hlb]; exact List.getElem_mem hkl))
              obtain ⟨d, hdd⟩ : ∃ d, b.toNat - 48 = d := ⟨_, rfl⟩
              rw [hdd] at hd10
              have hw8 : IntKind.u8.wrap (((b.toNat : Nat) : Int) - 48) = (d : Int) := by rw [IntKind.wrap_u8]; omega
              have hbd : ((b.toNat : Nat) : Int) - 48 = (d : Int) := by omega
              have hw9 : IntKind.u8.wrap (d : Int) = (d : Int) := by rw [IntKind.wrap_u8]; omega
              have hw32 : IntKind.u32.wrap (d : Int) = (d : Int) := by rw [IntKind.wrap_u32]; omega
              have hstep : decV v (l.drop k) = decV (v * 10 + d) (l.drop (k + 1)) := by
                rw [List.drop_eq_getElem_cons hkl, hlb]
                show decV (v * 10 + (b.toNat - 48)) _ = _
                rw [hdd]
              have hG2 : decV (v * 10 + d) (l.drop (k + 1)) = decV 0 l := hstep.symm.trans hG.out
              obtain ⟨t, ht⟩ : ∃ t, v * 10 % big = t := ⟨_, rfl⟩
              have htb : t < big := by rw [← ht]; exact Nat.mod_lt _ (by decide)
              obtain ⟨F, hF⟩ : ∃ F, decide (v * 10 < big) = F := ⟨_, rfl⟩
              obtain ⟨u, hu⟩ : ∃ u, (t + d) % big = u := ⟨_, rfl⟩
              obtain ⟨C, hC⟩ : ∃ C, cry t d = C := ⟨_, rfl⟩
              have HV := Lib.hid (And.intro ht (And.intro hF (And.intro hu (And.intro hC hG2))))
              clear hstep hG2 ht hF hu hC hG hlb hdd
              have hy2 : w.heap.size < w5.heap.size := by omega
              go_wp2_with (go_at_call 34; refine (mul10 v _ hv).mono ?_; rintro e w6 ⟨rfl, hb6⟩; rw [HV.out.1, HV.out.2.1]; replace r0 := r0.below hb6 r0.lt; replace r1 := r1.below hb6 r1.lt; replace hB := hB.trans (hb6.mono hB.size); clear hb6; obtain ⟨c0, c1, c2, c3, f0, f1, f2, f3⟩ := row4 r0; obtain ⟨g0, g1, g2, g3, j0, j1, j2, j3⟩ := row4 r1; have y0 := r0.lt; have y1 := r1.lt)
              obtain ⟨Y, hY⟩ : ∃ Y, w6.alloc (.cells (pN t) 28) = Y := ⟨_, rfl⟩
              have rT : Row Y w6.heap.size 28 (pN t) := by rw [← hY]; exact Row.new w6 _ _
              have r0Y : Row Y w.heap.size 28 z4 := by rw [← hY]; exact r0.alloc _
              have r1Y : Row Y w5.heap.size 28 (pN v) := by rw [← hY]; exact r1.alloc _
              have hBY : Below w.heap.size w Y := by rw [← hY]; exact hB.alloc hB.size _
              rw [hY]
              clear hY r0 r1 hB c0 c1 c2 c3 f0 f1 f2 f3 g0 g1 g2 g3 j0 j1 j2 j3
              obtain ⟨n6, hn6⟩ : ∃ n6, w6.heap.size = n6 := ⟨_, rfl⟩
              rw [hn6] at rT y0 y1 ⊢
              obtain ⟨c0, c1, c2, c3, f0, f1, f2, f3⟩ := row4 rT
              have yT := rT.lt
              clear hn6
              go_region_with (go_at_call 33; refine (add_dig t d _ htb hd10).mono ?_; rintro e w7 ⟨rfl, hb7⟩; rw [HV.out.2.2.1, HV.out.2.2.2.1]; try (obtain ⟨p0, p1, p2, p3, p4, p5, p6, p7⟩ := row4 (row_behind hb7); have p8 := (row_behind hb7).lt))
              all_goals
                first
                  | (obtain ⟨X, hX⟩ : ∃ X, w7.alloc (.cells (pN u) 28) = X := ⟨_, rfl⟩
                     have hBX : Below Y.heap.size Y X := by
                       have h1 : Below Y.heap.size Y w7 := ((Below.refl Y.heap.size Y).drew).trans (hb7.mono (Nat.le_refl _))
                       rw [← hX]
                       exact h1.alloc h1.size _
                     have rU : Row X w7.heap.size 28 (pN u) := by rw [← hX]; exact Row.new w7 _ _
                     obtain ⟨q, hq⟩ : ∃ q, w7.heap.size = q := ⟨_, rfl⟩
                     have hqY : Y.heap.size ≤ q := by rw [← hq]; exact hb7.size
                     rw [hX, hq]
                     rw [hq] at rU)
                  | (obtain ⟨X, hX⟩ : ∃ X, (((w7.setCell ⟨Y.heap.size, 0, none⟩ (.int .u32 (dg 0 u))).setCell ⟨Y.heap.size, 1, none⟩ (.int .u32 (dg 1 u))).setCell ⟨Y.heap.size, 2, none⟩ (.int .u32 (dg 2 u))).setCell ⟨Y.heap.size, 3, none⟩ (.int .u32 (dg 3 u)) = X := ⟨_, rfl⟩
                     have hBX : Below Y.heap.size Y X := by
                       have h1 : Below Y.heap.size Y w7 := (((Below.refl Y.heap.size Y).alloc (Nat.le_refl _) (.cells z4 28)).drew).trans (hb7.mono (by simp))
                       rw [← hX]
                       exact Below.stored4 h1 (Nat.le_refl _) _ _ _ _
                     have rU : Row X Y.heap.size 28 (pN u) := by rw [← hX]; exact (row_behind hb7).stored4 _ _ _ _
                     obtain ⟨q, hq⟩ : ∃ q, Y.heap.size = q := ⟨_, rfl⟩
                     have hqY : Y.heap.size ≤ q := by rw [← hq]; exact Nat.le_refl _
                     rw [hX, hq]
                     rw [hq] at rU)
                have r0X := r0Y.below hBX (by omega)
                have r1X := r1Y.below hBX (by omega)
                have hBXw := hBY.trans (hBX.mono (by have := hBY.size; omega))
                obtain ⟨a0, a1, a2, a3, b0', b1', b2', b3'⟩ := row4 r0X
                obtain ⟨e0, e1, e2, e3, i0', i1', i2', i3'⟩ := row4 r1X
                obtain ⟨k0, k1, k2, k3, m0', m1', m2', m3'⟩ := row4 rU
                have x0 := r0X.lt
                have x1 := r1X.lt
                have x2 := rU.lt
                clear hX hq hb7 hBX
                by_cases hfit : v * 10 < big
                · have ht2 : v * 10 = t := (Nat.mod_eq_of_lt hfit).symm.trans HV.out.1
                  have hFt : F = true := by rw [← HV.out.2.1]; simpa using hfit
                  subst hFt
                  by_cases hsum : t + d < big
                  · have hu2 : t + d = u := (Nat.mod_eq_of_lt hsum).symm.trans HV.out.2.2.1
                    have hC0 : C = 0 := by rw [← HV.out.2.2.2.1]; unfold cry; rw [Nat.div_eq_of_lt hsum]; rfl
                    subst hC0
                    have hub : u < big := by rw [← hu2]; exact hsum
                    have hG3 : decV u (l.drop (k + 1)) = decV 0 l := by rw [← hu2, ← ht2]; exact HV.out.2.2.2.2
                    have HG3 := Lib.hid hG3
                    clear ht2 hfit hsum hu2 hG3
                    go_wp2_with fail
                    go_roundw
                    case rel =>
                      refine ⟨k + 1, u, by go_num, by omega, hub, r0X.other4 (by omega) _ _ _ _, r1X.stored4 _ _ _ _, Below.stored4 hBXw (by omega) _ _ _ _, HG3⟩
                    case measure => simp [intOf]; omega
                  · have hC1 : C = 1 := by rw [← HV.out.2.2.2.1]; unfold cry; unfold big at *; omega
                    subst hC1
                    have hvv : R = .tuple #[vN 0, .int .i64 3] := by
                      rw [← HR.out]
                      unfold vNRead
                      rw [if_neg HBad.out, if_neg]
                      have h1 := decV_ge (v * 10 + d) (l.drop (k + 1))
                      rw [HV.out.2.2.2.2] at h1
                      omega
                    subst hvv
                    clear ht2 hfit hsum
                    go_wp2_with fail
                    refine bodyPost_ret (res_ct rfl rfl (load4 (r0X.stored4 (vU 0) (vU 0) (vU 0) (vU 0)))) rfl ⟨rfl, Below.stored4 hBXw (Nat.le_refl _) _ _ _ _⟩
                · have hFt : F = false := by rw [← HV.out.2.1]; simpa using hfit
                  subst hFt
                  have hvv : R = .tuple #[vN 0, .int .i64 3] := by
                    rw [← HR.out]
                    unfold vNRead
                    rw [if_neg HBad.out, if_neg]
                    have h1 := decV_ge (v * 10 + d) (l.drop (k + 1))
                    rw [HV.out.2.2.2.2] at h1
                    omega
                  subst hvv
                  clear hfit
                  go_wp2_with fail
                  refine bodyPost_ret (res_ct rfl rfl (load4 (r0X.stored4 (vU 0) (vU 0) (vU 0) (vU 0)))) rfl ⟨rfl, Below.stored4 hBXw (Nat.le_refl _) _ _ _ _⟩
            · obtain rfl : k = s.size := by omega
              have hvv : R = .tuple #[vN v, .int .i64 0] := by
                have h1 := hG.out
                rw [List.drop_of_length_le (by have := HSz.out; omega)] at h1
                change v = decV 0 l at h1
                rw [← HR.out]
                unfold vNRead
                rw [if_neg HBad.out, ← h1, if_pos hv]
              subst hvv
              clear hG hlt
              go_wp2_with fail
              refine bodyPost_ret (res_ct rfl rfl (load4 (r0.stored4 (vU (dg 0 v)) (vU (dg 1 v)) (vU (dg 2 v)) (vU (dg 3 v))))) rfl ⟨rfl, Below.stored4 hB (Nat.le_refl _) _ _ _ _⟩
      · have hTn : T.toList ≠ [] := by rw [Lib.toList_data, HT.out.2]; exact fun e => hd ((trim_digits l).1 e)
        have hTe : (T.toList == []) = false := by rw [beq_eq_false_iff_ne]; exact hTn
        have hTe2 : T.toList.isEmpty = false := by rw [← Bool.not_eq_true, List.isEmpty_iff]; exact hTn
        have hv : R = .tuple #[vN 0, .int .i64 20] := by
          rw [← HR.out]
          unfold vNRead
          rw [if_pos (show badS l from Or.inr (Or.inr hd))]
        subst hv
        clear hd hTn
        go_enter Tryd.func25, Tryd.ntmps25
        rcases hcase with h1 | ⟨h1, h2⟩
        all_goals
          go_wp2_with (go_at_call 39; refine (HT.out.1 _).mono ?_; rintro e w5 ⟨rfl, hb5⟩; obtain ⟨r0, hB, z0⟩ := rows1 hb5; obtain ⟨c0, c1, c2, c3, f0, f1, f2, f3⟩ := row4 r0)
          refine bodyPost_ret (res_ct rfl rfl (load4 (r0.stored4 (vU 0) (vU 0) (vU 0) (vU 0)))) rfl ⟨rfl, Below.stored4 hB (Nat.le_refl _) _ _ _ _⟩

end Go.Proofs.YtfciebajiihcfaaDoor
