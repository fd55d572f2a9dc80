/- nat: Text -/
import Derived.Test.YtfciebajiihcfaaDoorNatT
import Derived.Test.YtfciebajiihcfaaDoorNatE
import Derived.Lib.Strings
namespace Go.Proofs.YtfciebajiihcfaaDoor
open Go.RowKit
set_option linter.unusedVariables false
set_option linter.unusedSimpArgs false
set_option maxRecDepth 100000
set_option maxHeartbeats 2000000

theorem dg_lit (d : Nat) (h : d < 4294967296) : dg 0 d = (d : Int) ∧ dg 1 d = 0 ∧ dg 2 d = 0 ∧ dg 3 d = 0 := by
  refine ⟨?_, ?_, ?_, ?_⟩
  · rw [dg0]; omega
  · rw [dg1]; omega
  · rw [dg2]; omega
  · rw [dg3]; omega

theorem vN_ten : vN 10 = .agg #[.int .u32 10, .int .u32 0, .int .u32 0, .int .u32 0] := rfl

theorem div10 (m : Nat) (w : World) (hm : m < big) :
    Calls Tryd.prog 35 #[vN m, .agg #[.int .u32 10, .int .u32 0, .int .u32 0, .int .u32 0]] w fun e w' => e = .returned (.tuple #[vN (m / 10), vN (m % 10)]) ∧ Below w.heap.size w w' :=
  div_any m 10 w hm (by decide) (by decide)

theorem NText_any (x : Nat) (w : World) (hx : x < big) :
    Calls Tryd.prog 24 #[vN x] w fun e w' => e = .returned (.string ⟨(txt x).toArray⟩) ∧ Below w.heap.size w w' := by
  obtain ⟨R, hR⟩ : ∃ R : ByteArray, (⟨(txt x).toArray⟩ : ByteArray) = R := ⟨_, rfl⟩
  have HR := Lib.hid hR
  rw [hR]
  clear hR
  go_enter Tryd.func24, Tryd.ntmps24
  go_wp2_with fail
  go_loopg [3] (x + 1) (fun g s wr => ∃ (m : Nat) (S : List UInt8) (S0 : ByteArray), s = .string S0 ∧ Hid (S0.data.toList = S) ∧ Hid (TextAt x m S) ∧ Hid (10 ^ S.length * m ≤ x) ∧ S0.size ≤ 39 ∧ m ≤ g ∧ Hid (S = [] → m < g) ∧ m < big ∧ Row wr w.heap.size 28 (pN m) ∧ Below w.heap.size w wr)
  case atStart =>
    obtain ⟨r0, hB, -⟩ := rows1 (w := w) (v0 := pN x) (t0 := 28) (Below.refl _ _)
    exact ⟨x, [], ⟨#[]⟩, rfl, rfl, TextAt.start x, by show 10 ^ 0 * x ≤ x; omega, by decide, by omega, fun _ => by omega, hx, r0, hB⟩
  case round =>
    obtain ⟨m, S, S0, rfl, hS, hT, hP, hz39, hmg, hSg, hm, r0, hB⟩ := hrel
    obtain ⟨ca0, ca1, ca2, ca3, fa0, fa1, fa2, fa3⟩ := row4 r0
    have z0 := r0.lt
    by_cases hend : m = 0 ∧ S ≠ []
    · obtain ⟨hm0, hSn⟩ := hend
      have hv : S0 = R := by
        have h1 := hT.out
        rw [hm0] at h1
        rw [← HR.out, ← h1.stop hSn, ← hS.out]
      have hz : ((dg 0 m == 0) && ((dg 1 m == 0) && ((dg 2 m == 0) && (dg 3 m == 0)))) = true := by rw [hm0]; decide
      have hne : (S0.toList == []) = false := by rw [beq_eq_false_iff_ne, Lib.toList_data, hS.out]; exact hSn
      have hne2 : S0.toList.isEmpty = false := by rw [← Bool.not_eq_true, List.isEmpty_iff, Lib.toList_data, hS.out]; exact hSn
      have HV := Lib.hid hv
      clear hm0 hSn hv hS hT hP hSg
      go_wp2_with fail
      go_ret
      exact ⟨by rw [HV.out]; rfl, hB⟩
    · have hc : m ≠ 0 ∨ S = [] := by
        by_cases h : m = 0
        · right
          by_cases h2 : S = []
          · exact h2
          · exact absurd ⟨h, h2⟩ hend
        · left; exact h
      obtain ⟨q, hq⟩ : ∃ q, m / 10 = q := ⟨_, rfl⟩
      obtain ⟨d, hd⟩ : ∃ d, m % 10 = d := ⟨_, rfl⟩
      have hd10 : d < 10 := by omega
      have hS38 : S0.size ≤ 38 := by
        have e : S0.size = S.length := by rw [← hS.out, Array.length_toList]; rfl
        rcases Nat.eq_zero_or_pos m with h | h
        · rcases hc with h2 | h2
          · exact absurd h h2
          · rw [e, h2]; decide
        · have := pow_room hP.out h hx
          omega
      have hT2 := hT.out.step hc
      have hP2 := pow_step hP.out
      have hqg : q < gk := by
        rcases Nat.eq_zero_or_pos m with h | h
        · rcases hc with h2 | h2
          · exact absurd h h2
          · have := hSg.out h2; omega
        · omega
      have hqb : q < big := by omega
      have hcase : (((dg 0 m == 0) && ((dg 1 m == 0) && ((dg 2 m == 0) && (dg 3 m == 0)))) = false) ∨ (((dg 0 m == 0) && ((dg 1 m == 0) && ((dg 2 m == 0) && (dg 3 m == 0)))) = true ∧ (S0.toList == []) = true ∧ S0.toList.isEmpty = true) := by
        rcases Nat.eq_zero_or_pos m with h | h
        · rcases hc with h2 | h2
          · exact absurd h h2
          · right
            refine ⟨by rw [h]; decide, ?_, ?_⟩
            · rw [beq_iff_eq, Lib.toList_data, hS.out]; exact h2
            · rw [List.isEmpty_iff, Lib.toList_data, hS.out]; exact h2
        · left
          exact dg_zero m hm h
      rw [hq, hd] at hT2
      rw [hq] at hP2
      obtain ⟨hd0, hd1, hd2, hd3⟩ := dg_lit d (by omega)
      have henc := dgb_encode d hd10
      have hw1 : IntKind.u32.wrap (48 + (d : Int)) = 48 + (d : Int) := by rw [IntKind.wrap_u32]; omega
      have hw2 : IntKind.i32.wrap (48 + (d : Int)) = 48 + (d : Int) := by rw [IntKind.wrap_i32]; omega
      have hsum : ¬ (9223372036854775807 < 1 + S0.size) := by omega
      have HX := Lib.hid (And.intro hq (And.intro hd (And.intro hT2 (And.intro hP2 hS.out))))
      clear hq hd hT2 hP2 hS hT hP hSg hc hend
      rcases hcase with hz | ⟨hz, hne, hne2⟩
      all_goals
        go_wp2_with (go_at_call 35; refine (div10 m _ hm).mono ?_; rintro e w5 ⟨rfl, hb5⟩; rw [HX.out.1, HX.out.2.1]; replace r0 := r0.below hb5 r0.lt; replace hB := hB.trans (hb5.mono hB.size); clear hb5; obtain ⟨ca0, ca1, ca2, ca3, fa0, fa1, fa2, fa3⟩ := row4 r0; have z0 := r0.lt)
      all_goals
        have rQ := ((r0.stored4 (vU (dg 0 q)) (vU (dg 1 q)) (vU (dg 2 q)) (vU (dg 3 q))).alloc (.cells (pN q) 28)).alloc (.cells #[.int .u32 (d : Int), vU 0, vU 0, vU 0] 28)
        have hB0 := Below.stored4 hB (Nat.le_refl _) (vU (dg 0 q)) (vU (dg 1 q)) (vU (dg 2 q)) (vU (dg 3 q))
        have hB1 := hB0.alloc hB0.size (.cells (pN q) 28)
        have hB2 := hB1.alloc hB1.size (.cells #[.int .u32 (d : Int), vU 0, vU 0, vU 0] 28)
        go_roundg q
        case measure => exact hqg
        case rel =>
          obtain ⟨-, -, hT2, hP2, hS⟩ := HX.out
          refine ⟨q, dgb d :: S, ⟨#[dgb d]⟩ ++ S0, rfl, ?_, hT2, by rw [List.length_cons]; exact hP2, ?_, Nat.le_refl _, Lib.hid (fun h => by cases h), hqb, rQ, hB2⟩
          · show ((⟨#[dgb d]⟩ : ByteArray) ++ S0).data.toList = dgb d :: S
            rw [ByteArray.data_append, Array.toList_append, hS]
            rfl
          · rw [ByteArray.size_append]
            show 1 + S0.size ≤ 39
            omega

end Go.Proofs.YtfciebajiihcfaaDoor
