/- NatSmall: the closed statement, walked -/
import Derived.Test.YtfciebajiihcfaaDoorNatMore
namespace Go.Proofs.YtfciebajiihcfaaDoor
open Go.RowKit
set_option linter.unusedVariables false
set_option linter.unusedSimpArgs false
set_option maxRecDepth 100000
set_option maxHeartbeats 4000000

abbrev partsV : Array Value := #[.int .u32 0, .int .u32 1, .int .u32 2147483648, .int .u32 4294967295]
theorem parts_get (i : Nat) (h : i < 4) : ∃ x : Int, 0 ≤ x ∧ x ≤ 4294967295 ∧ partsV[i]? = some (.int .u32 x) := by
  match i, h with
  | 0, _ => exact ⟨_, by decide, by decide, rfl⟩
  | 1, _ => exact ⟨_, by decide, by decide, rfl⟩
  | 2, _ => exact ⟨_, by decide, by decide, rfl⟩
  | 3, _ => exact ⟨_, by decide, by decide, rfl⟩

def SomeVN (w : World) (e : Ending) (w' : World) : Prop := ∃ z : Nat, z < big ∧ e = .returned (vN z) ∧ Below w.heap.size w w'

theorem number_any (n : Int) (g : Nat) (w : World) (h0 : 0 ≤ n) (h1 : n ≤ 2000) (rG : Row w g 27 partsV) :
    Calls Tryd.prog 28 #[.int .i64 n, .pointer (some ⟨g, 0, none⟩)] w (SomeVN w) := by
  obtain ⟨i0, hi0⟩ : ∃ i : Nat, n % 4 = i := ⟨(n % 4).toNat, by omega⟩
  obtain ⟨i1, hi1⟩ : ∃ i : Nat, n / 4 % 4 = i := ⟨(n / 4 % 4).toNat, by omega⟩
  obtain ⟨i2, hi2⟩ : ∃ i : Nat, n / 16 % 4 = i := ⟨(n / 16 % 4).toNat, by omega⟩
  obtain ⟨i3, hi3⟩ : ∃ i : Nat, n / 64 % 4 = i := ⟨(n / 64 % 4).toNat, by omega⟩
  obtain ⟨x0, a0, b0, c0⟩ := parts_get i0 (by omega)
  obtain ⟨x1, a1, b1, c1⟩ := parts_get i1 (by omega)
  obtain ⟨x2, a2, b2, c2⟩ := parts_get i2 (by omega)
  obtain ⟨x3, a3, b3, c3⟩ := parts_get i3 (by omega)
  have l0 : i0 < 4 := by omega
  have l1 : i1 < 4 := by omega
  have l2 : i2 < 4 := by omega
  have l3 : i3 < 4 := by omega
  obtain ⟨v1, hv1⟩ : ∃ v, n / 4 = v := ⟨_, rfl⟩
  obtain ⟨v2, hv2⟩ : ∃ v, n / 16 = v := ⟨_, rfl⟩
  obtain ⟨v3, hv3⟩ : ∃ v, n / 64 = v := ⟨_, rfl⟩
  rw [hv1] at hi1
  rw [hv2] at hi2
  rw [hv3] at hi3
  have m0 : n.tmod 4 = (i0 : Int) := by rw [Int.tmod_eq_emod_of_nonneg h0]; exact hi0
  have m1 : v1.tmod 4 = (i1 : Int) := by rw [Int.tmod_eq_emod_of_nonneg (by omega)]; exact hi1
  have m2 : v2.tmod 4 = (i2 : Int) := by rw [Int.tmod_eq_emod_of_nonneg (by omega)]; exact hi2
  have m3 : v3.tmod 4 = (i3 : Int) := by rw [Int.tmod_eq_emod_of_nonneg (by omega)]; exact hi3
  have d1 : n.tdiv 4 = v1 := by rw [Int.tdiv_eq_ediv_of_nonneg h0]; exact hv1
  have d2 : n.tdiv 16 = v2 := by rw [Int.tdiv_eq_ediv_of_nonneg h0]; exact hv2
  have d3 : n.tdiv 64 = v3 := by rw [Int.tdiv_eq_ediv_of_nonneg h0]; exact hv3
  have w1 : IntKind.i64.wrap v1 = v1 := IntWalk.i64_in _ (by omega)
  have w2 : IntKind.i64.wrap v2 = v2 := IntWalk.i64_in _ (by omega)
  have w3 : IntKind.i64.wrap v3 = v3 := IntWalk.i64_in _ (by omega)
  have p0 : (0 : Int) ≤ (i0 : Int) ∧ (i0 : Int) < 4 := by omega
  have p1 : (0 : Int) ≤ (i1 : Int) ∧ (i1 : Int) < 4 := by omega
  have p2 : (0 : Int) ≤ (i2 : Int) ∧ (i2 : Int) < 4 := by omega
  have p3 : (0 : Int) ≤ (i3 : Int) ∧ (i3 : Int) < 4 := by omega
  obtain ⟨p00, p01⟩ := p0
  obtain ⟨p10, p11⟩ := p1
  obtain ⟨p20, p21⟩ := p2
  obtain ⟨p30, p31⟩ := p3
  obtain ⟨z, hz, z0, z1, z2, z3⟩ := num_of_parts x0 x1 x2 x3 ⟨a0, b0⟩ ⟨a1, b1⟩ ⟨a2, b2⟩ ⟨a3, b3⟩
  have HZ := Lib.hid (And.intro z0 (And.intro z1 (And.intro z2 z3)))
  have zg := rG.lt
  have HC := Lib.hid (And.intro c0 (And.intro c1 (And.intro c2 (And.intro c3 rG))))
  clear z0 z1 z2 z3 c0 c1 c2 c3 rG
  go_enter Tryd.func28, Tryd.ntmps28
  go_wp2_with fail
  obtain ⟨W, hW⟩ : ∃ W, w.alloc (.cells #[.int .u32 0, .int .u32 0, .int .u32 0, .int .u32 0] 28) = W := ⟨_, rfl⟩
  have rG : Row W g 27 partsV := by rw [← hW]; exact HC.out.2.2.2.2.alloc _
  have rN : Row W w.heap.size 28 #[.int .u32 0, .int .u32 0, .int .u32 0, .int .u32 0] := by rw [← hW]; exact Row.new _ _ _
  have hB : Below w.heap.size w W := by rw [← hW]; exact (Below.refl _ _).alloc (Nat.le_refl _) _
  rw [hW]
  clear hW
  have k0 : W.cell? ⟨g, i0, none⟩ = some (.int .u32 x0) := by rw [rG.cell]; exact HC.out.1
  have k1 : W.cell? ⟨g, i1, none⟩ = some (.int .u32 x1) := by rw [rG.cell]; exact HC.out.2.1
  have k2 : W.cell? ⟨g, i2, none⟩ = some (.int .u32 x2) := by rw [rG.cell]; exact HC.out.2.2.1
  have k3 : W.cell? ⟨g, i3, none⟩ = some (.int .u32 x3) := by rw [rG.cell]; exact HC.out.2.2.2.1
  obtain ⟨e0, e1, e2, e3, f0, f1, f2, f3⟩ := row4 rN
  go_still_tail 20, (by kernel_rfl)
  change wpList _ _ _ _ _ W.drew
  go_wp2_with fail
  have hfin := rN.drew.stored4 (.int .u32 x0) (.int .u32 x1) (.int .u32 x2) (.int .u32 x3)
  refine bodyPost_ret (res_c rfl rfl (load4 hfin)) rfl ⟨z, hz, ?_, Below.stored4 hB.drew (Nat.le_refl _) _ _ _ _⟩
  rw [← HZ.out.1, ← HZ.out.2.1, ← HZ.out.2.2.1, ← HZ.out.2.2.2]

theorem tells_ten (z : Nat) (w : World) (hz : z < big) :
    Calls Tryd.prog 26 #[vN z, .agg #[.int .u32 10, .int .u32 0, .int .u32 0, .int .u32 0]] w fun e w' => e = .returned (.bool true) ∧ Below w.heap.size w w' := by
  have h := tells_any z 10 w hz (by decide)
  rw [vN_ten] at h
  exact h

theorem more_nil (n k : Int) (w : World) (hn : -9223372036854775808 ≤ n ∧ n ≤ 9223372036854775807) (hk : -9223372036854775808 ≤ k ∧ k ≤ 9223372036854775807) :
    Calls Tryd.prog 14 #[.int .i64 n, .int .i64 k, .slice none 0 0] w fun e w' => e = .returned (.bool true) ∧ Below w.heap.size w w' :=
  more_any n k (.slice none 0 0) [] w hn hk ⟨rfl, .inl ⟨rfl, _, _, rfl, fun _ => rfl⟩⟩ (by simp)

theorem more_three (n k : Int) (a : World) (b x y z : Nat) (hb : a.heap.size = b) (hn : -9223372036854775808 ≤ n ∧ n ≤ 9223372036854775807) (hk : -9223372036854775808 ≤ k ∧ k ≤ 9223372036854775807) (hx : x < big) (hy : y < big) (hz : z < big) :
    Calls Tryd.prog 14 #[.int .i64 n, .int .i64 k, .slice (some ⟨b, 0, none⟩) 3 3] (a.alloc (.cells #[.int .u32 (dg 0 x), .int .u32 (dg 1 x), .int .u32 (dg 2 x), .int .u32 (dg 3 x), .int .u32 (dg 0 y), .int .u32 (dg 1 y), .int .u32 (dg 2 y), .int .u32 (dg 3 y), .int .u32 (dg 0 z), .int .u32 (dg 1 z), .int .u32 (dg 2 z), .int .u32 (dg 3 z)] 28)) fun e w' => e = .returned (.bool true) ∧ Below a.heap.size a w' := by
  subst hb
  refine (more_any n k _ [x, y, z] _ hn hk (Rd.of_own (own_lit4t a 28 [x, y, z] (by show 3 ≤ 100; decide) _ rfl)) (by intro q hq; simp at hq; rcases hq with rfl | rfl | rfl; exact hx; exact hy; exact hz)).mono ?_
  rintro e w' ⟨he, hb⟩
  exact ⟨he, ((Below.refl _ _).alloc (Nat.le_refl _) _).trans (hb.mono (by simp))⟩

theorem ns_get (i : Nat) (h : i < 7) : ∃ x : Int, -9223372036854775808 ≤ x ∧ x ≤ 9223372036854775807 ∧ (#[.int .i64 52, .int .i64 126, .int .i64 127, .int .i64 128, .int .i64 129, .int .i64 4611686018427387904, .int .i64 (-9223372036854775808)] : Array Value)[i]? = some (.int .i64 x) := by
  match i, h with
    | 0, _ => exact ⟨_, by decide, by decide, rfl⟩
    | 1, _ => exact ⟨_, by decide, by decide, rfl⟩
    | 2, _ => exact ⟨_, by decide, by decide, rfl⟩
    | 3, _ => exact ⟨_, by decide, by decide, rfl⟩
    | 4, _ => exact ⟨_, by decide, by decide, rfl⟩
    | 5, _ => exact ⟨_, by decide, by decide, rfl⟩
    | 6, _ => exact ⟨_, by decide, by decide, rfl⟩
    | n + 7, h => exact absurd h (by omega)

theorem ks_get (i : Nat) (h : i < 12) : ∃ x : Int, -9223372036854775808 ≤ x ∧ x ≤ 9223372036854775807 ∧ (#[.int .i64 (-9223372036854775808), .int .i64 0, .int .i64 1, .int .i64 13, .int .i64 26, .int .i64 63, .int .i64 64, .int .i64 65, .int .i64 127, .int .i64 128, .int .i64 129, .int .i64 4611686018427387904] : Array Value)[i]? = some (.int .i64 x) := by
  match i, h with
    | 0, _ => exact ⟨_, by decide, by decide, rfl⟩
    | 1, _ => exact ⟨_, by decide, by decide, rfl⟩
    | 2, _ => exact ⟨_, by decide, by decide, rfl⟩
    | 3, _ => exact ⟨_, by decide, by decide, rfl⟩
    | 4, _ => exact ⟨_, by decide, by decide, rfl⟩
    | 5, _ => exact ⟨_, by decide, by decide, rfl⟩
    | 6, _ => exact ⟨_, by decide, by decide, rfl⟩
    | 7, _ => exact ⟨_, by decide, by decide, rfl⟩
    | 8, _ => exact ⟨_, by decide, by decide, rfl⟩
    | 9, _ => exact ⟨_, by decide, by decide, rfl⟩
    | 10, _ => exact ⟨_, by decide, by decide, rfl⟩
    | 11, _ => exact ⟨_, by decide, by decide, rfl⟩
    | n + 12, h => exact absurd h (by omega)

theorem ss_get (i : Nat) (h : i < 18) : ∃ x : ByteArray, x.size ≤ 100 ∧ (#[.string ⟨#[]⟩, .string ⟨#[48]⟩, .string ⟨#[48, 48]⟩, .string ⟨#[48, 49]⟩, .string ⟨#[49]⟩, .string ⟨#[57]⟩, .string ⟨#[45, 49]⟩, .string ⟨#[43, 49]⟩, .string ⟨#[32, 49]⟩, .string ⟨#[49, 32]⟩, .string ⟨#[49, 97]⟩, .string ⟨#[51, 52, 48, 50, 56, 50, 51, 54, 54, 57, 50, 48, 57, 51, 56, 52, 54, 51, 52, 54, 51, 51, 55, 52, 54, 48, 55, 52, 51, 49, 55, 54, 56, 50, 49, 49, 52, 53, 53]⟩, .string ⟨#[51, 52, 48, 50, 56, 50, 51, 54, 54, 57, 50, 48, 57, 51, 56, 52, 54, 51, 52, 54, 51, 51, 55, 52, 54, 48, 55, 52, 51, 49, 55, 54, 56, 50, 49, 49, 52, 53, 54]⟩, .string ⟨#[57, 57, 57, 57, 57, 57, 57, 57, 57, 57, 57, 57, 57, 57, 57, 57, 57, 57, 57, 57, 57, 57, 57, 57, 57, 57, 57, 57, 57, 57, 57, 57, 57, 57, 57, 57, 57, 57, 57]⟩, .string ⟨#[49, 48, 48, 48, 48, 48, 48, 48, 48, 48, 48, 48, 48, 48, 48, 48, 48, 48, 48, 48, 48, 48, 48, 48, 48, 48, 48, 48, 48, 48, 48, 48, 48, 48, 48, 48, 48, 48, 48, 48]⟩, .string ⟨#[49, 56, 52, 52, 54, 55, 52, 52, 48, 55, 51, 55, 48, 57, 53, 53, 49, 54, 49, 54]⟩, .string ⟨#[57, 57, 57, 57, 57, 57, 57, 57, 57, 57, 57, 57, 57, 57, 57, 57, 57, 57, 57, 57, 120]⟩, .string ⟨#[217, 163]⟩] : Array Value)[i]? = some (.string x) := by
  match i, h with
    | 0, _ => exact ⟨_, by decide, rfl⟩
    | 1, _ => exact ⟨_, by decide, rfl⟩
    | 2, _ => exact ⟨_, by decide, rfl⟩
    | 3, _ => exact ⟨_, by decide, rfl⟩
    | 4, _ => exact ⟨_, by decide, rfl⟩
    | 5, _ => exact ⟨_, by decide, rfl⟩
    | 6, _ => exact ⟨_, by decide, rfl⟩
    | 7, _ => exact ⟨_, by decide, rfl⟩
    | 8, _ => exact ⟨_, by decide, rfl⟩
    | 9, _ => exact ⟨_, by decide, rfl⟩
    | 10, _ => exact ⟨_, by decide, rfl⟩
    | 11, _ => exact ⟨_, by decide, rfl⟩
    | 12, _ => exact ⟨_, by decide, rfl⟩
    | 13, _ => exact ⟨_, by decide, rfl⟩
    | 14, _ => exact ⟨_, by decide, rfl⟩
    | 15, _ => exact ⟨_, by decide, rfl⟩
    | 16, _ => exact ⟨_, by decide, rfl⟩
    | 17, _ => exact ⟨_, by decide, rfl⟩
    | n + 18, h => exact absurd h (by omega)

theorem NatSmall_walk (w : World) : Calls Tryd.prog 11 #[] w fun e w' => e = .returned (.bool true) ∧ Below w.heap.size w w' := by
  go_enter Tryd.func11, Tryd.ntmps11
  go_wp2_with fail
  go_loopw [3, 4] (fun a b wr => ∃ (x : Int), a = .int .i64 x ∧ 0 ≤ x ∧ x ≤ 256 ∧ Row wr w.heap.size 27 partsV ∧ Below w.heap.size w wr) (fun a _ _ => 256 - (intOf a).toNat)
  case atStart => exact ⟨0, rfl, by decide, by decide, Row.new _ _ _, (Below.refl _ _).alloc (Nat.le_refl _) _⟩
  case round =>
    obtain ⟨x, rfl, hx0, hx1, RG, hB⟩ := hrel
    by_cases hx : x < 256
    · obtain ⟨wo, rfl⟩ : ∃ wo : World, wo = wr := ⟨_, rfl⟩
      go_wp2_with fail
      go_loopw [4] (fun b wr => ∃ (y : Int), b = .int .i64 y ∧ 0 ≤ y ∧ y ≤ 316 ∧ Row wr w.heap.size 27 partsV ∧ Below w.heap.size w wr) (fun b _ => 317 - (intOf b).toNat)
      case atStart => exact ⟨_, rfl, by omega, by omega, RG, hB⟩
      case round =>
        clear RG hB
        obtain ⟨y, rfl, hy0, hy1, RG, hB⟩ := hrel
        by_cases hy : y < 256
        · go_wp2_with (go_at_call 28; refine stopD_of ?_)
          unfold StopD
          refine (number_any x _ _ (by omega) (by omega) RG).mono ?_
          rintro e w1 ⟨z1, hz1, rfl, hb⟩
          replace RG := row0 RG hb
          replace hB := call0 hB hb
          clear hb
          go_wp2_with (go_at_call 28; refine stopD_of ?_)
          unfold StopD
          refine (number_any y _ _ (by omega) (by omega) RG).mono ?_
          rintro e w2 ⟨z2, hz2, rfl, hb⟩
          replace RG := row0 RG hb
          replace hB := call0 hB hb
          clear hb
          go_wp2_with (go_at_call 26; refine stopD_of ?_)
          unfold StopD
          refine (tells_any z1 z2 _ hz1 hz2).mono ?_
          rintro e w3 ⟨rfl, hb⟩
          replace RG := row0 RG hb
          replace hB := call0 hB hb
          clear hb
          go_wp2_with fail
          go_roundw
          case rel => exact ⟨y + 61, by go_num, by omega, by omega, RG, hB⟩
          case measure => simp [intOf]; omega
        · go_wp2_with (go_at_call 28; refine stopD_of ?_)
          unfold StopD
          refine (number_any x _ _ (by omega) (by omega) RG).mono ?_
          rintro e w1 ⟨z1, hz1, rfl, hb⟩
          replace RG := row0 RG hb
          replace hB := call0 hB hb
          clear hb
          go_wp2_with (go_at_call 26; refine stopD_of ?_)
          unfold StopD
          refine (tells_ten z1 _ hz1).mono ?_
          rintro e w2 ⟨rfl, hb⟩
          replace RG := row0 RG hb
          replace hB := call0 hB hb
          clear hb
          go_wp2_with (go_at_call 28; refine stopD_of ?_)
          unfold StopD
          refine (number_any x _ _ (by omega) (by omega) RG).mono ?_
          rintro e w3 ⟨z3, hz3, rfl, hb⟩
          replace RG := row0 RG hb
          replace hB := call0 hB hb
          clear hb
          go_wp2_with (go_at_call 28; refine stopD_of ?_)
          unfold StopD
          refine (number_any (x / 16) _ _ (by omega) (by omega) RG).mono ?_
          rintro e w4 ⟨z4, hz4, rfl, hb⟩
          replace RG := row0 RG hb
          replace hB := call0 hB hb
          clear hb
          go_wp2_with (go_at_call 28; refine stopD_of ?_)
          unfold StopD
          refine (number_any (5 * x) _ _ (by omega) (by omega) RG).mono ?_
          rintro e w5 ⟨z5, hz5, rfl, hb⟩
          replace RG := row0 RG hb
          replace hB := call0 hB hb
          clear hb
          go_wp2_with (go_at_call 14; refine stopD_of ?_)
          unfold StopD
          refine (more_three (x - 4) (x % 7) _ _ z3 z4 z5 rfl (by omega) (by omega) hz3 hz4 hz5).mono ?_
          rintro e w6 ⟨rfl, hb⟩
          replace RG := row0 RG hb
          replace hB := call0 hB hb
          clear hb
          go_wp2_with fail
          go_roundw
          case rel => exact ⟨x + 1, by go_num, by omega, by omega, RG, hB⟩
          case measure => simp [intOf]; omega
    · clear RG
      go_wp2_with fail
      go_loopw [5, 6] (fun a b wr => ∃ (n : Int), a = .int .i64 n ∧ -1 ≤ n ∧ n ≤ 10 ∧ Below w.heap.size w wr) (fun a _ _ => (10 - intOf a).toNat)
      case atStart => exact ⟨-1, rfl, by decide, by decide, hB⟩
      case round =>
        clear hB
        obtain ⟨n, rfl, hn0, hn1, hB⟩ := hrel
        by_cases hn : n ≤ 9
        · obtain ⟨wo, rfl⟩ : ∃ wo : World, wo = wr := ⟨_, rfl⟩
          go_wp2_with fail
          go_loopw [6] (fun b wr => ∃ (k : Int), b = .int .i64 k ∧ -1 ≤ k ∧ k ≤ n + 2 ∧ Below w.heap.size w wr) (fun b _ => (n + 2 - intOf b).toNat)
          case atStart => exact ⟨-1, rfl, by decide, by omega, hB⟩
          case round =>
            clear hB
            obtain ⟨k, rfl, hk0, hk1, hB⟩ := hrel
            by_cases hk : k ≤ n + 1
            · go_wp2_with (go_at_call 14; refine stopD_of ?_)
              unfold StopD
              refine (more_nil n k _ (by omega) (by omega)).mono ?_
              rintro e w1 ⟨rfl, hb⟩
              replace hB := call0 hB hb
              clear hb
              go_wp2_with fail
              go_roundw
              case rel => exact ⟨k + 1, by go_num, by omega, by omega, hB⟩
              case measure => simp [intOf]; omega
            · go_wp2_with fail
              go_roundw
              case rel => exact ⟨n + 1, by go_num, by omega, by omega, hB⟩
              case measure => simp [intOf]; omega
        · obtain ⟨W5, rfl⟩ : ∃ W5 : World, W5 = wr := ⟨_, rfl⟩
          go_wp2_with fail
          go_loopw [75] (fun c wr => ∃ i : Nat, c = .int .i64 (i : Int) ∧ i ≤ 7 ∧ Row wr W5.heap.size 3 #[.int .i64 52, .int .i64 126, .int .i64 127, .int .i64 128, .int .i64 129, .int .i64 4611686018427387904, .int .i64 (-9223372036854775808)] ∧ Below w.heap.size w wr) (fun c _ => 7 - (intOf c).toNat)
          case atStart => exact ⟨0, rfl, by decide, Row.new _ _ _, hB.alloc hB.size _⟩
          case round =>
            clear hB
            obtain ⟨i, rfl, hi, RN, hB⟩ := hrel
            by_cases hi7 : i < 7
            · obtain ⟨x, hx0, hx1, hx⟩ := ns_get i hi7
              have cx : wr.cell? ⟨W5.heap.size, i, none⟩ = some (.int .i64 x) := (RN.cell i).trans hx
              clear hx
              have t76 : decide ((i : Int) < 7) = true := decide_eq_true (by omega)
              have t77 : decide (i < 7) = true := decide_eq_true hi7
              obtain ⟨W6, rfl⟩ : ∃ W6 : World, W6 = wr := ⟨_, rfl⟩
              go_wp2_with fail
              go_loopw [81] (fun c wr => ∃ j : Nat, c = .int .i64 (j : Int) ∧ j ≤ 12 ∧ Row wr W6.heap.size 3 #[.int .i64 (-9223372036854775808), .int .i64 0, .int .i64 1, .int .i64 13, .int .i64 26, .int .i64 63, .int .i64 64, .int .i64 65, .int .i64 127, .int .i64 128, .int .i64 129, .int .i64 4611686018427387904] ∧ Row wr W5.heap.size 3 #[.int .i64 52, .int .i64 126, .int .i64 127, .int .i64 128, .int .i64 129, .int .i64 4611686018427387904, .int .i64 (-9223372036854775808)] ∧ Below w.heap.size w wr) (fun c _ => 12 - (intOf c).toNat)
              case atStart => exact ⟨0, rfl, by decide, Row.new _ _ _, RN.alloc _, hB.alloc hB.size _⟩
              case round =>
                clear hB RN cx
                obtain ⟨j, rfl, hj, RK, RN, hB⟩ := hrel
                by_cases hj12 : j < 12
                · obtain ⟨y, hy0, hy1, hy⟩ := ks_get j hj12
                  have cy : wr.cell? ⟨W6.heap.size, j, none⟩ = some (.int .i64 y) := (RK.cell j).trans hy
                  clear hy
                  go_wp2_with (go_at_call 14; refine stopD_of ?_)
                  unfold StopD
                  refine (more_nil x y _ ⟨hx0, hx1⟩ ⟨hy0, hy1⟩).mono ?_
                  rintro e w1 ⟨rfl, hb⟩
                  replace RK := row0 RK hb
                  replace RN := row0 RN hb
                  replace hB := call0 hB hb
                  clear hb cy
                  go_wp2_with fail
                  go_roundw
                  case rel => exact ⟨j + 1, by go_num, by omega, RK, RN, hB⟩
                  case measure => simp [intOf]; omega
                · go_wp2_with fail
                  go_roundw
                  case rel => exact ⟨i + 1, by go_num, by omega, RN, hB⟩
                  case measure => simp [intOf]; omega
            · obtain ⟨W7, rfl⟩ : ∃ W7 : World, W7 = wr := ⟨_, rfl⟩
              clear RN
              go_wp2_with fail
              go_loopw [93] (fun c wr => ∃ i : Nat, c = .int .i64 (i : Int) ∧ i ≤ 18 ∧ Row wr W7.heap.size 9 #[.string ⟨#[]⟩, .string ⟨#[48]⟩, .string ⟨#[48, 48]⟩, .string ⟨#[48, 49]⟩, .string ⟨#[49]⟩, .string ⟨#[57]⟩, .string ⟨#[45, 49]⟩, .string ⟨#[43, 49]⟩, .string ⟨#[32, 49]⟩, .string ⟨#[49, 32]⟩, .string ⟨#[49, 97]⟩, .string ⟨#[51, 52, 48, 50, 56, 50, 51, 54, 54, 57, 50, 48, 57, 51, 56, 52, 54, 51, 52, 54, 51, 51, 55, 52, 54, 48, 55, 52, 51, 49, 55, 54, 56, 50, 49, 49, 52, 53, 53]⟩, .string ⟨#[51, 52, 48, 50, 56, 50, 51, 54, 54, 57, 50, 48, 57, 51, 56, 52, 54, 51, 52, 54, 51, 51, 55, 52, 54, 48, 55, 52, 51, 49, 55, 54, 56, 50, 49, 49, 52, 53, 54]⟩, .string ⟨#[57, 57, 57, 57, 57, 57, 57, 57, 57, 57, 57, 57, 57, 57, 57, 57, 57, 57, 57, 57, 57, 57, 57, 57, 57, 57, 57, 57, 57, 57, 57, 57, 57, 57, 57, 57, 57, 57, 57]⟩, .string ⟨#[49, 48, 48, 48, 48, 48, 48, 48, 48, 48, 48, 48, 48, 48, 48, 48, 48, 48, 48, 48, 48, 48, 48, 48, 48, 48, 48, 48, 48, 48, 48, 48, 48, 48, 48, 48, 48, 48, 48, 48]⟩, .string ⟨#[49, 56, 52, 52, 54, 55, 52, 52, 48, 55, 51, 55, 48, 57, 53, 53, 49, 54, 49, 54]⟩, .string ⟨#[57, 57, 57, 57, 57, 57, 57, 57, 57, 57, 57, 57, 57, 57, 57, 57, 57, 57, 57, 57, 120]⟩, .string ⟨#[217, 163]⟩] ∧ Below w.heap.size w wr) (fun c _ => 18 - (intOf c).toNat)
              case atStart => exact ⟨0, rfl, by decide, Row.new _ _ _, hB.alloc hB.size _⟩
              case round =>
                clear hB
                obtain ⟨q, rfl, hq, RS, hB⟩ := hrel
                by_cases hq18 : q < 18
                · obtain ⟨s, hs, hcs⟩ := ss_get q hq18
                  have cs : wr.cell? ⟨W7.heap.size, q, none⟩ = some (.string s) := (RS.cell q).trans hcs
                  clear hcs
                  go_wp2_with (go_at_call 12; refine stopD_of ?_)
                  unfold StopD
                  refine (reads_any s _ (by omega)).mono ?_
                  rintro e w1 ⟨rfl, hb⟩
                  replace RS := row0 RS hb
                  replace hB := call0 hB hb
                  clear hb cs
                  go_wp2_with fail
                  go_roundw
                  case rel => exact ⟨q + 1, by go_num, by omega, RS, hB⟩
                  case measure => simp [intOf]; omega
                · go_wp2_with (go_at_call 13; refine stopD_of ?_)
                  unfold StopD
                  refine (nawake_true _).mono ?_
                  rintro e w1 ⟨rfl, hb⟩
                  replace hB := call0 hB hb
                  clear hb
                  go_wp2_with fail
                  go_ret
                  exact ⟨rfl, hB⟩

end Go.Proofs.YtfciebajiihcfaaDoor
