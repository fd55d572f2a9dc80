/- the reference: Parse -/
import Derived.Test.YtbjehiagaikhoaaProg
import Derived.Test.YtbjehiagaikhoaaCardRW
import Derived.Deep.RegionWith
namespace Go.Proofs.Ytbjehiagaikhoaa
open Go.RowKit
set_option linter.unusedVariables false
set_option linter.unusedSimpArgs false
set_option maxRecDepth 100000
set_option maxHeartbeats 1000000

/-- string([]byte{b}) where its cell is known -/
theorem one_str2 (w : World) (g : Nat) (b : UInt8) (h : w.cell? ⟨g, 0, none⟩ = some (.int .u8 (b.toNat : Int))) :
    (convert 37 9 (.slice (some ⟨g, 0, none⟩) 1 1)).run Try.prog w = .ok (.string ⟨#[b]⟩) w := by
  refine run_convert_bytes_back (P := Try.prog) w 37 9 5 ⟨g, 0, none⟩ 1 [b] Try.underlying37 Try.underlying5 Try.underlying9 ?_
  intro j hj
  have hj0 : j = 0 := by simpa using hj
  subst hj0
  rw [addr_add]
  exact h

theorem cell_behind {w w8 : World} {x : Value} {t : TypeId} (hb : Below ((w.alloc (.cells #[x] t)).drew).heap.size ((w.alloc (.cells #[x] t)).drew) w8) : w8.cell? ⟨w.heap.size, 0, none⟩ = some x := by
  refine (hb.cell (p := ⟨w.heap.size, 0, none⟩) (by simp)).trans ?_
  exact (Row.new w t #[x]).cell 0

def Found (b : UInt8) (k : Nat) (z : Int) : Prop := (z = -1 ∧ ∀ j, j < k → rankB j ≠ b) ∨ ∃ j : Nat, j < k ∧ z = j ∧ rankB j = b

theorem Found.bd {b : UInt8} {k : Nat} {z : Int} (h : Found b k z) : -1 ≤ z ∧ z < k := by
  rcases h with ⟨rfl, _⟩ | ⟨j, hj, rfl, _⟩
  · omega
  · omega

theorem RParse_any (s : ByteArray) (w : World) (hs : s.size ≤ 9223372036854775807) :
    Calls Try.prog 41 #[.string s] w fun e w' => e = .returned (vParse (parseN s.data.toList)) ∧ Below w.heap.size w w' := by
  have hsz : s.data.toList.length = s.size := by rw [Array.length_toList]; rfl
  rw [← rgo_parse]
  obtain ⟨R, hR⟩ : ∃ R, rgo 3 13 0 s.data.toList = R := ⟨_, rfl⟩
  have HR := Lib.hid hR
  rw [hR]
  clear hR
  go_enter Try.func41, Try.ntmps41
  go_wp2
  go_loopw [4, 5, 6, 7] (fun m su la i wr => ∃ (m' su' la' i' : Nat), m = .int .u64 m' ∧ su = .int .i64 su' ∧ la = .int .i64 la' ∧ i = .int .i64 i' ∧ i' ≤ s.size ∧ su' ≤ 3 ∧ la' ≤ 13 ∧ m' < 4503599627370496 ∧ Hid (∀ c, c < 13 * su' + la' → bt m' c = false) ∧ Hid (rgo su' la' m' (s.data.toList.drop i') = R) ∧ Below w.heap.size w wr) (fun _ _ _ i _ => s.size - (intOf i).toNat)
  case atStart => exact ⟨0, 3, 13, 0, rfl, rfl, rfl, rfl, by omega, by omega, by omega, by omega, Lib.hid (fun c _ => bt_zero c), HR, Below.refl _ _⟩
  case round =>
    obtain ⟨m, su, la, i, rfl, rfl, rfl, rfl, hi, hsu, hla, hm, hlow, hG, hB⟩ := hrel
    by_cases h : i < s.size
    · have hg : s.data.toList.drop i = s[i] :: s.data.toList.drop (i + 1) := by
        rw [List.drop_eq_getElem_cons (by omega)]
        rfl
      have hG' := hG.out
      rw [hg] at hG'
      obtain ⟨b, hb⟩ : ∃ b, s[i] = b := ⟨_, rfl⟩
      rw [hb] at hG'
      have hbt : (((b.toNat : Nat) : Int)).toNat.toUInt8 = b := byte_back b
      by_cases hdot : b = 46
      · subst hdot
        unfold rgo at hG'
        rw [if_pos rfl] at hG'
        cases su with
        | zero =>
          have hv : R = none := hG'.symm
          subst hv
          clear hG' hg hbt
          go_wp2
          exact bodyPost_ret (results_tmp2 rfl _ _ _) rfl ⟨rfl, hB⟩
        | succ su =>
          simp only [] at hG'
          have hlow2 : ∀ c, c < 13 * su + 13 → bt m c = false := fun c hc => hlow.out c (by omega)
          have HG := Lib.hid (And.intro hlow2 hG')
          have hsi : ((su + 1 : Nat) : Int) - 1 = (su : Int) := by omega
          clear hG' hg hlow2 hbt
          go_wp2
          go_roundw
          case rel => exact ⟨m, su, 13, i + 1, rfl, by go_num, rfl, by go_num, by omega, by omega, by omega, hm, Lib.hid HG.out.1, Lib.hid HG.out.2, hB⟩
          case measure => simp [intOf]; omega
      · have hn46 : (((b.toNat : Nat) : Int) == 46) = false := by
          rw [beq_eq_false_iff_ne]
          intro e
          apply hdot
          have e2 : b.toNat = 46 := by omega
          exact UInt8.toNat_inj.1 e2
        unfold rgo at hG'
        rw [if_neg hdot] at hG'
        have HG' := Lib.hid hG'
        clear hG' hg hdot
        obtain ⟨W, rfl⟩ : ∃ W : World, W = wr := ⟨_, rfl⟩
        go_wp2_with fail
        go_loopw [8, 9] (fun z k wr => ∃ (z' : Int) (k' : Nat), z = .int .i64 z' ∧ k = .int .i64 k' ∧ k' ≤ la ∧ Hid (Found b k' z') ∧ Below w.heap.size w wr) (fun _ k _ => la - (intOf k).toNat)
        case atStart => exact ⟨-1, 0, rfl, rfl, by omega, Lib.hid (Or.inl ⟨rfl, fun j hj => by omega⟩), hB⟩
        case round =>
          obtain ⟨z, k, rfl, rfl, hk, hF, hBk⟩ := hrel
          by_cases hkl : k < la
          · have hcv := fun w g => one_str2 w g b
            have hk13 : k < 13 := by omega
            have hib : (i : Int) < (s.size : Int) := by omega
            by_cases hkb : rankB k = b
            · have hF2 : Found b (k + 1) (k : Int) := Or.inr ⟨k, by omega, rfl, hkb⟩
              have HF := Lib.hid hF2
              clear hF2
              have hqb : (rankB k == b) = true := by simpa using hkb
              go_wp2_with fail
              go_region_with ((go_at_call 46; refine (sign_any k _ hk13).mono ?_; rintro e w8 ⟨rfl, hb8⟩; try (have hcw := cell_behind hb8)))
              all_goals
                go_wp2_with fail
                go_roundw
                case rel =>
                  refine ⟨k, k + 1, rfl, by go_num, by omega, HF, ?_⟩
                  first
                    | exact (hBk.drew.trans (hb8.mono hBk.size)).alloc (hBk.drew.trans (hb8.mono hBk.size)).size _
                    | exact hBk.drew.trans (hb8.mono hBk.size)
                    | exact ((hBk.alloc hBk.size _).drew).trans (hb8.mono (hBk.alloc hBk.size _).size)
                case measure => simp [intOf]; omega
            · have hF2 : Found b (k + 1) z := by
                rcases hF.out with ⟨h1, h2⟩ | ⟨j, h1, h2, h3⟩
                · refine Or.inl ⟨h1, fun j hj => ?_⟩
                  by_cases hjk : j = k
                  · subst hjk; exact hkb
                  · exact h2 j (by omega)
                · exact Or.inr ⟨j, by omega, h2, h3⟩
              have HF := Lib.hid hF2
              clear hF2
              have hqb : (rankB k == b) = false := by simpa using hkb
              go_wp2_with fail
              go_region_with ((go_at_call 46; refine (sign_any k _ hk13).mono ?_; rintro e w8 ⟨rfl, hb8⟩; try (have hcw := cell_behind hb8)))
              all_goals
                go_wp2_with fail
                go_roundw
                case rel =>
                  refine ⟨z, k + 1, rfl, by go_num, by omega, HF, ?_⟩
                  first
                    | exact (hBk.drew.trans (hb8.mono hBk.size)).alloc (hBk.drew.trans (hb8.mono hBk.size)).size _
                    | exact hBk.drew.trans (hb8.mono hBk.size)
                    | exact ((hBk.alloc hBk.size _).drew).trans (hb8.mono (hBk.alloc hBk.size _).size)
                case measure => simp [intOf]; omega
          · obtain rfl : k = la := by omega
            rcases hF.out with ⟨hz1, hz2⟩ | ⟨j, hj1, hz, hj3⟩
            · subst hz1
              have hv : R = none := by
                rw [← HG'.out]
                cases hr : rankIx b with
                | none => rfl
                | some r =>
                  simp only []
                  rw [if_neg]
                  intro hrk
                  exact hz2 r hrk (rankIx_some hr).2
              subst hv
              clear hz2 hF
              go_wp2_with fail
              exact bodyPost_ret (results_tmp2 rfl _ _ _) rfl ⟨rfl, hBk⟩
            · subst hz
              subst hj3
              have hG2 := HG'.out
              rw [(rank_back j (by omega)).1] at hG2
              simp only [] at hG2
              rw [if_pos hj1] at hG2
              have hor := or_add (13 * su + j) m (hlow.out _ (by omega))
              have h1p : (2 : Nat) ^ (13 * su + j) < 2 ^ 52 := Nat.pow_lt_pow_right (by decide) (by omega)
              have hm2 : m ||| 2 ^ (13 * su + j) < 4503599627370496 := Nat.or_lt_two_pow (n := 52) hm h1p
              have hlow2 : ∀ c, c < 13 * su + j → bt (m ||| 2 ^ (13 * su + j)) c = false := fun c hc => by
                rw [bt_or, hlow.out c (by omega)]
                simp
                omega
              rw [hor] at hm2 hlow2
              obtain ⟨x, hx⟩ : ∃ x, 13 * su + j = x := ⟨_, rfl⟩
              have hx52 : x < 52 := by omega
              have hxi : (13 : Int) * (su : Int) + (j : Int) = (x : Int) := by omega
              have hlow3 : Hid (∀ c, c < 13 * su + j → bt (m + 2 ^ (13 * su + j)) c = false) := Lib.hid hlow2
              rw [hx] at hG2 hm2
              have hlow4 := Lib.hid hlow3.out
              have hbit := bit_any x
              obtain ⟨P, hP⟩ : ∃ P, 2 ^ x = P := ⟨_, rfl⟩
              have hlow5 : Hid (∀ c, c < 13 * su + j → bt (m + P) c = false) := by rw [← hP, ← hx]; exact hlow3
              rw [hP] at hG2 hm2 hbit
              have HG2 := Lib.hid hG2
              have HB := Lib.hid hbit
              clear hG2 hlow2 hlow3 hlow4 hor h1p hP hbit hx hF HG'
              go_wp2_with (go_at_call 53; refine (HB.out _ hx52).mono ?_; rintro e w' ⟨rfl, rfl⟩)
              go_roundw
              case rel => exact ⟨m + P, su, j, i + 1, by go_num, rfl, rfl, by go_num, by omega, hsu, by omega, hm2, hlow5, HG2, hBk⟩
              case measure => simp [intOf]; omega
    · obtain rfl : i = s.size := by omega
      have hG' := hG.out
      rw [List.drop_of_length_le (by omega), rgo_nil] at hG'
      by_cases hsu0 : su = 0
      · subst hsu0
        have hv : R = some m := by rw [← hG']; rfl
        subst hv
        clear hG'
        go_wp2
        exact bodyPost_ret (results_tmp2 rfl _ _ _) rfl ⟨rfl, hB⟩
      · rw [if_neg hsu0] at hG'
        subst hG'
        go_wp2
        exact bodyPost_ret (results_tmp2 rfl _ _ _) rfl ⟨rfl, hB⟩

end Go.Proofs.Ytbjehiagaikhoaa
