/- finesseref08.ReadAll -/
import Derived.Test.YtbgiiijdabpbcaaDoorRefCT
import Derived.Test.YtbgiiijdabpbcaaDoorCallV
import Derived.Test.YtbgiiijdabpbcaaDoorCallY
namespace Go.Proofs.YtbgiiijdabpbcaaDoor
open Go.RowKit
set_option linter.unusedVariables false
set_option linter.unusedSimpArgs false
set_option maxRecDepth 100000
set_option maxHeartbeats 2000000

theorem byte_back' (b : UInt8) : (((b.toNat : Nat) : Int)).toNat.toUInt8 = b := by
  rw [Int.toNat_natCast]
  exact UInt8.toNat_inj.1 (by simp)

theorem refReadAll_any (s : ByteArray) (w : World) (hs : s.size ≤ 1400) :
    Calls Tryd.prog 34 #[.string s] w fun e w' => SomeRowE w.heap.size w w' (readL s.data.toList) (readE s.data.toList) e := by
  have hsz : s.data.toList.length = s.size := by rw [Array.length_toList]; rfl
  by_cases hse : s = ⟨#[]⟩
  · subst hse
    have h1 : readL (⟨#[]⟩ : ByteArray).data.toList = [] := rfl
    have h2 : readE (⟨#[]⟩ : ByteArray).data.toList = 0 := rfl
    rw [h1, h2]
    go_enter Tryd.func34, Tryd.ntmps34
    go_wp2
    refine bodyPost_ret (results_tmp2 rfl _ _ _) rfl ?_
    exact ⟨_, rfl, ⟨rfl, .inl ⟨rfl, rfl⟩⟩, Below.refl _ _⟩
  · have hsl : s.data.toList ≠ [] := fun e => hse (by apply ByteArray.ext; apply Array.toList_inj.1; rw [e])
    have hne : (s.toList == []) = false := by rw [beq_eq_false_iff_ne]; exact fun e => hsl ((Lib.toList_data s).symm.trans e)
    have hne2 : s.toList.isEmpty = false := by rw [← Bool.not_eq_true, List.isEmpty_iff]; exact fun e => hsl ((Lib.toList_data s).symm.trans e)
    obtain ⟨L, hL⟩ : ∃ L, readL s.data.toList = L := ⟨_, rfl⟩
    obtain ⟨E, hE⟩ : ∃ E, readE s.data.toList = E := ⟨_, rfl⟩
    rw [hL, hE]
    obtain ⟨R, hR⟩ : ∃ R, readAllN s.data.toList = R := ⟨_, rfl⟩
    have hL2 : L = R.getD [] := by rw [← hL]; unfold readL; rw [hR]
    have hE2 : E = if R.isSome = true then 0 else 81 := by rw [← hE]; unfold readE; rw [hR]
    rw [← more_start _ hsl] at hR
    have HR := Lib.hid hR
    have HLE := Lib.hid (And.intro hL2 hE2)
    obtain ⟨i0, hinf, hz0, hz1, hz2⟩ := info_parts info_u8
    clear hL hE hL2 hE2 hR hsl
    go_enter Tryd.func34, Tryd.ntmps34
    go_wp2_with fail
    go_loopw [4, 5, 6] (fun o wd i wr => ∃ (k : Nat) (out : List Nat) (word : List UInt8), i = .int .i64 k ∧ wd = vS word ∧ word.length ≤ k ∧ out.length ≤ 319 ∧ k ≤ s.size + 1 ∧ wr.ownsRow w.heap.size 5 1 o out.length (bys out) ∧ Below w.heap.size w wr ∧ Hid ((k ≤ s.size ∧ (32 : UInt8) ∉ word ∧ more out word (s.data.toList.drop k) = R) ∨ (k = s.size + 1 ∧ some out = R))) (fun _ _ i _ => s.size + 1 - (intOf i).toNat)
    case atStart => exact ⟨0, [], [], rfl, rfl, by simp, by simp, by omega, ⟨rfl, .inl ⟨rfl, rfl⟩⟩, Below.refl _ _, Lib.hid (Or.inl ⟨by omega, by simp, HR.out⟩)⟩
    case round =>
      obtain ⟨k, out, word, rfl, rfl, hwl, hol, hk, hown, hB, hG⟩ := hrel
      have hszr := hB.size
      by_cases hle : k ≤ s.size
      · have hG0 : (32 : UInt8) ∉ word ∧ more out word (s.data.toList.drop k) = R := by
          rcases hG.out with ⟨_, h⟩ | ⟨h, _⟩
          · exact h
          · omega
        have hnw := Lib.hid hG0.1
        have hG1 := hG0.2
        clear hG0 hG
        by_cases hA : ∃ h : k < s.size, s[k] ≠ 32
        · obtain ⟨hlt, hb32⟩ := hA
          have hg : s.data.toList.drop k = s[k] :: s.data.toList.drop (k + 1) := by
            rw [List.drop_eq_getElem_cons (by omega)]
            rfl
          obtain ⟨b, hb⟩ : ∃ b, s[k] = b := ⟨_, rfl⟩
          rw [hb] at hg hb32
          have hn32 : (((b.toNat : Nat) : Int) == 32) = false := by
            rw [beq_eq_false_iff_ne]
            intro e
            apply hb32
            have e2 : b.toNat = 32 := by omega
            exact UInt8.toNat_inj.1 e2
          have hbt := byte_back' b
          have hnw2 : (32 : UInt8) ∉ word ++ [b] := by
            intro hm
            rcases List.mem_append.1 hm with h | h
            · exact hnw.out h
            · exact hb32 (List.mem_singleton.1 h).symm
          rw [hg, more_byte] at hG1
          have HG := Lib.hid (And.intro hnw2 hG1)
          obtain ⟨S0, hS0⟩ : ∃ S0 : ByteArray, (⟨word.toArray⟩ : ByteArray) = S0 := ⟨_, rfl⟩
          have hS0z : S0.size ≤ 1400 := by
            have e : S0.size = word.length := by rw [← hS0]; simp [ByteArray.size]
            omega
          have hq : ¬ (9223372036854775807 < S0.size + 1) := by omega
          unfold vS
          rw [hS0]
          have HS0 := Lib.hid hS0
          have hcv := fun w g => one_str2 w g b
          have hib : (k : Int) < (s.size : Int) := by omega
          clear hG1 hnw2 hnw hg hb32 hS0
          go_wp2_with fail
          all_goals
            go_roundw
            case rel =>
              refine ⟨k + 1, out, word ++ [b], by go_num, ?_, by simp; omega, by omega, by omega, ?_, ?_, Lib.hid (Or.inl ⟨by omega, HG.out⟩)⟩
              · rw [← HS0.out, cat_one]
              · exact own_below hown ((Below.refl _ _).alloc (Nat.le_refl _) _)
              · exact hB.alloc hB.size _
            case measure => simp [intOf]; omega
        · have hBC : (∃ h : k < s.size, s[k] = 32) ∨ k = s.size := by
            rcases Nat.lt_or_ge k s.size with h | h
            · by_cases he : s[k] = 32
              · exact Or.inl ⟨h, he⟩
              · exact absurd ⟨h, he⟩ hA
            · exact Or.inr (by omega)
          clear hA
          have key : (readC word = none ∨ out.length = 319 → R = none) ∧ (∀ c, readC word = some c → out.length < 319 → ((k + 1 ≤ s.size ∧ (32 : UInt8) ∉ ([] : List UInt8) ∧ more (out ++ [c]) [] (s.data.toList.drop (k + 1)) = R) ∨ (k + 1 = s.size + 1 ∧ some (out ++ [c]) = R))) := by
            rcases hBC with ⟨hlt, hb⟩ | rfl
            · have hg : s.data.toList.drop k = s[k] :: s.data.toList.drop (k + 1) := by
                rw [List.drop_eq_getElem_cons (by omega)]
                rfl
              rw [hg, hb] at hG1
              refine ⟨fun h => ?_, fun c h hl => Or.inl ⟨by omega, by simp, ?_⟩⟩
              · rw [more_bad out word _ hnw.out h] at hG1
                exact hG1.symm
              · rw [more_word out word _ c hnw.out h] at hG1
                exact hG1
            · rw [List.drop_of_length_le (by omega)] at hG1
              refine ⟨fun h => ?_, fun c h hl => Or.inr ⟨by omega, ?_⟩⟩
              · rw [more_end_bad out word hnw.out h] at hG1
                exact hG1.symm
              · rw [more_end out word c hnw.out h hl] at hG1
                exact hG1
          have KEY := Lib.hid key
          obtain ⟨a', c', rfl⟩ := own_shape hown
          have HO := Lib.hid hown
          obtain ⟨S0, hS0⟩ : ∃ S0 : ByteArray, (⟨word.toArray⟩ : ByteArray) = S0 := ⟨_, rfl⟩
          have hS1 : S0.data.toList = word := by rw [← hS0]
          unfold vS
          rw [hS0]
          have HS1 := Lib.hid hS1
          obtain ⟨m, hm⟩ : ∃ m, out.length = m := ⟨_, rfl⟩
          rw [hm] at hol ⊢
          have HM := Lib.hid hm
          clear key hG1 hnw hown hS0 hS1 hm
          cases hrc : readC word with
          | none =>
            have hR := KEY.out.1 (Or.inl hrc)
            subst hR
            have HC := Lib.hid hrc
            clear hrc
            rcases hBC with ⟨hlt, hb⟩ | hks
            all_goals
              go_wp2_with (go_at_call 35; refine (refRead_any S0 _).mono ?_; rintro e w5 ⟨rfl, hb5⟩; rw [HS1.out, HC.out]; simp only [vRead])
              refine bodyPost_ret (results_tmp2 rfl _ _ _) rfl ?_
              obtain ⟨hL1, hE1⟩ := HLE.out
              rw [hL1, hE1]
              exact ⟨_, rfl, ⟨rfl, .inl ⟨rfl, rfl⟩⟩, hB.trans (hb5.mono hB.size)⟩
          | some x =>
            have hx38 := (readC_some hrc).1
            have HC := Lib.hid hrc
            by_cases h319 : m = 319
            · have hR := KEY.out.1 (Or.inr (HM.out.trans h319))
              subst hR
              have g1 : decide (m = 319) = true := by simpa using h319
              have g2 : decide ((m : Int) = 319) = true := by simp; omega
              have g3 : ((m : Int) == 319) = true := by rw [beq_iff_eq]; omega
              clear hrc h319
              rcases hBC with ⟨hlt, hb⟩ | hks
              all_goals
                go_wp2_with (go_at_call 35; refine (refRead_any S0 _).mono ?_; rintro e w5 ⟨rfl, hb5⟩; rw [HS1.out, HC.out]; simp only [vRead])
                refine bodyPost_ret (results_tmp2 rfl _ _ _) rfl ?_
                obtain ⟨hL1, hE1⟩ := HLE.out
                rw [hL1, hE1]
                exact ⟨_, rfl, ⟨rfl, .inl ⟨rfl, rfl⟩⟩, hB.trans (hb5.mono hB.size)⟩
            · have hnx := KEY.out.2 x hrc (by rw [HM.out]; omega)
              have g1 : decide (m = 319) = false := by simpa using h319
              have g2 : decide ((m : Int) = 319) = false := by simp; omega
              have g3 : ((m : Int) == 319) = false := by rw [beq_eq_false_iff_ne]; omega
              have hm319 : m < 319 := by omega
              have HNX := Lib.hid hnx
              clear hrc h319 hnx
              rcases hBC with ⟨hlt, hb⟩ | hks
              all_goals
                go_wp2_with (first
                  | (go_at_call 35; refine (refRead_any S0 _).mono ?_; rintro e w5 ⟨rfl, hb5⟩; rw [HS1.out, HC.out]; simp only [vRead])
                  | (at_builtin; refine stop_of ?_))
                unfold Stop
                have hown := HO.out
                rw [HM.out] at hown
                have hown5 := own_below (own_below hown hb5) ((Below.refl w5.heap.size w5).alloc (Nat.le_refl _) (.cells #[.int .u8 (x : Int)] 5))
                have hB5 : Below w.heap.size w (w5.alloc (.cells #[.int .u8 (x : Int)] 5)) := (hB.trans (hb5.mono hB.size)).alloc (hB.trans (hb5.mono hB.size)).size _
                have hnew : ∀ j u, (bys [x])[j]? = some u → (w5.alloc (.cells #[.int .u8 (x : Int)] 5)).cell? ((⟨w5.heap.size, 0, none⟩ : Addr).add j) = some u := by
                  intro j u hu
                  rw [addr_add, (Row.new w5 5 #[.int .u8 (x : Int)]).cell (0 + j), Nat.zero_add]
                  simpa [bys] using hu
                have hbs5 := hB5.size
                refine wpList_append_own _ rfl _ _ 24 rfl w.heap.size 5 i0 (.int .u8 0) 1 1 Tryd.underlying24 hinf hz0 hz1 hz2 rfl (by decide) _ m (bys out) rfl hown5 ⟨w5.heap.size, 0, none⟩ 1 1 (bys [x]) rfl (by simp) hnew (bys_one [x]) (by unfold maxLen; omega) (by omega) (by omega) ?_
                intro v' w8 hown1 hgrow _
                have hB8 := below_append hB5 hgrow hown5 (Nat.le_refl _) hbs5
                have HY := Lib.hid (And.intro hown1 (And.intro hB8 HNX.out))
                clear hown1 hgrow hown5 hB5 hnew hown
                go_wp2_with fail
                go_roundw
                case rel =>
                  refine ⟨k + 1, out ++ [x], [], by go_num, rfl, by simp, ?_, by omega, ?_, HY.out.2.1, Lib.hid HY.out.2.2⟩
                  · rw [List.length_append, HM.out]; simp; omega
                  · rw [bys_append, List.length_append, HM.out]
                    exact HY.out.1
                case measure => simp [intOf]; omega
      · have hG0 : k = s.size + 1 ∧ some out = R := by
          rcases hG.out with ⟨h, _⟩ | h
          · omega
          · exact h
        obtain ⟨hL1, hE1⟩ := HLE.out
        rw [← hG0.2] at hL1 hE1
        have HX := Lib.hid (And.intro hL1 (And.intro hE1 hown))
        obtain ⟨a', c', rfl⟩ := own_shape hown
        clear hG hG0 hL1 hE1 hown
        go_wp2_with fail
        refine bodyPost_ret (results_tmp2 rfl _ _ _) rfl ?_
        obtain ⟨hL1, hE1, hown⟩ := HX.out
        rw [hL1, hE1]
        exact ⟨_, rfl, hown, hB⟩

end Go.Proofs.YtbgiiijdabpbcaaDoor
