/- All numbers, suits and ranks about their limits, sets of each suit, masks and texts about their limits. A closed statement. -/
import Derived.Test.YtbjehiagaikhoaaProg
import Derived.Test.YtbjehiagaikhoaaCardTells
import Derived.Test.YtbjehiagaikhoaaCardK
import Derived.Deep.RegionWith
namespace Go.Proofs.Ytbjehiagaikhoaa
open Go.RowKit
set_option linter.unusedVariables false
set_option linter.unusedSimpArgs false
set_option maxRecDepth 100000
set_option maxHeartbeats 4000000

theorem str1 (w : World) (g c : Nat) (hc : c < 256) (h : w.cell? ⟨g, 0, none⟩ = some (.int .u8 (c : Int))) :
    (convert 37 9 (.slice (some ⟨g, 0, none⟩) 1 1)).run Try.prog w = .ok (.string ⟨#[UInt8.ofNat c]⟩) w := by
  have e : (UInt8.ofNat c).toNat = c := by rw [UInt8.toNat_ofNat']; omega
  exact one_str2 w g (UInt8.ofNat c) (by rw [e]; exact h)

theorem str4 (w : World) (g c : Nat) (hc : c < 256) (h0 : w.cell? ⟨g, 0, none⟩ = some (.int .u8 (c : Int))) (h1 : w.cell? ⟨g, 1, none⟩ = some (.int .u8 46)) (h2 : w.cell? ⟨g, 2, none⟩ = some (.int .u8 46)) (h3 : w.cell? ⟨g, 3, none⟩ = some (.int .u8 46)) :
    (convert 37 9 (.slice (some ⟨g, 0, none⟩) 4 4)).run Try.prog w = .ok (.string ⟨#[UInt8.ofNat c, 46, 46, 46]⟩) w := by
  have e : (UInt8.ofNat c).toNat = c := by rw [UInt8.toNat_ofNat']; omega
  refine run_convert_bytes_back (P := Try.prog) w 37 9 5 ⟨g, 0, none⟩ 4 [UInt8.ofNat c, 46, 46, 46] Try.underlying37 Try.underlying5 Try.underlying9 ?_
  intro j hj
  have hj4 : j = 0 ∨ j = 1 ∨ j = 2 ∨ j = 3 := by simp at hj; omega
  rw [addr_add, Nat.zero_add]
  rcases hj4 with rfl | rfl | rfl | rfl
  · rw [h0]; simp [e]
  · rw [h1]; rfl
  · rw [h2]; rfl
  · rw [h3]; rfl

theorem rd3 (w : World) (g a b c : Nat) (hg : g < w.heap.size) (h0 : w.cell? ⟨g, 0, none⟩ = some (.int .u8 (a : Int))) (h1 : w.cell? ⟨g, 1, none⟩ = some (.int .u8 (b : Int))) (h2 : w.cell? ⟨g, 2, none⟩ = some (.int .u8 (c : Int))) :
    Rd w.heap.size w 1 (.slice (some ⟨g, 0, none⟩) 3 3) 3 (bys [a, b, c]) := by
  refine ⟨rfl, .inr ⟨by omega, g, 0, 3, rfl, hg, Nat.le_refl _, Nat.le_refl _, by simp [maxLen], fun j hj => ?_⟩⟩
  have hj3 : j = 0 ∨ j = 1 ∨ j = 2 := by omega
  rcases hj3 with rfl | rfl | rfl
  · exact h0
  · exact h1
  · exact h2

theorem pow_wrap64 (e : Nat) (he : e < 64) : IntKind.u64.wrap (2 ^ e) = ((2 ^ e : Nat) : Int) ∧ 2 ^ e < 18446744073709551616 := by
  have h1 : (2 : Nat) ^ e < 2 ^ 64 := Nat.pow_lt_pow_right (by decide) he
  refine ⟨?_, h1⟩
  have h3 : ((2 : Int) ^ e) = ((2 ^ e : Nat) : Int) := by simp
  rw [h3]
  obtain ⟨z, hz⟩ : ∃ z : Nat, 2 ^ e = z := ⟨_, rfl⟩
  rw [hz] at h1 ⊢
  have h4 : z < 18446744073709551616 := h1
  rw [IntKind.wrap_u64, Int.emod_eq_of_lt (by omega) (by omega)]

abbrev strs16 : Array Value := #[.string ⟨#[]⟩, .string ⟨#[46]⟩, .string ⟨#[46, 46]⟩, .string ⟨#[46, 46, 46]⟩, .string ⟨#[46, 46, 46, 46]⟩, .string ⟨#[65, 46, 46, 46, 65]⟩, .string ⟨#[65, 65, 46, 46, 46]⟩, .string ⟨#[75, 65, 46, 46, 46]⟩, .string ⟨#[65, 46, 75, 46, 81, 46, 74]⟩, .string ⟨#[65, 75, 81, 74, 84, 57, 56, 55, 54, 53, 52, 51, 50, 46, 46, 46]⟩, .string ⟨#[65, 46, 46]⟩, .string ⟨#[49, 46, 46, 46]⟩, .string ⟨#[49, 48, 46, 46, 46]⟩, .string ⟨#[97, 46, 46, 46]⟩, .string ⟨#[65, 46, 32, 46, 46]⟩, .string ⟨#[46, 46, 46, 50]⟩]

theorem strs16_get (i : Nat) (h : i < 16) : ∃ S : ByteArray, strs16[i]? = some (.string S) ∧ S.size ≤ 100 := by
  have h16 : i = 0 ∨ i = 1 ∨ i = 2 ∨ i = 3 ∨ i = 4 ∨ i = 5 ∨ i = 6 ∨ i = 7 ∨ i = 8 ∨ i = 9 ∨ i = 10 ∨ i = 11 ∨ i = 12 ∨ i = 13 ∨ i = 14 ∨ i = 15 := by omega
  rcases h16 with rfl | rfl | rfl | rfl | rfl | rfl | rfl | rfl | rfl | rfl | rfl | rfl | rfl | rfl | rfl | rfl
  all_goals exact ⟨_, rfl, by decide⟩

theorem cat_front (l : List UInt8) (b : UInt8) : (⟨#[b]⟩ : ByteArray) ++ (⟨l.toArray⟩ : ByteArray) = ⟨(b :: l).toArray⟩ := by
  apply ByteArray.ext
  simp

theorem cut_front (T : List UInt8) : (⟨T.toArray⟩ : ByteArray).extract 1 T.length = ⟨(T.drop 1).toArray⟩ := by
  apply ByteArray.ext
  apply Array.toList_inj.1
  rw [Lib.extract_data]
  simp
  rw [List.take_of_length_le (by simp)]

theorem CardSmall_walk (w : World) : Calls Try.prog 9 #[] w fun e w' => e = .returned (.bool true) ∧ Below w.heap.size w w' := by
  obtain ⟨i0, hinf, hz0, hz1, hz2⟩ := info_parts info_u8
  go_enter Try.func9, Try.ntmps9
  go_wp2_with fail
  go_loopw [1] (fun c wr => ∃ c' : Nat, c = .int .i64 c' ∧ c' ≤ 256 ∧ Below w.heap.size w wr) (fun c _ => 256 - (intOf c).toNat)
  case atStart => exact ⟨0, rfl, by omega, Below.refl _ _⟩
  case round =>
    obtain ⟨c, rfl, hc, hB⟩ := hrel
    by_cases h256 : c < 256
    · have hcd : decide ((c : Int) < 256) = true := by simp; omega
      obtain ⟨W, rfl⟩ : ∃ W : World, W = wr := ⟨_, rfl⟩
      go_wp2_with fail
      go_loopw [15] (fun n wr => ∃ n' : Nat, n = .int .i64 n' ∧ n' ≤ 20 ∧ Below w.heap.size w wr) (fun n _ => 20 - (intOf n).toNat)
      case atStart => exact ⟨0, rfl, by omega, hB⟩
      case round =>
        clear hB
        obtain ⟨n, rfl, hn, hB⟩ := hrel
        by_cases h20 : n < 20
        · obtain ⟨q, hq⟩ : ∃ q, n % 6 = q := ⟨_, rfl⟩
          have hqi : (n : Int) % 6 = (q : Int) := by omega
          have hq6 : q < 6 := by omega
          obtain ⟨k, hk⟩ : ∃ k, n % 16 = k := ⟨_, rfl⟩
          have hki : (n : Int) % 16 = (k : Int) := by omega
          have hk16 : k < 16 := by omega
          have hk16' : (k : Int) < 16 := by omega
          have hcv : ∀ b : UInt8, (convert 37 9 (.slice (some ⟨wr.heap.size, 0, none⟩) 2 2)).run Try.prog (wr.alloc (.cells #[.int .u8 (b.toNat : Int), .int .u8 (c : Int)] 5)) = .ok (.string ⟨#[(b.toNat : Int).toNat.toUInt8, (c : Int).toNat.toUInt8]⟩) (wr.alloc (.cells #[.int .u8 (b.toNat : Int), .int .u8 (c : Int)] 5)) :=
            fun b => two_str wr b.toNat c ⟨by omega, by have := b.toNat_lt; omega⟩ ⟨by omega, by omega⟩
          clear hq hk
          go_wp2_with (go_at_call 14; refine (one_true c q c _ _ (by omega) (by omega) (by omega)).mono ?_; rintro e w8 ⟨rfl, hb9⟩)
          go_roundw
          case rel => exact ⟨n + 1, by go_num, by omega, (hB.alloc hB.size _).trans (hb9.mono (hB.alloc hB.size _).size)⟩
          case measure => simp [intOf]; omega
        · obtain rfl : n = 20 := by omega
          obtain ⟨P, hP⟩ : ∃ P, c % 64 = P := ⟨_, rfl⟩
          have hPi : (c : Int) % 64 = (P : Int) := by omega
          have hPt : (c : Int).tmod 64 = (P : Int) := by rw [Int.tmod_eq_emod_of_nonneg (by omega)]; omega
          have hP0 : (0 : Int) ≤ (P : Int) := by omega
          have hP64i : (P : Int) < 64 := by omega
          have hP64 : P < 64 := by omega
          obtain ⟨pw, pw64⟩ := pow_wrap64 P hP64
          obtain ⟨M, hM⟩ : ∃ M, 2 ^ P = M := ⟨_, rfl⟩
          rw [hM] at pw pw64
          clear hP hM
          have hw8 : IntKind.u8.wrap (c : Int) = (c : Int) := by rw [IntKind.wrap_u8]; omega
          have hcv1 := fun w g => str1 w g c h256
          have hcv4 := fun w g => str4 w g c h256
          go_wp2_with fail
          refine wp_region_any (by kernel_rfl) ?_
          refine wpAny_take (i := 0) (v := ?_) rfl (by kernel_rfl) (by kernel_rfl) (by kernel_rfl) (fun _ _ _ h => h) (Or.inl ⟨by kernel_rfl, ?_⟩) ?_
          rotate_left
          · intro w; go_simp; first | with_reducible rfl | (simp only [if_true]; with_reducible rfl)
          refine wpAny_take (i := 1) (v := ?_) rfl (by kernel_rfl) (by kernel_rfl) (by kernel_rfl) (fun _ _ _ h => h) (Or.inl ⟨by kernel_rfl, ?_⟩) ?_
          rotate_left
          · intro w; go_simp; first | with_reducible rfl | (simp only [if_true]; with_reducible rfl)
          refine wpAny_take (i := 2) (v := ?_) rfl (by kernel_rfl) (by kernel_rfl) (by kernel_rfl) (fun _ _ _ h => h) (Or.inl ⟨by kernel_rfl, ?_⟩) ?_
          rotate_left
          · intro w; go_simp; first | with_reducible rfl | (simp only [if_true]; with_reducible rfl)
          refine wpAny_take (i := 3) (v := ?_) rfl (by kernel_rfl) (by kernel_rfl) (by kernel_rfl) (fun _ _ _ h => h) (Or.inl ⟨by kernel_rfl, ?_⟩) ?_
          rotate_left
          · intro w; go_simp; first | with_reducible rfl | (simp only [if_true]; with_reducible rfl)
          refine wpAny_ready (rs := [4]) (by kernel_rfl) (by simp) ?_
          refine AllReady.cons rfl (fun K hK => ?_) AllReady.nil
          go_simp
          first | refine hK _ _ ?_ | (simp only [if_true]; refine hK _ _ ?_)
          clear hK K
          refine wpAny_ready (rs := [5]) (by kernel_rfl) (by simp) ?_
          refine AllReady.cons rfl (fun K hK => ?_) AllReady.nil
          go_simp
          first | refine hK _ _ ?_ | (simp only [if_true]; refine hK _ _ ?_)
          clear hK K
          refine wpAny_ready (rs := [6]) (by kernel_rfl) (by simp) ?_
          refine AllReady.cons rfl (fun K hK => ?_) AllReady.nil
          go_simp
          refine (one_true 0 c 3 _ _ (by omega) (by omega) (by omega)).mono ?_
          rintro e w8 ⟨rfl, hb8⟩
          refine hK _ _ ?_
          clear hK K
          have hB8 : Below w.heap.size w w8 := ((hB.alloc hB.size _).drew).trans (hb8.mono (hB.alloc hB.size _).size)
          clear hb8
          refine wpAny_take (i := 7) (v := ?_) rfl (by kernel_rfl) (by kernel_rfl) (by kernel_rfl) (fun _ _ _ h => h) (Or.inl ⟨by kernel_rfl, ?_⟩) ?_
          rotate_left
          · intro w; go_simp; first | with_reducible rfl | (simp only [if_true]; with_reducible rfl)
          refine wpAny_take (i := 8) (v := ?_) rfl (by kernel_rfl) (by kernel_rfl) (by kernel_rfl) (fun _ _ _ h => h) (Or.inl ⟨by kernel_rfl, ?_⟩) ?_
          rotate_left
          · intro w; go_simp; first | with_reducible rfl | (simp only [if_true]; with_reducible rfl)
          refine wpAny_take (i := 9) (v := ?_) rfl (by kernel_rfl) (by kernel_rfl) (by kernel_rfl) (fun _ _ _ h => h) (Or.inl ⟨by kernel_rfl, ?_⟩) ?_
          rotate_left
          · intro w; go_simp; first | with_reducible rfl | (simp only [if_true]; with_reducible rfl)
          refine wpAny_take (i := 10) (v := ?_) rfl (by kernel_rfl) (by kernel_rfl) (by kernel_rfl) (fun _ _ _ h => h) (Or.inl ⟨by kernel_rfl, ?_⟩) ?_
          rotate_left
          · intro w; go_simp; first | with_reducible rfl | (simp only [if_true]; with_reducible rfl)
          refine wpAny_take (i := 11) (v := ?_) rfl (by kernel_rfl) (by kernel_rfl) (by kernel_rfl) (fun _ _ _ h => h) (Or.inl ⟨by kernel_rfl, ?_⟩) ?_
          rotate_left
          · intro w; go_simp; first | with_reducible rfl | (simp only [if_true]; with_reducible rfl)
          refine wpAny_take (i := 12) (v := ?_) rfl (by kernel_rfl) (by kernel_rfl) (by kernel_rfl) (fun _ _ _ h => h) (Or.inl ⟨by kernel_rfl, ?_⟩) ?_
          rotate_left
          · intro w; go_simp; first | with_reducible rfl | (simp only [if_true]; with_reducible rfl)
          refine wpAny_take (i := 13) (v := ?_) rfl (by kernel_rfl) (by kernel_rfl) (by kernel_rfl) (fun _ _ _ h => h) (Or.inl ⟨by kernel_rfl, ?_⟩) ?_
          rotate_left
          · intro w; go_simp; first | with_reducible rfl | (simp only [if_true]; with_reducible rfl)
          refine wpAny_take (i := 14) (v := ?_) rfl (by kernel_rfl) (by kernel_rfl) (by kernel_rfl) (fun _ _ _ h => h) (Or.inl ⟨by kernel_rfl, ?_⟩) ?_
          rotate_left
          · intro w; go_simp; first | with_reducible rfl | (simp only [if_true]; with_reducible rfl)
          refine wpAny_take (i := 15) (v := ?_) rfl (by kernel_rfl) (by kernel_rfl) (by kernel_rfl) (fun _ _ _ h => h) (Or.inl ⟨by kernel_rfl, ?_⟩) ?_
          rotate_left
          · intro w; go_simp; first | with_reducible rfl | (simp only [if_true]; with_reducible rfl)
          refine wpAny_take (i := 17) (v := ?_) rfl (by kernel_rfl) (by kernel_rfl) (by kernel_rfl) (fun _ _ _ h => h) (Or.inl ⟨by kernel_rfl, ?_⟩) ?_
          rotate_left
          · intro w; go_simp; first | with_reducible rfl | (simp only [if_true]; with_reducible rfl)
          refine wpAny_take (i := 18) (v := ?_) rfl (by kernel_rfl) (by kernel_rfl) (by kernel_rfl) (fun _ _ _ h => h) (Or.inl ⟨by kernel_rfl, ?_⟩) ?_
          rotate_left
          · intro w; go_simp; first | with_reducible rfl | (simp only [if_true]; with_reducible rfl)
          refine wpAny_ready (rs := [16, 19]) (by kernel_rfl) (by simp) ?_
          refine AllReady.cons rfl (fun K hK => ?_) (AllReady.cons rfl (fun K hK => ?_) AllReady.nil)
          · go_simp
            refine hK _ _ ?_
            clear hK K
            refine wpAny_ready (rs := [19]) (by kernel_rfl) (by simp) ?_
            refine AllReady.cons rfl (fun K hK => ?_) AllReady.nil
            go_simp
            first | refine hK _ _ ?_ | (simp only [if_true]; refine hK _ _ ?_)
            clear hK K
            refine wpAny_ready (rs := [20]) (by kernel_rfl) (by simp) ?_
            refine AllReady.cons rfl (fun K hK => ?_) AllReady.nil
            go_simp
            first | refine hK _ _ ?_ | (simp only [if_true]; refine hK _ _ ?_)
            clear hK K
            refine wpAny_ready (rs := [21]) (by kernel_rfl) (by simp) ?_
            refine AllReady.cons rfl (fun K hK => ?_) AllReady.nil
            go_simp
            refine (sets_true M _ [c, 5, c] _ _ pw64 (rd3 _ _ c 5 c ?_ ?_ ?_ ?_) (by intro x hx; simp at hx; omega) (by simp) (by show 4 ≤ _; omega)).mono ?_
            · simp only [World.size_alloc]; omega
            · first | exact ((Row.new w8 _ _).alloc _).cell 0 | (have h7 := (Row.new (w8.alloc (.cells #[.int .u8 (c : Int), .int .u8 46, .int .u8 46, .int .u8 46] 5)) 5 #[.int .u8 (c : Int), .int .u8 5, .int .u8 (c : Int)]).cell 0; rw [World.size_alloc] at h7; exact h7)
            · first | exact ((Row.new w8 _ _).alloc _).cell 1 | (have h7 := (Row.new (w8.alloc (.cells #[.int .u8 (c : Int), .int .u8 46, .int .u8 46, .int .u8 46] 5)) 5 #[.int .u8 (c : Int), .int .u8 5, .int .u8 (c : Int)]).cell 1; rw [World.size_alloc] at h7; exact h7)
            · first | exact ((Row.new w8 _ _).alloc _).cell 2 | (have h7 := (Row.new (w8.alloc (.cells #[.int .u8 (c : Int), .int .u8 46, .int .u8 46, .int .u8 46] 5)) 5 #[.int .u8 (c : Int), .int .u8 5, .int .u8 (c : Int)]).cell 2; rw [World.size_alloc] at h7; exact h7)
            rintro e w9 ⟨rfl, hb9⟩
            refine hK _ _ ?_
            clear hK K
            refine wpAny_take (i := 22) (v := ?_) rfl (by kernel_rfl) (by kernel_rfl) (by kernel_rfl) (fun _ _ _ h => h) (Or.inl ⟨by kernel_rfl, ?_⟩) ?_
            rotate_left
            · intro w; go_simp; first | with_reducible rfl | (simp only [if_true]; with_reducible rfl)
            refine wpAny_take (i := 23) (v := ?_) rfl (by kernel_rfl) (by kernel_rfl) (by kernel_rfl) (fun _ _ _ h => h) (Or.inl ⟨by kernel_rfl, ?_⟩) ?_
            rotate_left
            · intro w; go_simp; first | with_reducible rfl | (simp only [if_true]; with_reducible rfl)
            refine wpAny_done (by kernel_rfl) ?_ _
            go_wp2_with fail
            go_roundw
            case rel => exact ⟨c + 1, by go_num, by omega, hB8.trans (((((Below.refl w8.heap.size w8).alloc (Nat.le_refl _) _).alloc (by simp only [World.size_alloc]; omega) _).trans (hb9.mono (by simp only [World.size_alloc]; omega))).mono hB8.size)⟩
            case measure => simp [intOf]; omega
          · go_simp
            refine hK _ _ ?_
            clear hK K
            refine wpAny_ready (rs := [16, 20]) (by kernel_rfl) (by simp) ?_
            refine AllReady.cons rfl (fun K hK => ?_) (AllReady.cons rfl (fun K hK => ?_) AllReady.nil)
            · go_simp
              refine hK _ _ ?_
              clear hK K
              refine wpAny_ready (rs := [20]) (by kernel_rfl) (by simp) ?_
              refine AllReady.cons rfl (fun K hK => ?_) AllReady.nil
              go_simp
              first | refine hK _ _ ?_ | (simp only [if_true]; refine hK _ _ ?_)
              clear hK K
              refine wpAny_ready (rs := [21]) (by kernel_rfl) (by simp) ?_
              refine AllReady.cons rfl (fun K hK => ?_) AllReady.nil
              go_simp
              refine (sets_true M _ [c, 5, c] _ _ pw64 (rd3 _ _ c 5 c ?_ ?_ ?_ ?_) (by intro x hx; simp at hx; omega) (by simp) (by show 4 ≤ _; omega)).mono ?_
              · simp only [World.size_alloc]; omega
              · first | exact ((Row.new w8 _ _).alloc _).cell 0 | (have h7 := (Row.new (w8.alloc (.cells #[.int .u8 (c : Int), .int .u8 46, .int .u8 46, .int .u8 46] 5)) 5 #[.int .u8 (c : Int), .int .u8 5, .int .u8 (c : Int)]).cell 0; rw [World.size_alloc] at h7; exact h7)
              · first | exact ((Row.new w8 _ _).alloc _).cell 1 | (have h7 := (Row.new (w8.alloc (.cells #[.int .u8 (c : Int), .int .u8 46, .int .u8 46, .int .u8 46] 5)) 5 #[.int .u8 (c : Int), .int .u8 5, .int .u8 (c : Int)]).cell 1; rw [World.size_alloc] at h7; exact h7)
              · first | exact ((Row.new w8 _ _).alloc _).cell 2 | (have h7 := (Row.new (w8.alloc (.cells #[.int .u8 (c : Int), .int .u8 46, .int .u8 46, .int .u8 46] 5)) 5 #[.int .u8 (c : Int), .int .u8 5, .int .u8 (c : Int)]).cell 2; rw [World.size_alloc] at h7; exact h7)
              rintro e w9 ⟨rfl, hb9⟩
              refine hK _ _ ?_
              clear hK K
              refine wpAny_take (i := 22) (v := ?_) rfl (by kernel_rfl) (by kernel_rfl) (by kernel_rfl) (fun _ _ _ h => h) (Or.inl ⟨by kernel_rfl, ?_⟩) ?_
              rotate_left
              · intro w; go_simp; first | with_reducible rfl | (simp only [if_true]; with_reducible rfl)
              refine wpAny_take (i := 23) (v := ?_) rfl (by kernel_rfl) (by kernel_rfl) (by kernel_rfl) (fun _ _ _ h => h) (Or.inl ⟨by kernel_rfl, ?_⟩) ?_
              rotate_left
              · intro w; go_simp; first | with_reducible rfl | (simp only [if_true]; with_reducible rfl)
              refine wpAny_done (by kernel_rfl) ?_ _
              go_wp2_with fail
              go_roundw
              case rel => exact ⟨c + 1, by go_num, by omega, hB8.trans (((((Below.refl w8.heap.size w8).alloc (Nat.le_refl _) _).alloc (by simp only [World.size_alloc]; omega) _).trans (hb9.mono (by simp only [World.size_alloc]; omega))).mono hB8.size)⟩
              case measure => simp [intOf]; omega
            · go_simp
              refine hK _ _ ?_
              clear hK K
              refine wpAny_ready (rs := [16]) (by kernel_rfl) (by simp) ?_
              refine AllReady.cons rfl (fun K hK => ?_) AllReady.nil
              go_simp
              first | refine hK _ _ ?_ | (simp only [if_true]; refine hK _ _ ?_)
              clear hK K
              refine wpAny_ready (rs := [21]) (by kernel_rfl) (by simp) ?_
              refine AllReady.cons rfl (fun K hK => ?_) AllReady.nil
              go_simp
              refine (sets_true M _ [c, 5, c] _ _ pw64 (rd3 _ _ c 5 c ?_ ?_ ?_ ?_) (by intro x hx; simp at hx; omega) (by simp) (by show 4 ≤ _; omega)).mono ?_
              · simp only [World.size_alloc]; omega
              · first | exact ((Row.new w8 _ _).alloc _).cell 0 | (have h7 := (Row.new (w8.alloc (.cells #[.int .u8 (c : Int), .int .u8 46, .int .u8 46, .int .u8 46] 5)) 5 #[.int .u8 (c : Int), .int .u8 5, .int .u8 (c : Int)]).cell 0; rw [World.size_alloc] at h7; exact h7)
              · first | exact ((Row.new w8 _ _).alloc _).cell 1 | (have h7 := (Row.new (w8.alloc (.cells #[.int .u8 (c : Int), .int .u8 46, .int .u8 46, .int .u8 46] 5)) 5 #[.int .u8 (c : Int), .int .u8 5, .int .u8 (c : Int)]).cell 1; rw [World.size_alloc] at h7; exact h7)
              · first | exact ((Row.new w8 _ _).alloc _).cell 2 | (have h7 := (Row.new (w8.alloc (.cells #[.int .u8 (c : Int), .int .u8 46, .int .u8 46, .int .u8 46] 5)) 5 #[.int .u8 (c : Int), .int .u8 5, .int .u8 (c : Int)]).cell 2; rw [World.size_alloc] at h7; exact h7)
              rintro e w9 ⟨rfl, hb9⟩
              refine hK _ _ ?_
              clear hK K
              refine wpAny_take (i := 22) (v := ?_) rfl (by kernel_rfl) (by kernel_rfl) (by kernel_rfl) (fun _ _ _ h => h) (Or.inl ⟨by kernel_rfl, ?_⟩) ?_
              rotate_left
              · intro w; go_simp; first | with_reducible rfl | (simp only [if_true]; with_reducible rfl)
              refine wpAny_take (i := 23) (v := ?_) rfl (by kernel_rfl) (by kernel_rfl) (by kernel_rfl) (fun _ _ _ h => h) (Or.inl ⟨by kernel_rfl, ?_⟩) ?_
              rotate_left
              · intro w; go_simp; first | with_reducible rfl | (simp only [if_true]; with_reducible rfl)
              refine wpAny_done (by kernel_rfl) ?_ _
              go_wp2_with fail
              go_roundw
              case rel => exact ⟨c + 1, by go_num, by omega, hB8.trans (((((Below.refl w8.heap.size w8).alloc (Nat.le_refl _) _).alloc (by simp only [World.size_alloc]; omega) _).trans (hb9.mono (by simp only [World.size_alloc]; omega))).mono hB8.size)⟩
              case measure => simp [intOf]; omega
    · have hcd : decide ((c : Int) < 256) = false := by simp; omega
      go_wp2_with fail
      go_loopw [3] (fun n wr => ∃ n' : Nat, n = .int .i64 n' ∧ n' ≤ 8198 ∧ Below w.heap.size w wr) (fun n _ => 8200 - (intOf n).toNat)
      case atStart => exact ⟨0, rfl, by omega, hB⟩
      case round =>
        clear hB
        obtain ⟨n, rfl, hn, hB⟩ := hrel
        by_cases h8 : n < 8192
        · obtain ⟨Q, hQ⟩ : ∃ Q, n % 4 = Q := ⟨_, rfl⟩
          have hQi : (n : Int) % 4 = (Q : Int) := by omega
          have hQ4 : Q < 4 := by omega
          obtain ⟨M, hM⟩ : ∃ M, n * 2 ^ (13 * Q) = M := ⟨_, rfl⟩
          have hM52 : M < 4503599627370496 := by
            rw [← hM]
            have h4 : Q = 0 ∨ Q = 1 ∨ Q = 2 ∨ Q = 3 := by omega
            rcases h4 with rfl | rfl | rfl | rfl <;> simp <;> omega
          have hsh : IntKind.u64.wrap ((n : Int) * 2 ^ (13 * Q)) = (M : Int) := by
            have h3 : ((n : Int) * 2 ^ (13 * Q)) = (M : Int) := by rw [← hM]; simp
            rw [h3, IntKind.wrap_u64, Int.emod_eq_of_lt (by omega) (by omega)]
          clear hQ hM
          have hM64 : M < 18446744073709551616 := by omega
          obtain ⟨T, hT⟩ : ∃ T, wtext M = T := ⟨_, rfl⟩
          obtain ⟨L, hL⟩ : ∃ L, downs M 52 = L := ⟨_, rfl⟩
          have hL52 : L.length ≤ 52 := by rw [← hL]; exact downs_len M 52
          have hTl : 3 ≤ T.length ∧ T.length ≤ 55 := by have h7 := wtext_len M; rw [hT, hL] at h7; omega
          obtain ⟨hTl1, hTl2⟩ := hTl
          have hLlt : ∀ c ∈ L, c < 52 := by rw [← hL]; exact downs_lt M 52
          have hL256 : ∀ c ∈ L, c < 256 := fun c hc => by have := hLlt c hc; omega
          have hLx : ∀ x, x < 256 → ∀ c ∈ L ++ [x], c < 256 := fun x hx c hc => by
            rw [List.mem_append] at hc
            rcases hc with hc | hc
            · exact hL256 c hc
            · simp at hc; omega
          obtain ⟨X, hX⟩ : ∃ X, M ||| 4503599627370496 = X := ⟨_, rfl⟩
          have hX64 : X < 18446744073709551616 := by
            rw [← hX]
            exact Nat.or_lt_two_pow (n := 64) hM64 (by decide)
          have hor : bits BinOp.or IntKind.u64 (M : Int) 4503599627370496 = (X : Int) := by
            rw [← hX]
            exact u64_or_nat M 4503599627370496 hM64 (by decide)
          have sz : ∀ S : List UInt8, S.length ≤ 60 → (⟨S.toArray⟩ : ByteArray).size ≤ 9223372036854775807 := fun S h => by
            show S.toArray.size ≤ _
            rw [List.size_toArray]
            omega
          have hL100 : ∀ x : Nat, (L ++ [x]).length ≤ 100 := fun x => by rw [List.length_append]; simp; omega
          have HL1 := Lib.hid hL100
          clear hL100
          have HH := Lib.hid (And.intro hT (And.intro hL (And.intro hL256 (And.intro hLx sz))))
          have HS60 := Lib.hid sz
          clear hT hL hL256 hLx sz hLlt hX
          have tok1 : True := trivial
          have hq1 : ¬ (9223372036854775807 < T.length + 1) := by omega
          have hq2 : ¬ (9223372036854775807 < 1 + T.length) := by omega
          have hTi : (3 : Int) ≤ (T.length : Int) := by omega
          by_cases h5 : n % 5 = 0
          · have h5b : ((n : Int) % 5 == 0) = true := by simp; omega
            have h5t : ((n : Int).tmod 5 == 0) = true := by rw [Int.tmod_eq_emod_of_nonneg (by omega)]; exact h5b
            by_cases h3 : (3 : Int) < (T.length : Int)
            · have h3d : decide ((3 : Int) < (T.length : Int)) = true := by simpa using h3
              go_wp2_with (first
                | (go_at_call 27; refine (RWrite_yes M _ hM52).mono ?_; rintro e w2 ⟨rfl, hb2⟩; rw [HH.out.1]; replace hB := hB.trans (hb2.mono hB.size); clear hb2; have hw2s := hB.size)
                | (go_at_call 28; refine (RList_yes M _ hM52).mono ?_; rintro e w3 ⟨v3, rfl, hown3, hb3⟩; rw [HH.out.2.1] at hown3; obtain ⟨a3, c3, rfl⟩ := own_shape hown3; replace hB := hB.trans (hb3.mono hB.size); have hb23 := hb3.size; have HO3 := Lib.hid hown3; clear hown3)
                | (go_at_call 24; have _t := tok1; clear tok1; refine (sets_true M _ L ⟨T.toArray⟩ _ hM64 (Rd.of_own HO3.out) HH.out.2.2.1 (by omega) (HH.out.2.2.2.2 T (by omega))).mono ?_; rintro e w4 ⟨rfl, hb4⟩; replace hB := hB.trans (hb4.mono hB.size); have hb34 := hb4.size; have HO4 := Lib.hid (own_below HO3.out hb4))
                | (at_builtin; refine stop_of ?_))
              have hw2 : w.heap.size ≤ w2.heap.size := hw2s
              have hsz : w2.heap.size ≤ w4.heap.size := Nat.le_trans hb23 hb34
              have hown5 := own_below HO4.out ((Below.refl _ _).alloc (Nat.le_refl _) (.cells #[.int .u8 51] 5))
              have hnew5 : ∀ j u, (bys [51])[j]? = some u → (w4.alloc (.cells #[.int .u8 51] 5)).cell? ((⟨w4.heap.size, 0, none⟩ : Addr).add j) = some u := by
                intro j u hu
                rw [addr_add, (Row.new w4 5 #[.int .u8 51]).cell (0 + j), Nat.zero_add]
                simpa [bys] using hu
              have hbb5 : Below w.heap.size w (w4.alloc (.cells #[.int .u8 51] 5)) := hB.alloc hB.size _
              have hbs5 : w2.heap.size ≤ (w4.alloc (.cells #[.int .u8 51] 5)).heap.size := by have := hsz; simp only [World.size_alloc]; omega
              unfold Stop
              refine wpList_append_keep (by first | rfl | simp [Region.wanted] | simp [Region.wanted, yielded]) _ _ 37 (by rfl) w2.heap.size 5 i0 (.int .u8 0) 1 1 Try.underlying37 hinf hz0 hz1 hz2 rfl (by decide) (.slice a3 L.length c3) L.length (bys L) (by rfl) hown5 ⟨w4.heap.size, 0, none⟩ 1 1 (bys [51]) (by rfl) (by simp) hnew5 (bys_one _) (by unfold maxLen; omega) (by omega) hbs5 ?_
              intro v5 x5 hn5 ho5 hg5
              have hBx5 := below_append hbb5 hg5 hown5 hw2 hbb5.size
              rw [← bys_append] at hn5
              obtain ⟨a5, c5, rfl⟩ := own_shape hn5
              have hrd5 : Rd x5.heap.size x5 1 (.slice a5 (L.length + 1) c5) (L ++ [51]).length (bys (L ++ [51])) := by
                have h7 := Rd.of_own hn5
                rw [List.length_append]
                exact h7
              have hsx5 : w2.heap.size ≤ x5.heap.size := Nat.le_trans hbs5 hg5.size
              have hcs5 := sets_true X (.slice a5 (L.length + 1) c5) (L ++ [51]) ((⟨T.toArray⟩ : ByteArray) ++ ⟨#[46]⟩) x5 hX64 hrd5 (HH.out.2.2.2.1 51 (by decide)) (HL1.out 51) (by rw [cat_one]; exact HS60.out (T ++ [46]) (by simp; omega))
              have HX5 := Lib.hid (And.intro ho5 hcs5)
              clear hn5 ho5 hg5 hrd5 hown5 hnew5 hbb5 hbs5 hsz hB hcs5
              have hB := hBx5
              have hsz := hsx5
              clear hBx5 hsx5
              go_wp2_with (go_at_call 24; refine stop_of ?_)
              unfold Stop
              refine HX5.out.2.mono ?_
              rintro e y5 ⟨rfl, hy5⟩
              replace hB := hB.trans (hy5.mono hB.size)
              have HO5 := Lib.hid (own_below HX5.out.1 hy5)
              replace hsz := Nat.le_trans hsz hy5.size
              clear hy5
              go_wp2_with (at_builtin; refine stop_of ?_)
              have hown6 := own_below HO5.out ((Below.refl _ _).alloc (Nat.le_refl _) (.cells #[.int .u8 52] 5))
              have hnew6 : ∀ j u, (bys [52])[j]? = some u → (y5.alloc (.cells #[.int .u8 52] 5)).cell? ((⟨y5.heap.size, 0, none⟩ : Addr).add j) = some u := by
                intro j u hu
                rw [addr_add, (Row.new y5 5 #[.int .u8 52]).cell (0 + j), Nat.zero_add]
                simpa [bys] using hu
              have hbb6 : Below w.heap.size w (y5.alloc (.cells #[.int .u8 52] 5)) := hB.alloc hB.size _
              have hbs6 : w2.heap.size ≤ (y5.alloc (.cells #[.int .u8 52] 5)).heap.size := by have := hsz; simp only [World.size_alloc]; omega
              unfold Stop
              refine wpList_append_keep (by first | rfl | simp [Region.wanted] | simp [Region.wanted, yielded]) _ _ 37 (by rfl) w2.heap.size 5 i0 (.int .u8 0) 1 1 Try.underlying37 hinf hz0 hz1 hz2 rfl (by decide) (.slice a3 L.length c3) L.length (bys L) (by rfl) hown6 ⟨y5.heap.size, 0, none⟩ 1 1 (bys [52]) (by rfl) (by simp) hnew6 (bys_one _) (by unfold maxLen; omega) (by omega) hbs6 ?_
              intro v6 x6 hn6 ho6 hg6
              have hBx6 := below_append hbb6 hg6 hown6 hw2 hbb6.size
              rw [← bys_append] at hn6
              obtain ⟨a6, c6, rfl⟩ := own_shape hn6
              have hrd6 : Rd x6.heap.size x6 1 (.slice a6 (L.length + 1) c6) (L ++ [52]).length (bys (L ++ [52])) := by
                have h7 := Rd.of_own hn6
                rw [List.length_append]
                exact h7
              have hsx6 : w2.heap.size ≤ x6.heap.size := Nat.le_trans hbs6 hg6.size
              have hcs6 := sets_true M (.slice a6 (L.length + 1) c6) (L ++ [52]) ((⟨#[46]⟩ : ByteArray) ++ ⟨T.toArray⟩) x6 hM64 hrd6 (HH.out.2.2.2.1 52 (by decide)) (HL1.out 52) (by rw [cat_front]; exact HS60.out (46 :: T) (by simp; omega))
              have HX6 := Lib.hid (And.intro ho6 hcs6)
              clear hn6 ho6 hg6 hrd6 hown6 hnew6 hbb6 hbs6 hsz hB hcs6
              have hB := hBx6
              have hsz := hsx6
              clear hBx6 hsx6
              go_wp2_with (go_at_call 24; refine stop_of ?_)
              unfold Stop
              refine HX6.out.2.mono ?_
              rintro e y6 ⟨rfl, hy6⟩
              replace hB := hB.trans (hy6.mono hB.size)
              have HO6 := Lib.hid (own_below HX6.out.1 hy6)
              replace hsz := Nat.le_trans hsz hy6.size
              clear hy6
              have hcs7 := sets_true M (.slice none 0 0) [] ((⟨T.toArray⟩ : ByteArray).extract 1 T.length) y6 hM64 ⟨rfl, .inl ⟨rfl, none, 0, rfl, fun _ => rfl⟩⟩ (by intro x hx; cases hx) (by decide) (by rw [cut_front]; exact HS60.out (T.drop 1) (by simp; omega))
              have HX7 := Lib.hid hcs7
              clear hcs7
              go_wp2_with (go_at_call 24; refine stop_of ?_)
              unfold Stop
              refine HX7.out.mono ?_
              rintro e y7 ⟨rfl, hy7⟩
              replace hB := hB.trans (hy7.mono hB.size)
              go_wp2_with fail
              go_roundw
              case rel => exact ⟨n + 7, by go_num, by omega, hB⟩
              case measure => simp [intOf]; omega
            · have h3d : decide ((3 : Int) < (T.length : Int)) = false := by simpa using h3
              go_wp2_with (first
                | (go_at_call 27; refine (RWrite_yes M _ hM52).mono ?_; rintro e w2 ⟨rfl, hb2⟩; rw [HH.out.1]; replace hB := hB.trans (hb2.mono hB.size); clear hb2; have hw2s := hB.size)
                | (go_at_call 28; refine (RList_yes M _ hM52).mono ?_; rintro e w3 ⟨v3, rfl, hown3, hb3⟩; rw [HH.out.2.1] at hown3; obtain ⟨a3, c3, rfl⟩ := own_shape hown3; replace hB := hB.trans (hb3.mono hB.size); have hb23 := hb3.size; have HO3 := Lib.hid hown3; clear hown3)
                | (go_at_call 24; have _t := tok1; clear tok1; refine (sets_true M _ L ⟨T.toArray⟩ _ hM64 (Rd.of_own HO3.out) HH.out.2.2.1 (by omega) (HH.out.2.2.2.2 T (by omega))).mono ?_; rintro e w4 ⟨rfl, hb4⟩; replace hB := hB.trans (hb4.mono hB.size); have hb34 := hb4.size; have HO4 := Lib.hid (own_below HO3.out hb4))
                | (at_builtin; refine stop_of ?_))
              have hw2 : w.heap.size ≤ w2.heap.size := hw2s
              have hsz : w2.heap.size ≤ w4.heap.size := Nat.le_trans hb23 hb34
              have hown5 := own_below HO4.out ((Below.refl _ _).alloc (Nat.le_refl _) (.cells #[.int .u8 51] 5))
              have hnew5 : ∀ j u, (bys [51])[j]? = some u → (w4.alloc (.cells #[.int .u8 51] 5)).cell? ((⟨w4.heap.size, 0, none⟩ : Addr).add j) = some u := by
                intro j u hu
                rw [addr_add, (Row.new w4 5 #[.int .u8 51]).cell (0 + j), Nat.zero_add]
                simpa [bys] using hu
              have hbb5 : Below w.heap.size w (w4.alloc (.cells #[.int .u8 51] 5)) := hB.alloc hB.size _
              have hbs5 : w2.heap.size ≤ (w4.alloc (.cells #[.int .u8 51] 5)).heap.size := by have := hsz; simp only [World.size_alloc]; omega
              unfold Stop
              refine wpList_append_keep (by first | rfl | simp [Region.wanted] | simp [Region.wanted, yielded]) _ _ 37 (by rfl) w2.heap.size 5 i0 (.int .u8 0) 1 1 Try.underlying37 hinf hz0 hz1 hz2 rfl (by decide) (.slice a3 L.length c3) L.length (bys L) (by rfl) hown5 ⟨w4.heap.size, 0, none⟩ 1 1 (bys [51]) (by rfl) (by simp) hnew5 (bys_one _) (by unfold maxLen; omega) (by omega) hbs5 ?_
              intro v5 x5 hn5 ho5 hg5
              have hBx5 := below_append hbb5 hg5 hown5 hw2 hbb5.size
              rw [← bys_append] at hn5
              obtain ⟨a5, c5, rfl⟩ := own_shape hn5
              have hrd5 : Rd x5.heap.size x5 1 (.slice a5 (L.length + 1) c5) (L ++ [51]).length (bys (L ++ [51])) := by
                have h7 := Rd.of_own hn5
                rw [List.length_append]
                exact h7
              have hsx5 : w2.heap.size ≤ x5.heap.size := Nat.le_trans hbs5 hg5.size
              have hcs5 := sets_true X (.slice a5 (L.length + 1) c5) (L ++ [51]) ((⟨T.toArray⟩ : ByteArray) ++ ⟨#[46]⟩) x5 hX64 hrd5 (HH.out.2.2.2.1 51 (by decide)) (HL1.out 51) (by rw [cat_one]; exact HS60.out (T ++ [46]) (by simp; omega))
              have HX5 := Lib.hid (And.intro ho5 hcs5)
              clear hn5 ho5 hg5 hrd5 hown5 hnew5 hbb5 hbs5 hsz hB hcs5
              have hB := hBx5
              have hsz := hsx5
              clear hBx5 hsx5
              go_wp2_with (go_at_call 24; refine stop_of ?_)
              unfold Stop
              refine HX5.out.2.mono ?_
              rintro e y5 ⟨rfl, hy5⟩
              replace hB := hB.trans (hy5.mono hB.size)
              have HO5 := Lib.hid (own_below HX5.out.1 hy5)
              replace hsz := Nat.le_trans hsz hy5.size
              clear hy5
              go_wp2_with (at_builtin; refine stop_of ?_)
              have hown6 := own_below HO5.out ((Below.refl _ _).alloc (Nat.le_refl _) (.cells #[.int .u8 52] 5))
              have hnew6 : ∀ j u, (bys [52])[j]? = some u → (y5.alloc (.cells #[.int .u8 52] 5)).cell? ((⟨y5.heap.size, 0, none⟩ : Addr).add j) = some u := by
                intro j u hu
                rw [addr_add, (Row.new y5 5 #[.int .u8 52]).cell (0 + j), Nat.zero_add]
                simpa [bys] using hu
              have hbb6 : Below w.heap.size w (y5.alloc (.cells #[.int .u8 52] 5)) := hB.alloc hB.size _
              have hbs6 : w2.heap.size ≤ (y5.alloc (.cells #[.int .u8 52] 5)).heap.size := by have := hsz; simp only [World.size_alloc]; omega
              unfold Stop
              refine wpList_append_keep (by first | rfl | simp [Region.wanted] | simp [Region.wanted, yielded]) _ _ 37 (by rfl) w2.heap.size 5 i0 (.int .u8 0) 1 1 Try.underlying37 hinf hz0 hz1 hz2 rfl (by decide) (.slice a3 L.length c3) L.length (bys L) (by rfl) hown6 ⟨y5.heap.size, 0, none⟩ 1 1 (bys [52]) (by rfl) (by simp) hnew6 (bys_one _) (by unfold maxLen; omega) (by omega) hbs6 ?_
              intro v6 x6 hn6 ho6 hg6
              have hBx6 := below_append hbb6 hg6 hown6 hw2 hbb6.size
              rw [← bys_append] at hn6
              obtain ⟨a6, c6, rfl⟩ := own_shape hn6
              have hrd6 : Rd x6.heap.size x6 1 (.slice a6 (L.length + 1) c6) (L ++ [52]).length (bys (L ++ [52])) := by
                have h7 := Rd.of_own hn6
                rw [List.length_append]
                exact h7
              have hsx6 : w2.heap.size ≤ x6.heap.size := Nat.le_trans hbs6 hg6.size
              have hcs6 := sets_true M (.slice a6 (L.length + 1) c6) (L ++ [52]) ((⟨#[46]⟩ : ByteArray) ++ ⟨T.toArray⟩) x6 hM64 hrd6 (HH.out.2.2.2.1 52 (by decide)) (HL1.out 52) (by rw [cat_front]; exact HS60.out (46 :: T) (by simp; omega))
              have HX6 := Lib.hid (And.intro ho6 hcs6)
              clear hn6 ho6 hg6 hrd6 hown6 hnew6 hbb6 hbs6 hsz hB hcs6
              have hB := hBx6
              have hsz := hsx6
              clear hBx6 hsx6
              go_wp2_with (go_at_call 24; refine stop_of ?_)
              unfold Stop
              refine HX6.out.2.mono ?_
              rintro e y6 ⟨rfl, hy6⟩
              replace hB := hB.trans (hy6.mono hB.size)
              have HO6 := Lib.hid (own_below HX6.out.1 hy6)
              replace hsz := Nat.le_trans hsz hy6.size
              clear hy6
              go_wp2_with fail
              go_roundw
              case rel => exact ⟨n + 7, by go_num, by omega, hB⟩
              case measure => simp [intOf]; omega
          · have h5b : ((n : Int) % 5 == 0) = false := by simp; omega
            have h5t : ((n : Int).tmod 5 == 0) = false := by rw [Int.tmod_eq_emod_of_nonneg (by omega)]; exact h5b
            go_wp2_with (first
              | (go_at_call 27; refine (RWrite_yes M _ hM52).mono ?_; rintro e w2 ⟨rfl, hb2⟩; rw [HH.out.1]; replace hB := hB.trans (hb2.mono hB.size); clear hb2)
              | (go_at_call 28; refine (RList_yes M _ hM52).mono ?_; rintro e w3 ⟨v3, rfl, hown3, hb3⟩; rw [HH.out.2.1] at hown3; obtain ⟨a3, c3, rfl⟩ := own_shape hown3; replace hB := hB.trans (hb3.mono hB.size); have HO3 := Lib.hid hown3; clear hown3)
              | (go_at_call 24; refine (sets_true M _ L ⟨T.toArray⟩ _ hM64 (Rd.of_own HO3.out) HH.out.2.2.1 (by omega) (HH.out.2.2.2.2 T (by omega))).mono ?_; rintro e w4 ⟨rfl, hb4⟩; replace hB := hB.trans (hb4.mono hB.size)))
            go_roundw
            case rel => exact ⟨n + 7, by go_num, by omega, hB⟩
            case measure => simp [intOf]; omega
        · obtain ⟨W9, rfl⟩ : ∃ W9 : World, W9 = wr := ⟨_, rfl⟩
          have h8n : ¬ ((n : Int) < 8192) := by omega
          go_wp2_with fail
          obtain ⟨W0, hW0⟩ : ∃ W0, W9.alloc (.cells strs16 9) = W0 := ⟨_, rfl⟩
          have hr0 : Row W0 W9.heap.size 9 strs16 := by rw [← hW0]; exact Row.new _ _ _
          have hB0 : Below w.heap.size w W0 := by rw [← hW0]; exact hB.alloc hB.size _
          change Code.wp _ _ _ _ (W9.alloc (.cells strs16 9))
          rw [hW0]
          clear hW0
          go_loopw [124] (fun i wr' => ∃ i' : Nat, i = .int .i64 i' ∧ i' ≤ 16 ∧ Row wr' W9.heap.size 9 strs16 ∧ Below w.heap.size w wr') (fun i _ => 16 - (intOf i).toNat)
          case atStart => exact ⟨0, rfl, by omega, hr0, hB0⟩
          case round =>
            obtain ⟨i, rfl, hi, hr, hB1⟩ := hrel
            by_cases h16 : i < 16
            · obtain ⟨S, hS, hS5⟩ := strs16_get i h16
              have hc0 : wr.cell? ⟨W9.heap.size, i, none⟩ = some (.string S) := by rw [hr.cell, hS]
              have hcs := sets_true 0 (.slice none 0 0) [] S wr (by decide) ⟨rfl, .inl ⟨rfl, none, 0, rfl, fun _ => rfl⟩⟩ (by intro x hx; cases hx) (by decide) (by omega)
              have HS := Lib.hid hcs
              have HR := Lib.hid hr
              clear hcs hr hS
              go_wp2_with (go_at_call 24; refine HS.out.mono ?_; rintro e y7 ⟨rfl, hy7⟩)
              go_roundw
              case rel => exact ⟨i + 1, by go_num, by omega, HR.out.below hy7 HR.out.lt, hB1.trans (hy7.mono hB1.size)⟩
              case measure => simp [intOf]; omega
            · have tok1 : True := trivial
              have tok2 : True := trivial
              clear hr
              have hcs := fun (m : Nat) (W : World) (hm : m < 18446744073709551616) => sets_true m (.slice none 0 0) [] ⟨#[]⟩ W hm ⟨rfl, .inl ⟨rfl, none, 0, rfl, fun _ => rfl⟩⟩ (by intro x hx; cases hx) (by decide) (by decide)
              have HS := Lib.hid hcs
              clear hcs
              go_wp2_with (first
                | (go_at_call 24; have _t := tok1; clear tok1; refine (HS.out 4503599627370495 _ (by decide)).mono ?_; rintro e y7 ⟨rfl, hy7⟩; replace hB1 := hB1.trans (hy7.mono hB1.size); clear hy7)
                | (go_at_call 24; have _t := tok2; clear tok2; refine (HS.out 4503599627370496 _ (by decide)).mono ?_; rintro e y8 ⟨rfl, hy7⟩; replace hB1 := hB1.trans (hy7.mono hB1.size); clear hy7)
                | (go_at_call 24; refine (HS.out 18446744073709551615 _ (by decide)).mono ?_; rintro e y9 ⟨rfl, hy7⟩; replace hB1 := hB1.trans (hy7.mono hB1.size); clear hy7)
                | (go_at_call 13; refine (awake_true _).mono ?_; rintro e w9 ⟨rfl, hb9⟩; replace hB1 := hB1.trans (hb9.mono hB1.size); clear hb9))
              go_ret
              exact ⟨rfl, hB1⟩

end Go.Proofs.Ytbjehiagaikhoaa
