/- texts: the strings of calls are as the reference says -/
import Derived.Test.YtbgiiijdabpbcaaDoorRefCU
import Derived.Test.YtbgiiijdabpbcaaDoorKitD
import Derived.Test.YtbgiiijdabpbcaaDoorKitE
import Derived.Test.YtbgiiijdabpbcaaDoorCallAwake
namespace Go.Proofs.YtbgiiijdabpbcaaDoor
open Go.RowKit
set_option linter.unusedVariables false
set_option linter.unusedSimpArgs false
set_option maxRecDepth 100000
set_option maxHeartbeats 4000000

theorem textAll_gen (l : List Nat) : ∃ (T : ByteArray) (E : Nat), vTextAll l = .tuple #[.string T, .int .i64 (E : Int)] := by
  unfold vTextAll
  split
  · exact ⟨_, 5, rfl⟩
  · split
    · exact ⟨_, 0, rfl⟩
    · exact ⟨_, 80, rfl⟩

theorem read_gen (r : Option Nat) : ∃ C E : Nat, vRead r = .tuple #[.int .u8 (C : Int), .int .i64 (E : Int)] := by
  cases r with
  | none => exact ⟨0, 81, rfl⟩
  | some c => exact ⟨c, 0, rfl⟩

theorem readL_len (s : List UInt8) : (readL s).length ≤ 319 := by
  unfold readL
  cases hr : readAllN s with
  | none => simp
  | some l => obtain ⟨_, _, h⟩ := readAll_some hr; exact h

theorem texts_yes (v : Value) (l : List Nat) (s : ByteArray) (w : World) (hrd : Rd w.heap.size w 1 v l.length (bys l)) (hl : ∀ c ∈ l, c < 256) (hll : l.length ≤ 1000) (hs : s.size ≤ 1400) (hden : Den w) (hsh : w.ShapedOpen Tryd.prog) :
    Calls Tryd.prog 12 #[v, .string s] w fun e w' => e = .returned (.bool true) ∧ Below w.heap.size w w' := by
  obtain ⟨T, E1, hv1⟩ := textAll_gen l
  obtain ⟨C, E3, hv3⟩ := read_gen (readC s.data.toList)
  obtain ⟨L, hL⟩ : ∃ L, readL s.data.toList = L := ⟨_, rfl⟩
  obtain ⟨E2, hE⟩ : ∃ E2, readE s.data.toList = E2 := ⟨_, rfl⟩
  have HV := Lib.hid (And.intro hv1 (And.intro hv3 (And.intro hL hE)))
  have HW := Lib.hid (And.intro hden hsh)
  have h00 := hden.2
  have HR := Lib.hid hrd
  have HL := Lib.hid (And.intro hl hll)
  obtain ⟨a, c0, rfl⟩ := hrd.shape
  clear hv1 hv3 hL hE hden hsh hrd hl hll
  go_enter Tryd.func12, Tryd.ntmps12
  go_wp2_with (first
    | (go_at_call 32; refine (LentBytes_any _ l _ HR.out HL.out.2).mono ?_; rintro e w1 ⟨g, c, rfl, hc12, hown, hb1⟩)
    | (go_at_call 18; refine stop_of ?_))
  have hrd1 : Rd w1.heap.size w1 1 (.slice (some ⟨g, 0, none⟩) l.length c) l.length (bys l) := by
    have h := hown
    rw [show l.length + 12 = l.length + ((List.range 12).map (mb 1)).length by simp] at h
    exact rdPrefix h (by simp)
  have H1 := Lib.hid (And.intro hown (And.intro hrd1 hb1))
  have hs1 := hb1.size
  clear hown hrd1 hb1
  unfold Stop
  go_wp2_with (first
    | (go_at_call 18; refine (TextAll_any _ l _ H1.out.2.1 HL.out.1 (HW.out.1.below H1.out.2.2 h00) HL.out.2).mono ?_; rintro e w2 ⟨rfl, hb2⟩; rw [HV.out.1]; have hB2 := Lib.hid (H1.out.2.2.trans (hb2.mono H1.out.2.2.size)))
    | (go_at_call 33; refine (refTextAll_any _ l _ (HR.out.later hB2.out (Nat.le_refl _)) HL.out.1 HL.out.2).mono ?_; rintro e w3 ⟨rfl, hb3⟩; rw [HV.out.1]; have hB3 := Lib.hid (hB2.out.trans (hb3.mono hB2.out.size)))
    | (go_at_call 21; refine (ReadAll_any s _ (HW.out.1.below hB3.out h00) (shaped_later HW.out.2 hB3.out (Nat.le_refl _)) hs).mono ?_; rintro e w4 ⟨v4, rfl, hown4, hb4⟩; rw [HV.out.2.2.1] at hown4; rw [HV.out.2.2.2]; have hB4 := Lib.hid (hB3.out.trans (hb4.mono hB3.out.size)))
    | (go_at_call 34; refine (refReadAll_any s _ hs).mono ?_; rintro e w5 ⟨v5, rfl, hown5, hb5⟩; rw [HV.out.2.2.1] at hown5; rw [HV.out.2.2.2]; have hB5 := Lib.hid (hB4.out.trans (hb5.mono hB4.out.size)))
    | (go_at_call 20; refine (Read_any s _ (HW.out.1.below hB5.out h00)).mono ?_; rintro e w6 ⟨rfl, hb6⟩; rw [HV.out.2.1]; have hB6 := Lib.hid (hB5.out.trans (hb6.mono hB5.out.size)))
    | (go_at_call 35; refine (refRead_any s _).mono ?_; rintro e w7 ⟨rfl, hb7⟩; rw [HV.out.2.1]; have hB7 := Lib.hid (hB6.out.trans (hb7.mono hB6.out.size)))
    | (go_at_call 24; refine stop_of ?_))
  have s4 := hb4.size
  have s5 := hb5.size
  have s6 := hb6.size
  have s7 := hb7.size
  have b57 : Below w5.heap.size w5 w7 := hb6.trans (hb7.mono s6)
  have b47 : Below w4.heap.size w4 w7 := hb5.trans (b57.mono s5)
  have b37 : Below w3.heap.size w3 w7 := hb4.trans (b47.mono s4)
  have b17 : Below w1.heap.size w1 w7 := (hb2.trans (hb3.mono hb2.size)).trans (b37.mono (Nat.le_trans hb2.size hb3.size))
  have hr4 := (Rd.of_own hown4).later b47 (Nat.le_refl _)
  have hr5 := (Rd.of_own hown5).later b57 (Nat.le_refl _)
  have ho7 := own_below H1.out.1 b17
  have HX := Lib.hid (And.intro hr4 (And.intro hr5 ho7))
  obtain ⟨a4, c4, rfl⟩ := own_shape hown4
  obtain ⟨a5, c5, rfl⟩ := own_shape hown5
  clear b57 b47 b37 b17 hr4 hr5 ho7 hown4 hown5 hb2 hb3 hb4 hb5 hb6 hb7
  unfold Stop
  go_wp2_with (first
    | (go_at_call 24; refine (SameBytes_yes _ _ L _ HX.out.1 HX.out.2.1).mono ?_; rintro e w8 ⟨rfl, k8, rfl⟩)
    | (go_at_call 21; refine stop_of ?_))
  have hb8 := Below.drewN hB7.out k8
  have hr4 : Rd (w7.drewN k8).heap.size (w7.drewN k8) 1 _ L.length (bys L) := HX.out.1.later (Below.drewN (Below.refl _ _) k8) (Nat.le_refl _)
  have hr5 : Rd (w7.drewN k8).heap.size (w7.drewN k8) 1 _ L.length (bys L) := HX.out.2.1.later (Below.drewN (Below.refl _ _) k8) (Nat.le_refl _)
  have ho8 := own_below HX.out.2.2 (Below.drewN (Below.refl _ _) k8)
  obtain ⟨w8, hw8⟩ : ∃ w8, w7.drewN k8 = w8 := ⟨_, rfl⟩
  rw [hw8] at hb8 hr4 hr5 ho8 ⊢
  have H8 := Lib.hid (And.intro hb8 (And.intro hr4 (And.intro hr5 ho8)))
  clear hb8 hr4 hr5 ho8 hw8 HX
  unfold Stop
  go_wp2_with (first
    | (go_at_call 21; refine (ReadAll_any s _ (HW.out.1.below H8.out.1 h00) (shaped_later HW.out.2 H8.out.1 (Nat.le_refl _)) hs).mono ?_; rintro e w9 ⟨v9, rfl, hown9, hb9⟩; rw [HV.out.2.2.1] at hown9; rw [HV.out.2.2.2])
    | (go_at_call 36; refine stop_of ?_))
  have hL319 : L.length ≤ 319 := by rw [← HV.out.2.2.1]; exact readL_len _
  have H9 := Lib.hid (And.intro hown9 hb9)
  obtain ⟨a9, c9, rfl⟩ := own_shape hown9
  clear hown9 hb9
  unfold Stop
  go_wp2_with (first
    | (go_at_call 36; refine (OverBytes_any _ _ _ _ _ H9.out.1 (by omega)).mono ?_; rintro e w10 ⟨rfl, hb10⟩)
    | (go_at_call 24; refine stop_of ?_))
  have b810 : Below w8.heap.size w8 w10 := H9.out.2.trans hb10
  have hb10' := H8.out.1.trans (b810.mono H8.out.1.size)
  have hr4 := H8.out.2.1.later b810 (Nat.le_refl _)
  have hr5 := H8.out.2.2.1.later b810 (Nat.le_refl _)
  have ho10 := own_below H8.out.2.2.2 b810
  have HZ := Lib.hid (And.intro hr4 (And.intro hr5 (And.intro ho10 hb10')))
  clear b810 hb10' hr4 hr5 ho10 hb10
  unfold Stop
  go_wp2_with (first
    | (go_at_call 24; refine (SameBytes_yes _ _ L _ HZ.out.1 HZ.out.2.1).mono ?_; rintro e w11 ⟨rfl, k11, rfl⟩)
    | (go_at_call 37; refine (KeptBytes_yes g c _ l w.heap.size _ (HR.out.later (Below.drewN HZ.out.2.2.2 k11) (Nat.le_refl _)) HL.out.2 (own_below HZ.out.2.2.1 (Below.drewN (Below.refl _ _) k11))).mono ?_; rintro e w12 ⟨rfl, k12, rfl⟩))
  go_ret
  exact ⟨rfl, Below.drewN HZ.out.2.2.2 _⟩

theorem bys_of (l : List Int) (h : ∀ x ∈ l, 0 ≤ x ∧ x ≤ 255) : bys (l.map Int.toNat) = l.map (Value.int .u8) := by
  unfold bys
  rw [List.map_map]
  apply List.map_congr_left
  intro x hx
  have := h x hx
  simp only [Function.comp]
  congr 1
  omega

theorem CallTexts_nat (v : Value) (l : List Nat) (s : ByteArray) (w : World) (hrd : Rd w.heap.size w 1 v l.length (bys l)) (hl : ∀ c ∈ l, c < 256) (hs : s.size ≤ 9223372036854775807) (hden : Den w) (hsh : w.ShapedOpen Tryd.prog) :
    Calls Tryd.prog 4 #[v, .string s] w fun e w' => e = .returned (.bool true) ∧ Below w.heap.size w w' := by
  have hB : Below w.heap.size w w := Below.refl _ _
  have hlen := hrd.len
  have HR := Lib.hid hrd
  have HW := Lib.hid (And.intro hden hsh)
  have h00 := hden.2
  obtain ⟨a, c, rfl⟩ := hrd.shape
  clear hrd hden hsh
  have hml : (l.length : Int) ≤ 9223372036854775807 := by unfold maxLen at hlen; omega
  by_cases h1 : (400 : Int) < (l.length : Int)
  · have hd1 : decide ((400 : Int) < (l.length : Int)) = true := by simpa using h1
    go_enter Tryd.func4, Tryd.ntmps4
    go_wp2_with (go_at_call 11; refine (awake_true _ (HW.out.1.below hB h00) (shaped_later HW.out.2 hB (Nat.le_refl _))).mono ?_; rintro e w9 ⟨rfl, hb9⟩; replace hB := hB.trans (hb9.mono hB.size); clear hb9)
    go_ret
    exact ⟨rfl, hB⟩
  · have hd1 : decide ((400 : Int) < (l.length : Int)) = false := by simpa using h1
    by_cases h2 : (1300 : Int) < (s.size : Int)
    · have hd2 : decide ((1300 : Int) < (s.size : Int)) = true := by simpa using h2
      go_enter Tryd.func4, Tryd.ntmps4
      go_wp2_with (go_at_call 11; refine (awake_true _ (HW.out.1.below hB h00) (shaped_later HW.out.2 hB (Nat.le_refl _))).mono ?_; rintro e w9 ⟨rfl, hb9⟩; replace hB := hB.trans (hb9.mono hB.size); clear hb9)
      go_ret
      exact ⟨rfl, hB⟩
    · have hd2 : decide ((1300 : Int) < (s.size : Int)) = false := by simpa using h2
      go_enter Tryd.func4, Tryd.ntmps4
      go_wp2_with (first
        | (go_at_call 12; refine (texts_yes _ l s _ HR.out hl (by omega) (by omega) HW.out.1 HW.out.2).mono ?_; rintro e w8 ⟨rfl, hb9⟩; replace hB := hB.trans (hb9.mono hB.size); clear hb9)
        | (go_at_call 11; refine (awake_true _ (HW.out.1.below hB h00) (shaped_later HW.out.2 hB (Nat.le_refl _))).mono ?_; rintro e w9 ⟨rfl, hb9⟩; replace hB := hB.trans (hb9.mono hB.size); clear hb9))
      go_ret
      exact ⟨rfl, hB⟩

theorem CallTexts_walk (v : Value) (l : List Int) (s : ByteArray) (w : World) (hl : Rd w.heap.size w 1 v l.length (l.map (Value.int .u8)) ∧ ∀ x ∈ l, 0 ≤ x ∧ x ≤ 255) (hs : s.size ≤ maxLen) (hden : Den w) (hsh : w.ShapedOpen Tryd.prog) :
    Calls Tryd.prog 4 #[v, .string s] w fun e w' => e = .returned (.bool true) ∧ Below w.heap.size w w' := by
  refine CallTexts_nat v (l.map Int.toNat) s w ?_ ?_ (by unfold maxLen at hs; omega) hden hsh
  · rw [bys_of l hl.2, List.length_map]
    exact hl.1
  · intro c hc
    rw [List.mem_map] at hc
    obtain ⟨x, hx, rfl⟩ := hc
    have := hl.2 x hx
    omega

end Go.Proofs.YtbgiiijdabpbcaaDoor
