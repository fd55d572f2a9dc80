/- CallReads, walked -/
import Derived.Test.YtbgiiijdabpbcaaDoorCallMade
import Derived.Test.YtbgiiijdabpbcaaDoorCallRd
import Derived.Test.YtbgiiijdabpbcaaDoorKitF
import Derived.Test.YtbgiiijdabpbcaaDoorCallAwake
import Derived.Test.YtbgiiijdabpbcaaDoorShelf
import Derived.Lib.SmallJoins
namespace Go.Proofs.YtbgiiijdabpbcaaDoor
open Go.RowKit
set_option linter.unusedVariables false
set_option linter.unusedSimpArgs false
set_option maxRecDepth 100000
set_option maxHeartbeats 4000000

def Spaces (w : World) : Prop := Lib.TabIs Tryd.prog w "strings.asciiSpace" .u8 Lib.asciiSpaceTab

theorem Spaces.below {w w' : World} (h : Spaces w) (hb : Below w.heap.size w w') : Spaces w' :=
  Go.Joins.tab_stays (by kernel_rfl : Tryd.prog.globalNamed "strings.asciiSpace" = some ((Tryd.prog.globalNamed "strings.asciiSpace").getD 0)) h hb (Nat.le_refl _)

theorem textAll_yes (l : List Nat) (h : ∀ c ∈ l, c < 38) (hl : l.length ≤ 319) : vTextAll l = .tuple #[vS (textL l), .int .i64 0] := by
  unfold vTextAll
  rw [if_neg (by omega), if_pos (by rw [List.all_eq_true]; intro c hc; simpa using h c hc)]

theorem CallReads_nat (va vb : Value) (a b : List Nat) (w : World) (hra : Rd w.heap.size w 1 va a.length (bys a)) (hrb : Rd w.heap.size w 1 vb b.length (bys b)) (ha : ∀ c ∈ a, c < 256) (hb : ∀ c ∈ b, c < 256) (hden : Den w) (hsh : w.ShapedOpen Tryd.prog) (hsp : Spaces w) :
    Calls Tryd.prog 9 #[va, vb] w fun e w' => e = .returned (.bool true) ∧ Below w.heap.size w w' := by
  obtain ⟨x, hx⟩ : ∃ x, madeL a = x := ⟨_, rfl⟩
  obtain ⟨y, hy⟩ : ∃ y, madeL b = y := ⟨_, rfl⟩
  have hx38 : ∀ c ∈ x, c < 38 := by rw [← hx]; exact madeL_lt a
  have hy38 : ∀ c ∈ y, c < 38 := by rw [← hy]; exact madeL_lt b
  have hxl : x.length ≤ 319 := by rw [← hx]; exact madeL_len a
  have hyl : y.length ≤ 319 := by rw [← hy]; exact madeL_len b
  obtain ⟨S, hS⟩ : ∃ S : ByteArray, (⟨(textL x).toArray⟩ : ByteArray) = S := ⟨_, rfl⟩
  obtain ⟨T, hT⟩ : ∃ T : ByteArray, (⟨(textL y).toArray⟩ : ByteArray) = T := ⟨_, rfl⟩
  have hS1 : S.data.toList = textL x := by rw [← hS]
  have hT1 : T.data.toList = textL y := by rw [← hT]
  have hSz : S.size ≤ 1276 := by
    have := textL_len x
    have e : S.size = (textL x).length := by rw [← hS1, Array.length_toList]; rfl
    omega
  have hTz : T.size ≤ 1276 := by
    have := textL_len y
    have e : T.size = (textL y).length := by rw [← hT1, Array.length_toList]; rfl
    omega
  have hvx : vTextAll x = .tuple #[.string S, .int .i64 0] := by rw [textAll_yes x hx38 hxl, ← hS]
  have hvy : vTextAll y = .tuple #[.string T, .int .i64 0] := by rw [textAll_yes y hy38 hyl, ← hT]
  have hlx : readL S.data.toList = x ∧ readE S.data.toList = 0 := by rw [hS1]; unfold readL readE; rw [readAll_text x hx38 hxl]; exact ⟨rfl, rfl⟩
  have hly : readL T.data.toList = y ∧ readE T.data.toList = 0 := by rw [hT1]; unfold readL readE; rw [readAll_text y hy38 hyl]; exact ⟨rfl, rfl⟩
  have hlt : ∀ c, c < 38 → c < 256 := fun c h => by omega
  obtain ⟨D, hD⟩ : ∃ D, decide (x = y) = D := ⟨_, rfl⟩
  have hST : (S.toList == T.toList) = D := by
    rw [← hD, Lib.toList_data, Lib.toList_data, hS1, hT1]
    by_cases h : x = y
    · rw [h]; simp
    · rw [decide_eq_false h, beq_eq_false_iff_ne]
      exact fun e => h ((textL_inj hx38 hy38 hxl hyl).1 e)
  have HV := Lib.hid (And.intro hvx (And.intro hvy (And.intro hlx (And.intro hly (And.intro hx (And.intro hy hD))))))
  have HP := Lib.hid (And.intro hx38 (And.intro hy38 (And.intro hS1 hT1)))
  have HR := Lib.hid (And.intro hra (And.intro hrb (And.intro ha hb)))
  have HW := Lib.hid (And.intro hden (And.intro hsh hsp))
  have h00 := hden.2
  obtain ⟨a1, c1, rfl⟩ := hra.shape
  obtain ⟨a2, c2, rfl⟩ := hrb.shape
  obtain ⟨i0, hinf, hz0, hz1, hz2⟩ := info_parts info_u8
  clear hS hT hx hy hx38 hy38 hS1 hT1 hvx hvy hlx hly hD hra hrb ha hb hden hsh hsp hlt
  go_enter Tryd.func9, Tryd.ntmps9
  have tok1 : True := trivial
  have tok2 : True := trivial
  have tok3 : True := trivial
  go_wp2_with (first
    | (go_at_call 11; refine (awake_true _ HW.out.1 HW.out.2.1).mono ?_; rintro e w1 ⟨rfl, hb1⟩; have hB1 := Lib.hid hb1; clear hb1)
    | (go_at_call 23; have _t := tok1; clear tok1; refine (made_any _ a _ (HR.out.1.later hB1.out (Nat.le_refl _)) HR.out.2.2.1).mono ?_; rintro e w2 ⟨⟨v2, rfl, hown2⟩, hb2⟩; rw [HV.out.2.2.2.2.1] at hown2; have hB2 := Lib.hid (hB1.out.trans (hb2.mono hB1.out.size)); clear hb2; have HO2 := Lib.hid hown2; obtain ⟨a3, c3, rfl⟩ := own_shape hown2; clear hown2)
    | (go_at_call 23; refine (made_any _ b _ (HR.out.2.1.later hB2.out (Nat.le_refl _)) HR.out.2.2.2).mono ?_; rintro e w3 ⟨⟨v3, rfl, hown3⟩, hb3⟩; rw [HV.out.2.2.2.2.2.1] at hown3; have hB3 := Lib.hid (hB2.out.trans (hb3.mono hB2.out.size)); have HO3 := Lib.hid (And.intro hown3 (own_below HO2.out hb3)); clear hb3; obtain ⟨a4, c4, rfl⟩ := own_shape hown3; clear hown3)
    | (go_at_call 18; refine stop_of ?_))
  have hrx := Rd.of_own HO3.out.2
  have hry := Rd.of_own HO3.out.1
  have HX := Lib.hid (And.intro hrx hry)
  clear hrx hry
  unfold Stop
  go_wp2_with (first
    | (go_at_call 18; have _t := tok2; clear tok2; refine (TextAll_any _ x _ HX.out.1 (fun c h => by have := HP.out.1 c h; omega) (HW.out.1.below hB3.out h00) (by omega)).mono ?_; rintro e w4 ⟨rfl, hb4⟩; rw [HV.out.1]; have H4 := Lib.hid (And.intro hb4 (hB3.out.trans (hb4.mono hB3.out.size))); clear hb4)
    | (go_at_call 18; refine (TextAll_any _ y _ (HX.out.2.later H4.out.1 (Nat.le_refl _)) (fun c h => by have := HP.out.2.1 c h; omega) (HW.out.1.below H4.out.2 h00) (by omega)).mono ?_; rintro e w5 ⟨rfl, hb5⟩; rw [HV.out.2.1]; have H5 := Lib.hid (And.intro (H4.out.1.trans (hb5.mono H4.out.1.size)) (H4.out.2.trans (hb5.mono H4.out.2.size))); clear hb5)
    | (go_at_call 21; have _t := tok3; clear tok3; refine (ReadAll_any S _ (HW.out.1.below H5.out.2 h00) (shaped_later HW.out.2.1 H5.out.2 (Nat.le_refl _)) (by omega)).mono ?_; rintro e w6 ⟨v6, rfl, hown6, hb6⟩; rw [HV.out.2.2.1.1] at hown6; rw [HV.out.2.2.1.2]; have H6 := Lib.hid (And.intro hown6 (And.intro (H5.out.1.trans (hb6.mono H5.out.1.size)) (H5.out.2.trans (hb6.mono H5.out.2.size)))); clear hb6; obtain ⟨a6, c6, rfl⟩ := own_shape hown6; clear hown6)
    | (go_at_call 21; refine (ReadAll_any T _ (HW.out.1.below H6.out.2.2 h00) (shaped_later HW.out.2.1 H6.out.2.2 (Nat.le_refl _)) (by omega)).mono ?_; rintro e w7 ⟨v7, rfl, hown7, hb7⟩; rw [HV.out.2.2.2.1.1] at hown7; rw [HV.out.2.2.2.1.2]; have H7 := Lib.hid (And.intro hown7 (And.intro (own_below H6.out.1 hb7) (And.intro (H6.out.2.1.trans (hb7.mono H6.out.2.1.size)) (H6.out.2.2.trans (hb7.mono H6.out.2.2.size))))); clear hb7; obtain ⟨a7, c7, rfl⟩ := own_shape hown7; clear hown7)
    | (go_at_call 24; refine stop_of ?_))
  have r1 : Rd w7.heap.size w7 1 (.slice a6 x.length c6) x.length (bys x) := Rd.of_own H7.out.2.1
  have r2 : Rd w7.heap.size w7 1 (.slice a3 x.length c3) x.length (bys x) := HX.out.1.later H7.out.2.2.1 (Nat.le_refl _)
  have r3 : Rd w7.heap.size w7 1 (.slice a7 y.length c7) y.length (bys y) := Rd.of_own H7.out.1
  have r4 : Rd w7.heap.size w7 1 (.slice a4 y.length c4) y.length (bys y) := HX.out.2.later H7.out.2.2.1 (Nat.le_refl _)
  have R7 := Lib.hid (And.intro r1 (And.intro r2 (And.intro r3 r4)))
  clear r1 r2 r3 r4
  have tok4 : True := trivial
  have tok5 : True := trivial
  unfold Stop
  go_wp2_with (first
    | (go_at_call 24; have _t := tok4; clear tok4; refine (SameBytes_yes _ _ x _ R7.out.1 R7.out.2.1).mono ?_; rintro e w8 ⟨rfl, k8, rfl⟩)
    | (go_at_call 24; have _t := tok5; clear tok5; refine (SameBytes_yes _ _ y _ (R7.out.2.2.1.later (Below.drewN (Below.refl _ _) _) (Nat.le_refl _)) (R7.out.2.2.2.later (Below.drewN (Below.refl _ _) _) (Nat.le_refl _))).mono ?_; rintro e w9 ⟨rfl, k9, rfl⟩)
    | (go_at_call 24; refine (SameBytes_any _ _ x y _ (R7.out.2.1.later (Below.drewN (Below.refl _ _) _) (Nat.le_refl _)) (R7.out.2.2.2.later (Below.drewN (Below.refl _ _) _) (Nat.le_refl _))).mono ?_; rintro e w10 ⟨rfl, k10, rfl⟩; rw [HV.out.2.2.2.2.2.2])
    | (at_builtin; refine stop_of ?_))
  unfold Stop
  have b8 := Below.drewN H7.out.2.2.2 (k8 + k9 + k10)
  have r2 : Rd (w7.drewN (k8 + k9 + k10)).heap.size (w7.drewN (k8 + k9 + k10)) 1 (.slice a3 x.length c3) x.length (bys x) := R7.out.2.1.later (Below.drewN (Below.refl _ _) _) (Nat.le_refl _)
  have r4 : Rd (w7.drewN (k8 + k9 + k10)).heap.size (w7.drewN (k8 + k9 + k10)) 1 (.slice a4 y.length c4) y.length (bys y) := R7.out.2.2.2.later (Below.drewN (Below.refl _ _) _) (Nat.le_refl _)
  obtain ⟨w8, hw8⟩ : ∃ w8, w7.drewN (k8 + k9 + k10) = w8 := ⟨_, rfl⟩
  have hsz8 : w7.heap.size = w8.heap.size := by rw [← hw8]; rfl
  rw [hw8] at b8 r2 r4 ⊢
  rw [hsz8]
  have own0 := ownEmpty w8 5
  have hb0 : Below w8.heap.size w8 (w8.alloc (.cells #[] 5)) := (Below.refl _ _).alloc (Nat.le_refl _) _
  have H8 := Lib.hid (And.intro b8 (And.intro r2 (And.intro r4 (And.intro own0 hb0))))
  clear b8 r2 r4 own0 hb0 hw8 hsz8
  refine wpList_append_rd (by first | rfl | simp [Region.wanted] | simp [Region.wanted, yielded]) _ _ 24 (by rfl) w8.heap.size 5 i0 (.int .u8 0) 1 1 Tryd.underlying24 hinf hz0 hz1 hz2 rfl (by decide) _ 0 [] (by rfl) H8.out.2.2.2.1 (.slice a3 x.length c3) x.length (bys x) _ (by rfl) (H8.out.2.1.below H8.out.2.2.2.2 (Nat.le_refl _)) (bys_one _) (by unfold maxLen; omega) (by omega) H8.out.2.2.2.2.size ?_
  intro v9 w9 hown9 hgrow9
  have hb9 := below_append H8.out.2.2.2.2 hgrow9 H8.out.2.2.2.1 (Nat.le_refl _) H8.out.2.2.2.2.size
  rw [Nat.zero_add, List.nil_append] at hown9
  have H9 := Lib.hid (And.intro hown9 hb9)
  clear hown9 hb9 hgrow9
  go_wp2_with (at_builtin; refine stop_of ?_)
  unfold Stop
  refine wpList_append_rd (by first | rfl | simp [Region.wanted] | simp [Region.wanted, yielded]) _ _ 24 (by rfl) w8.heap.size 5 i0 (.int .u8 0) 1 1 Tryd.underlying24 hinf hz0 hz1 hz2 rfl (by decide) v9 x.length (bys x) (by rfl) H9.out.1 (.slice a4 y.length c4) y.length (bys y) _ (by rfl) (H8.out.2.2.1.below H9.out.2 (Nat.le_refl _)) (bys_one _) (by unfold maxLen; omega) (by omega) H9.out.2.size ?_
  intro v10 w10 hown10 hgrow10
  have hb10 := below_append H9.out.2 hgrow10 H9.out.1 (Nat.le_refl _) H9.out.2.size
  rw [← bys_append, ← List.length_append] at hown10
  have hb010 : Below w.heap.size w w10 := H8.out.1.trans (hb10.mono H8.out.1.size)
  have H10 := Lib.hid (And.intro (Rd.of_own hown10) hb010)
  clear hown10 hb10 hgrow10 hb010
  have hz38 : ∀ c ∈ x ++ y, c < 38 := by
    intro c hc
    rcases List.mem_append.1 hc with h | h
    · exact HP.out.1 c h
    · exact HP.out.2.1 c h
  have hz256 : ∀ c ∈ x ++ y, c < 256 := fun c hc => by have := hz38 c hc; omega
  have HZ := Lib.hid (And.intro hz38 hz256)
  clear hz38 hz256
  by_cases hbig : 319 < x.length + y.length
  · have hvz : vTextAll (x ++ y) = .tuple #[.string ⟨#[]⟩, .int .i64 5] := by unfold vTextAll; rw [if_pos (by rw [List.length_append]; exact hbig)]
    have HVZ := Lib.hid hvz
    have g1 : decide ((319 : Int) < (x.length : Int) + (y.length : Int)) = true := by simp; omega
    have g2 : decide (319 < x.length + y.length) = true := by simpa using hbig
    clear hvz
    go_wp2_with (go_at_call 18; refine (TextAll_any _ (x ++ y) _ H10.out.1 HZ.out.2 (HW.out.1.below H10.out.2 h00) (by rw [List.length_append]; omega)).mono ?_; rintro e w11 ⟨rfl, hb11⟩; rw [HVZ.out])
    go_ret
    exact ⟨rfl, H10.out.2.trans (hb11.mono H10.out.2.size)⟩
  · obtain ⟨U, hU⟩ : ∃ U : ByteArray, (⟨(textL (x ++ y)).toArray⟩ : ByteArray) = U := ⟨_, rfl⟩
    have hvz : vTextAll (x ++ y) = .tuple #[.string U, .int .i64 0] := by rw [textAll_yes (x ++ y) HZ.out.1 (by rw [List.length_append]; omega), ← hU]
    have htr : (⟨(Lib.trimSpace (S ++ ⟨#[32]⟩ ++ T).data.toList).toArray⟩ : ByteArray) = U := by
      rw [← hU, ← textL_both x y HP.out.1 HP.out.2.1, ← HP.out.2.2.1, ← HP.out.2.2.2]
      simp
    have hasc : ∀ (j : Nat) b, (S ++ ⟨#[32]⟩ ++ T).data.toList[j]? = some b → b.toNat < 128 := by
      intro j b hjb
      have hm := List.mem_of_getElem? hjb
      have e : (S ++ ⟨#[32]⟩ ++ T).data.toList = textL x ++ [32] ++ textL y := by
        rw [← HP.out.2.2.1, ← HP.out.2.2.2]
        simp
      rw [e, List.mem_append, List.mem_append, List.mem_singleton] at hm
      rcases hm with (h | rfl) | h
      · exact textL_ascii x HP.out.1 b h
      · decide
      · exact textL_ascii y HP.out.2.1 b h
    have h32 : (⟨#[32]⟩ : ByteArray).size = 1 := rfl
    have hsz : (S ++ ⟨#[32]⟩ ++ T).size ≤ 9223372036854775807 := by rw [ByteArray.size_append, ByteArray.size_append]; omega
    have HVZ := Lib.hid (And.intro hvz (And.intro htr (And.intro hasc hsz)))
    have g1 : decide ((319 : Int) < (x.length : Int) + (y.length : Int)) = false := by simp; omega
    have g2 : decide (319 < x.length + y.length) = false := by simpa using hbig
    have q1 : ¬ (9223372036854775807 < S.size + 1) := by omega
    have q2 : ¬ (9223372036854775807 < S.size + 1 + T.size) := by omega
    clear hvz htr hasc hsz hU
    go_wp2_with (first
      | (go_at_call 18; refine (TextAll_any _ (x ++ y) _ H10.out.1 HZ.out.2 (HW.out.1.below H10.out.2 h00) (by rw [List.length_append]; omega)).mono ?_; rintro e w11 ⟨rfl, hb11⟩; rw [HVZ.out.1]; have H11 := Lib.hid (H10.out.2.trans (hb11.mono H10.out.2.size)); clear hb11)
      | (go_at_call 25; refine (Tryd.strings_TrimSpace _ _ HVZ.out.2.2.2 HVZ.out.2.2.1 (HW.out.2.2.below H11.out)).mono ?_; rintro e w12 ⟨rfl, rfl⟩; rw [HVZ.out.2.1]))
    go_ret
    exact ⟨rfl, H11.out.trans ((Go.Joins.below_bytesWorld _ _ _ _ (Nat.le_refl _)).mono H11.out.size)⟩

theorem bys_of' (l : List Int) (h : ∀ x ∈ l, 0 ≤ x ∧ x ≤ 255) : bys (l.map Int.toNat) = l.map (Value.int .u8) := by
  unfold bys
  rw [List.map_map]
  apply List.map_congr_left
  intro x hx
  have := h x hx
  simp only [Function.comp]
  congr 1
  omega

theorem lt_of' (l : List Int) (h : ∀ x ∈ l, 0 ≤ x ∧ x ≤ 255) : ∀ c ∈ l.map Int.toNat, c < 256 := by
  intro c hc
  rw [List.mem_map] at hc
  obtain ⟨x, hx, rfl⟩ := hc
  have := h x hx
  omega

theorem CallReads_walk (va : Value) (a : List Int) (vb : Value) (b : List Int) (w : World) (ha : Rd w.heap.size w 1 va a.length (a.map (Value.int .u8)) ∧ ∀ x ∈ a, 0 ≤ x ∧ x ≤ 255) (hb : Rd w.heap.size w 1 vb b.length (b.map (Value.int .u8)) ∧ ∀ x ∈ b, 0 ≤ x ∧ x ≤ 255) (hden : Den w) (hsh : w.ShapedOpen Tryd.prog) (hsp : Spaces w) :
    Calls Tryd.prog 9 #[va, vb] w fun e w' => e = .returned (.bool true) ∧ Below w.heap.size w w' := by
  refine CallReads_nat va vb (a.map Int.toNat) (b.map Int.toNat) w ?_ ?_ (lt_of' a ha.2) (lt_of' b hb.2) hden hsh hsp
  · rw [bys_of' a ha.2, List.length_map]
    exact ha.1
  · rw [bys_of' b hb.2, List.length_map]
    exact hb.1

end Go.Proofs.YtbgiiijdabpbcaaDoor
