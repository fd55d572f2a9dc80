/- For any mask, list and string, List, Mask, Write, Parse, Top and Low return what the document specifies; the list is not modified. It holds of at most 100 numbers, strings of at most 100 bytes. -/
import Derived.Test.YtbjehiagaikhoaaProg
import Derived.Test.YtbjehiagaikhoaaCardAwake
import Derived.Test.YtbjehiagaikhoaaCardN
namespace Go.Proofs.Ytbjehiagaikhoaa
open Go.RowKit
set_option linter.unusedVariables false
set_option linter.unusedSimpArgs false
set_option maxRecDepth 100000
set_option maxHeartbeats 4000000

theorem vMask_tup (p : Nat × Nat) : ∃ x y : Int, vMask p = .tuple #[.int .u64 x, .int .i64 y] := ⟨_, _, rfl⟩
theorem vPick_tup (o : Option Nat) : ∃ (x : Int) (y : Bool), vPick o = .tuple #[.int .u8 x, .bool y] := ⟨_, _, rfl⟩
theorem vParse_tup (o : Option Nat) : ∃ x y : Int, vParse o = .tuple #[.int .u64 x, .int .i64 y] := by
  cases o
  · exact ⟨_, _, rfl⟩
  · exact ⟨_, _, rfl⟩

theorem sets_true (m : Nat) (v : Value) (l : List Nat) (s : ByteArray) (w : World) (hm : m < 18446744073709551616) (hrd : Rd w.heap.size w 1 v l.length (bys l)) (hl : ∀ c ∈ l, c < 256) (hll : l.length ≤ 100) (hs : s.size ≤ 9223372036854775807) :
    Calls Try.prog 24 #[.int .u64 (m : Int), v, .string s] w fun e w' => e = .returned (.bool true) ∧ Below w.heap.size w w' := by
  obtain ⟨a, c, rfl⟩ := hrd.shape
  obtain ⟨i0, hinf, hz0, hz1, hz2⟩ := info_parts info_u8
  have hB : Below w.heap.size w w := Below.refl _ _
  have hl77 : ∀ c ∈ l ++ [77], c < 256 := fun c hc => by
    rw [List.mem_append] at hc
    rcases hc with hc | hc
    · exact hl c hc
    · simp at hc; omega
  obtain ⟨L, hL⟩ : ∃ L, listN m = L := ⟨_, rfl⟩
  obtain ⟨E, hE⟩ : ∃ E, errN m = E := ⟨_, rfl⟩
  obtain ⟨T, hT⟩ : ∃ T, textN m = T := ⟨_, rfl⟩
  have hLl : (∀ c ∈ L, c < 52) ∧ L.length ≤ 52 := by rw [← hL]; exact listN_lt m
  have hL52 := hLl.2
  have hL256 : ∀ c ∈ L, c < 256 := fun c hc => by have := hLl.1 c hc; omega
  obtain ⟨x1, y1, h1⟩ := vMask_tup (mgo 0 l)
  obtain ⟨x2, y2, h2⟩ := vParse_tup (parseN s.data.toList)
  have H := Lib.hid (And.intro h1 (And.intro h2 (And.intro hL (And.intro hE hT))))
  have HL := Lib.hid (And.intro hl (And.intro hl77 hL256))
  have HR := Lib.hid hrd
  clear h1 h2 hL hE hT hl hl77 hL256 hLl hrd
  obtain ⟨n, hn⟩ : ∃ n, l.length = n := ⟨_, rfl⟩
  have HN := Lib.hid hn
  rw [hn] at hll ⊢
  clear hn
  have own0 := ownEmpty w 5
  have hb0 : Below w.heap.size w (w.alloc (.cells #[] 5)) := (Below.refl _ _).alloc (Nat.le_refl _) _
  have HO := Lib.hid (And.intro own0 hb0)
  clear own0 hb0
  have tok1 : True := trivial
  have tok2 : True := trivial
  have tok3 : True := trivial
  go_enter Try.func24, Try.ntmps24
  go_wp2_with (at_builtin; refine stop_of ?_)
  unfold Stop
  refine wpList_append_rd (by first | rfl | simp [Region.wanted] | simp [Region.wanted, yielded]) _ _ 37 (by rfl) w.heap.size 5 i0 (.int .u8 0) 1 1 Try.underlying37 hinf hz0 hz1 hz2 rfl (by decide) _ 0 [] (by rfl) HO.out.1 (.slice a n c) n (bys l) _ (by rfl) (by have h9 := HR.out.below HO.out.2 (Nat.le_refl _); rw [HN.out] at h9; exact h9) (bys_one _) (by unfold maxLen; omega) (by omega) HO.out.2.size ?_
  intro v1 w1 hown1 hgrow1
  have hb1 := below_append HO.out.2 hgrow1 HO.out.1 (Nat.le_refl _) HO.out.2.size
  rw [Nat.zero_add, List.nil_append] at hown1
  have hown1b : (w1.alloc (.cells #[.int .u8 77] 5)).ownsRow w.heap.size 5 1 v1 n (bys l) := own_below hown1 ((Below.refl _ _).alloc (Nat.le_refl _) _)
  have hb1b : Below w.heap.size w (w1.alloc (.cells #[.int .u8 77] 5)) := hb1.alloc hb1.size _
  have HO1 := Lib.hid (And.intro hown1b (And.intro hb1b (rdNew w1 5 (bys [77]) (by simp) (by simp [maxLen]))))
  clear hown1 hgrow1 hb1 hown1b hb1b HO
  go_wp2_with (at_builtin; refine stop_of ?_)
  unfold Stop
  refine wpList_append_rd (by first | rfl | simp [Region.wanted] | simp [Region.wanted, yielded]) _ _ 37 (by rfl) w.heap.size 5 i0 (.int .u8 0) 1 1 Try.underlying37 hinf hz0 hz1 hz2 rfl (by decide) v1 n (bys l) (by rfl) HO1.out.1 _ 1 (bys [77]) _ (by rfl) HO1.out.2.2 (bys_one _) (by unfold maxLen; omega) (by omega) HO1.out.2.1.size ?_
  intro v2 w2 hown2 hgrow2
  have hb2 := below_append HO1.out.2.1 hgrow2 HO1.out.1 (Nat.le_refl _) HO1.out.2.1.size
  rw [← bys_append] at hown2
  obtain ⟨a7, c7, rfl⟩ := own_shape hown2
  obtain ⟨g7, rfl, -, hg7, -, hn7, hc7⟩ := own_some hown2 (by omega)
  have HO2 := Lib.hid (And.intro hown2 hb2)
  clear hown2 hgrow2 hb2 HO1
  have tok1 : True := trivial
  go_wp2_with (go_at_call 21; have _t := tok1; refine (List_all m _ hm).mono ?_; rintro e w3 ⟨v8, rfl, hown8, hb8⟩; clear tok1; rw [H.out.2.2.1] at hown8; rw [H.out.2.2.2.1]; obtain ⟨a8, c8, rfl⟩ := own_shape hown8)
  go_loopw [42] (fun i wr => ∃ (i' : Nat) (xs : List Value), i = .int .i64 i' ∧ i' ≤ L.length ∧ wr.ownsRow w2.heap.size 5 1 (.slice a8 L.length c8) L.length xs ∧ Below w2.heap.size w2 wr) (fun i _ => L.length - (intOf i).toNat)
  case atStart => exact ⟨0, _, rfl, by omega, hown8, hb8⟩
  case round =>
    clear hown8
    obtain ⟨i, xs, rfl, hi, hown, hB3⟩ := hrel
    by_cases h : i < L.length
    · obtain ⟨g8, rfl, hg8, hg8b, -, h82, h83⟩ := own_some hown (by omega)
      have hxl : xs.length = L.length := by have := hown.1; omega
      have hcell : wr.cell? ⟨g8, i, none⟩ = some xs[i] := by rw [hown.cellAt i (by omega), List.getElem?_eq_getElem (by omega)]
      have hfz := hown.frozenAt i
      have hst := (hown.stored i (.int .u8 99)).1
      have hb3 : Below w2.heap.size w2 (wr.setCell ⟨g8, i, none⟩ (.int .u8 99)) := hB3.setCell (p := ⟨g8, i, none⟩) hg8 _
      have HS := Lib.hid (And.intro hst hb3)
      clear hst hb3 hown
      go_wp2_with fail
      go_roundw
      case rel => exact ⟨i + 1, _, by go_num, by omega, HS.out.1, HS.out.2⟩
      case measure => simp [intOf]; omega
    · obtain rfl : i = L.length := by omega
      clear h hown hi hb8
      have tok1 : True := trivial
      have tok2 : True := trivial
      go_wp2_with (first
        | (go_at_call 21; refine (List_all m _ hm).mono ?_; rintro e w4 ⟨v9, rfl, hown9, hb9⟩; rw [H.out.2.2.1] at hown9; rw [H.out.2.2.2.1]; obtain ⟨a9, c9, rfl⟩ := own_shape hown9; have HO9 := Lib.hid (And.intro hown9 hb9); clear hown9 hb9)
        | (go_at_call 28; refine (RList_all m _ hm).mono ?_; rintro e w5 ⟨v10, rfl, hown10, hb10⟩; rw [H.out.2.2.1] at hown10; rw [H.out.2.2.2.1]; obtain ⟨a10, c10, rfl⟩ := own_shape hown10; have HO10 := Lib.hid (And.intro hown10 hb10); clear hown10 hb10; have hb25 := hB3.trans ((HO9.out.2.mono hB3.size).trans (HO10.out.2.mono (Nat.le_trans hB3.size HO9.out.2.size))); have HB25 := Lib.hid hb25; clear hb25))
      have hb2s := HO2.out.2.size
      have hb5s := HB25.out.size
      have hb05 : Below w.heap.size w w5 := HO2.out.2.trans (HB25.out.mono hb2s)
      have hrdM : Rd w5.heap.size w5 1 (.slice (some ⟨g7, 0, none⟩) n c7) l.length (bys l) := by
        have h7 := own_below HO2.out.1 HB25.out
        rw [← HN.out] at h7 ⊢
        exact rdPrefix (l := l) (r := [77]) h7 (by simp)
      have hrdR : Rd w5.heap.size w5 1 (.slice a n c) l.length (bys l) := by
        have h7 := HR.out.later hb05 (Nat.le_refl _)
        rw [HN.out] at h7
        rw [HN.out]
        exact h7
      have HM := Lib.hid (And.intro hrdM hrdR)
      clear hrdM hrdR
      refine (Mask_any _ l _ HM.out.1 HL.out.1).mono ?_
      rintro e w6 ⟨rfl, rfl⟩
      rw [H.out.1]
      have tok3 : True := trivial
      go_wp2_with (first
        | (go_at_call 39; refine (RMask_any _ l _ HM.out.2 HL.out.1).mono ?_; rintro e w6 ⟨rfl, hb6⟩; rw [H.out.1])
        | (go_at_call 40; have _t := tok3; clear tok3; refine stop_of ?_))
      unfold Stop
      have hb46 : Below w4.heap.size w4 w6 := HO10.out.2.trans (hb6.mono HO10.out.2.size)
      refine (same_true _ _ L _ ((Rd.of_own HO9.out.1).later hb46 (Nat.le_refl _)) ((Rd.of_own HO10.out.1).later hb6 (Nat.le_refl _)) HL.out.2.2).mono ?_
      rintro e w7 ⟨rfl, rfl⟩
      have hb06 : Below w.heap.size w w6 := hb05.trans (hb6.mono hb05.size)
      have hb26 : Below w2.heap.size w2 w6 := HB25.out.trans (hb6.mono hb5s)
      have HB6 := Lib.hid (And.intro hb06 (And.intro hb26 (And.intro (ownEmpty w6 5) ((Below.refl w6.heap.size w6).alloc (Nat.le_refl _) (.cells #[] 5)))))
      clear hb06 hb26 hb46 hb6 hb05 HM
      go_wp2_with (at_builtin; refine stop_of ?_)
      unfold Stop
      refine wpList_append_rd (by first | rfl | simp [Region.wanted] | simp [Region.wanted, yielded]) _ _ 37 (by rfl) w6.heap.size 5 i0 (.int .u8 0) 1 1 Try.underlying37 hinf hz0 hz1 hz2 rfl (by decide) _ 0 [] (by rfl) HB6.out.2.2.1 (.slice a n c) n (bys l) _ (by rfl) (by have h9 := (HR.out.later HB6.out.1 (Nat.le_refl _)).below HB6.out.2.2.2 (Nat.le_refl _); rw [HN.out] at h9; exact h9) (bys_one _) (by unfold maxLen; omega) (by omega) HB6.out.2.2.2.size ?_
      intro v11 w8 hown11 hgrow11
      have hb8 := below_append HB6.out.2.2.2 hgrow11 HB6.out.2.2.1 (Nat.le_refl _) HB6.out.2.2.2.size
      rw [Nat.zero_add, List.nil_append] at hown11
      have hown11b : (w8.alloc (.cells #[.int .u8 77] 5)).ownsRow w6.heap.size 5 1 v11 n (bys l) := own_below hown11 ((Below.refl _ _).alloc (Nat.le_refl _) _)
      have hb8b : Below w6.heap.size w6 (w8.alloc (.cells #[.int .u8 77] 5)) := hb8.alloc hb8.size _
      have HO11 := Lib.hid (And.intro hown11b (And.intro hb8b (rdNew w8 5 (bys [77]) (by simp) (by simp [maxLen]))))
      clear hown11 hgrow11 hb8 hown11b hb8b
      go_wp2_with (at_builtin; refine stop_of ?_)
      unfold Stop
      refine wpList_append_rd (by first | rfl | simp [Region.wanted] | simp [Region.wanted, yielded]) _ _ 37 (by rfl) w6.heap.size 5 i0 (.int .u8 0) 1 1 Try.underlying37 hinf hz0 hz1 hz2 rfl (by decide) v11 n (bys l) (by rfl) HO11.out.1 _ 1 (bys [77]) _ (by rfl) HO11.out.2.2 (bys_one _) (by unfold maxLen; omega) (by omega) HO11.out.2.1.size ?_
      intro v12 w9 hown12 hgrow12
      have hb9 := below_append HO11.out.2.1 hgrow12 HO11.out.1 (Nat.le_refl _) HO11.out.2.1.size
      rw [← bys_append] at hown12
      obtain ⟨a12, c12, rfl⟩ := own_shape hown12
      have hrdA : Rd w9.heap.size w9 1 (.slice (some ⟨g7, 0, none⟩) (n + 1) c7) (l ++ [77]).length (bys (l ++ [77])) := by
        have h7 := Rd.of_own (own_below HO2.out.1 (HB6.out.2.1.trans (hb9.mono HB6.out.2.1.size)))
        rw [List.length_append, HN.out]
        exact h7
      have hrdB : Rd w9.heap.size w9 1 (.slice a12 (n + 1) c12) (l ++ [77]).length (bys (l ++ [77])) := by
        have h7 := Rd.of_own hown12
        rw [List.length_append, HN.out]
        exact h7
      have hBw : Below w.heap.size w w9 := HB6.out.1.trans (hb9.mono HB6.out.1.size)
      have HM := Lib.hid (And.intro hrdA hrdB)
      clear hrdA hrdB hown12 hgrow12 hb9 HO11 HB6
      go_wp2_with (first
        | (go_at_call 40; refine (same_true _ _ (l ++ [77]) _ HM.out.1 HM.out.2 HL.out.2.1).mono ?_; rintro e w10 ⟨rfl, rfl⟩)
        | (go_at_call 19; refine (Write_all m _ hm).mono ?_; rintro e w10 ⟨rfl, hb1⟩; rw [H.out.2.2.2.1, H.out.2.2.2.2]; replace hBw := hBw.trans (hb1.mono hBw.size); clear hb1)
        | (go_at_call 27; refine (RWrite_all m _ hm).mono ?_; rintro e w11 ⟨rfl, hb1⟩; rw [H.out.2.2.2.1, H.out.2.2.2.2]; replace hBw := hBw.trans (hb1.mono hBw.size); clear hb1)
        | (go_at_call 25; refine (Parse_any s _ hs).mono ?_; rintro e w12 ⟨rfl, hb1⟩; rw [H.out.2.1]; replace hBw := hBw.trans (hb1.mono hBw.size); clear hb1)
        | (go_at_call 41; refine (RParse_any s _ hs).mono ?_; rintro e w13 ⟨rfl, hb1⟩; rw [H.out.2.1]; replace hBw := hBw.trans (hb1.mono hBw.size); clear hb1))
      go_loopw [21] (fun u wr => ∃ u' : Nat, u = .int .u8 u' ∧ u' ≤ 5 ∧ Below w.heap.size w wr) (fun u _ => 5 - (intOf u).toNat)
      case atStart => exact ⟨0, rfl, by omega, hBw⟩
      case round =>
        obtain ⟨u, rfl, hu, hB5⟩ := hrel
        by_cases h5 : u < 5
        · obtain ⟨x3, y3, h3⟩ := vPick_tup (downs (ofN m u) 52).head?
          obtain ⟨x4, y4, h4⟩ := vPick_tup (downs (ofN m u) 52).getLast?
          have HP := Lib.hid (And.intro h3 h4)
          clear h3 h4
          go_wp2_with (first
            | (go_at_call 11; refine (Top_any m u _ hm (by omega)).mono ?_; rintro e w14 ⟨rfl, hb1⟩; rw [HP.out.1]; replace hB5 := hB5.trans (hb1.mono hB5.size); clear hb1)
            | (go_at_call 42; refine (RTop_any m u _ hm (by omega)).mono ?_; rintro e w15 ⟨rfl, rfl⟩; rw [HP.out.1])
            | (go_at_call 23; refine (Low_any m u _ hm (by omega)).mono ?_; rintro e w16 ⟨rfl, hb1⟩; rw [HP.out.2]; replace hB5 := hB5.trans (hb1.mono hB5.size); clear hb1)
            | (go_at_call 43; refine (RLow_any m u _ hm (by omega)).mono ?_; rintro e w17 ⟨rfl, rfl⟩; rw [HP.out.2]))
          go_roundw
          case rel => exact ⟨u + 1, by go_num, by omega, hB5⟩
          case measure => simp [intOf]; omega
        · go_wp2_with fail
          go_ret
          exact ⟨rfl, hB5⟩

theorem CardSets_nat (m : Nat) (v : Value) (l : List Nat) (s : ByteArray) (w : World) (hm : m < 18446744073709551616) (hrd : Rd w.heap.size w 1 v l.length (bys l)) (hl : ∀ c ∈ l, c < 256) (hs : s.size ≤ 9223372036854775807) :
    Calls Try.prog 7 #[.int .u64 (m : Int), v, .string s] w fun e w' => e = .returned (.bool true) ∧ Below w.heap.size w w' := by
  have hB : Below w.heap.size w w := Below.refl _ _
  have hlen := hrd.len
  have HR := Lib.hid hrd
  obtain ⟨a, c, rfl⟩ := hrd.shape
  clear hrd
  have hml : (l.length : Int) ≤ 9223372036854775807 := by unfold maxLen at hlen; omega
  by_cases h1 : (100 : Int) < (l.length : Int)
  · have hd1 : decide ((100 : Int) < (l.length : Int)) = true := by simpa using h1
    go_enter Try.func7, Try.ntmps7
    go_wp2_with (go_at_call 13; refine (awake_true _).mono ?_; rintro e w9 ⟨rfl, hb9⟩; replace hB := hB.trans (hb9.mono hB.size); clear hb9)
    go_ret
    exact ⟨rfl, hB⟩
  · have hd1 : decide ((100 : Int) < (l.length : Int)) = false := by simpa using h1
    by_cases h2 : (100 : Int) < (s.size : Int)
    · have hd2 : decide ((100 : Int) < (s.size : Int)) = true := by simpa using h2
      go_enter Try.func7, Try.ntmps7
      go_wp2_with (go_at_call 13; refine (awake_true _).mono ?_; rintro e w9 ⟨rfl, hb9⟩; replace hB := hB.trans (hb9.mono hB.size); clear hb9)
      go_ret
      exact ⟨rfl, hB⟩
    · have hd2 : decide ((100 : Int) < (s.size : Int)) = false := by simpa using h2
      go_enter Try.func7, Try.ntmps7
      go_wp2_with (first
        | (go_at_call 24; refine (sets_true m _ l s _ hm HR.out hl (by omega) hs).mono ?_; rintro e w8 ⟨rfl, hb9⟩; replace hB := hB.trans (hb9.mono hB.size); clear hb9)
        | (go_at_call 13; refine (awake_true _).mono ?_; rintro e w9 ⟨rfl, hb9⟩; replace hB := hB.trans (hb9.mono hB.size); clear hb9))
      go_ret
      exact ⟨rfl, hB⟩

theorem bys_of (l : List Int) (h : ∀ x ∈ l, 0 ≤ x ∧ x ≤ 255) : bys (l.map Int.toNat) = l.map (Value.int .u8) := by
  unfold bys
  rw [List.map_map]
  apply List.map_congr_left
  intro x hx
  have := h x hx
  simp only [Function.comp]
  congr 1
  omega

theorem CardSets_walk (m : Int) (v : Value) (l : List Int) (s : ByteArray) (w : World) (hm : 0 ≤ m ∧ m ≤ 18446744073709551615) (hl : Rd w.heap.size w 1 v l.length (l.map (Value.int .u8)) ∧ ∀ x ∈ l, 0 ≤ x ∧ x ≤ 255) (hs : s.size ≤ maxLen) :
    Calls Try.prog 7 #[.int .u64 m, v, .string s] w fun e w' => e = .returned (.bool true) ∧ Below w.heap.size w w' := by
  obtain ⟨m', rfl⟩ : ∃ m' : Nat, m = m' := ⟨m.toNat, by omega⟩
  refine CardSets_nat m' v (l.map Int.toNat) s w (by omega) ?_ ?_ (by unfold maxLen at hs; omega)
  · rw [bys_of l hl.2, List.length_map]
    exact hl.1
  · intro c hc
    rw [List.mem_map] at hc
    obtain ⟨x, hx, rfl⟩ := hc
    have := hl.2 x hx
    omega

end Go.Proofs.Ytbjehiagaikhoaa
