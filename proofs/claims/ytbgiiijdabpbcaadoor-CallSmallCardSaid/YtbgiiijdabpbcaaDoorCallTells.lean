/- tells: everything about two numbers is as the reference says -/
import Derived.Test.YtbgiiijdabpbcaaDoorRefCB
import Derived.Test.YtbgiiijdabpbcaaDoorCallAwake
namespace Go.Proofs.YtbgiiijdabpbcaaDoor
open Go.RowKit
set_option linter.unusedVariables false
set_option linter.unusedSimpArgs false
set_option maxRecDepth 100000
set_option maxHeartbeats 2000000

theorem bid_gen (l d : Nat) (hl : l < 256) (hd : d < 256) : ∃ A E : Nat, A < 256 ∧ E < 100 ∧ vBid l d = .tuple #[.int .u8 (A : Int), .int .i64 (E : Int)] := by
  unfold vBid
  by_cases h : 1 ≤ l ∧ l ≤ 7 ∧ d ≤ 4
  · rw [if_pos h]; exact ⟨3 + 5 * (l - 1) + d, 0, by omega, by omega, rfl⟩
  · rw [if_neg h]; exact ⟨0, 2, by omega, by omega, rfl⟩

theorem parts_gen (c : Nat) (hc : c < 256) : ∃ (q r : Nat) (b : Bool), q < 256 ∧ r < 256 ∧ vParts c = .tuple #[.int .u8 (q : Int), .int .u8 (r : Int), .bool b] := by
  unfold vParts
  by_cases h : isBid c = true
  · rw [if_pos h]; exact ⟨lev c, dnm c, true, by unfold lev; omega, by unfold dnm; omega, rfl⟩
  · rw [if_neg h]; exact ⟨0, 0, false, by omega, by omega, rfl⟩

theorem text_gen (c : Nat) (hc : c < 256) : ∃ (T : ByteArray) (E : Nat), E < 100 ∧
    (∀ w, Den w → Calls Tryd.prog 17 #[.int .u8 (c : Int)] w fun e w' => e = .returned (.tuple #[.string T, .int .i64 (E : Int)]) ∧ Below w.heap.size w w') ∧
    (∀ w, Calls Tryd.prog 28 #[.int .u8 (c : Int)] w fun e w' => e = .returned (.tuple #[.string T, .int .i64 (E : Int)]) ∧ Below w.heap.size w w') := by
  by_cases h : c < 38
  · exact ⟨⟨(nm c).toArray⟩, 0, by omega, fun w hd => Text_yes c w h hd, fun w => refText_yes c w h⟩
  · refine ⟨⟨#[]⟩, 80, by omega, fun w hd => (Text_no c w hc h).mono ?_, fun w => refText_no c w hc h⟩
    rintro e w' ⟨rfl, rfl⟩
    exact ⟨rfl, Below.refl _ _⟩

theorem cheap_gen (o d : Nat) : ∃ A E : Nat, vCheap (cheapN o d) = .tuple #[.int .u8 (A : Int), .int .i64 (E : Int)] := ⟨_, _, rfl⟩
theorem jump_gen (o d : Nat) : ∃ A E : Nat, vJump (jumpN o d) = .tuple #[.int .i64 (A : Int), .int .i64 (E : Int)] := ⟨_, _, rfl⟩

theorem tells_any (c d : Nat) (w : World) (hc : c < 256) (hd : d < 256) (hden : Den w) :
    Calls Tryd.prog 10 #[.int .u8 (c : Int), .int .u8 (d : Int)] w fun e w' => e = .returned (.bool true) ∧ Below w.heap.size w w' := by
  obtain ⟨A1, E1, -, -, hv1⟩ := bid_gen c d hc hd
  obtain ⟨q, r, b, -, -, hv2⟩ := parts_gen c hc
  obtain ⟨T, E2, -, ht1, ht2⟩ := text_gen c hc
  obtain ⟨A3, E3, hv3⟩ := cheap_gen c d
  obtain ⟨A4, E4, hv4⟩ := jump_gen c d
  have HV := Lib.hid (And.intro hv1 (And.intro hv2 (And.intro hv3 (And.intro hv4 (And.intro ht1 ht2)))))
  clear hv1 hv2 hv3 hv4 ht1 ht2
  have HD := Lib.hid hden
  have h00 := hden.2
  clear hden
  obtain ⟨R, hR⟩ : ∃ R, decide (c < 38) = R := ⟨_, rfl⟩
  have hB0 : Below w.heap.size w w := Below.refl _ _
  go_enter Tryd.func10, Tryd.ntmps10
  go_wp2_with (first
    | (go_at_call 14; refine (Bid_any c d _ hc hd).mono ?_; rintro e w' ⟨rfl, rfl⟩; rw [HV.out.1])
    | (go_at_call 26; refine (refBid_any c d _ hc hd).mono ?_; rintro e w1 ⟨rfl, hb⟩; rw [HV.out.1]; replace hB0 := hB0.trans (hb.mono hB0.size); clear hb)
    | (go_at_call 13; refine (Parts_any c _ hc).mono ?_; rintro e w' ⟨rfl, rfl⟩; rw [HV.out.2.1])
    | (go_at_call 27; refine (refParts_any c _ hc).mono ?_; rintro e w2 ⟨rfl, hb⟩; rw [HV.out.2.1]; replace hB0 := hB0.trans (hb.mono hB0.size); clear hb)
    | (go_at_call 17; refine (HV.out.2.2.2.2.1 _ (HD.out.below hB0 h00)).mono ?_; rintro e w3 ⟨rfl, hb⟩; replace hB0 := hB0.trans (hb.mono hB0.size); clear hb)
    | (go_at_call 28; refine (HV.out.2.2.2.2.2 _).mono ?_; rintro e w4 ⟨rfl, hb⟩; replace hB0 := hB0.trans (hb.mono hB0.size); clear hb)
    | (go_at_call 15; refine (Cheapest_any c d _ hc hd).mono ?_; rintro e w' ⟨rfl, rfl⟩; rw [HV.out.2.2.1])
    | (go_at_call 29; refine (refCheapest_any c d _ hc hd).mono ?_; rintro e w5 ⟨rfl, hb⟩; rw [HV.out.2.2.1]; replace hB0 := hB0.trans (hb.mono hB0.size); clear hb)
    | (go_at_call 16; refine (Jump_any c d _ hc hd).mono ?_; rintro e w' ⟨rfl, rfl⟩; rw [HV.out.2.2.2.1])
    | (go_at_call 30; refine (refJump_any c d _ hc hd).mono ?_; rintro e w6 ⟨rfl, hb⟩; rw [HV.out.2.2.2.1]; replace hB0 := hB0.trans (hb.mono hB0.size); clear hb)
    | (go_at_call 19; refine (Right_any c _ hc).mono ?_; rintro e w' ⟨rfl, rfl⟩; rw [hR])
    | (go_at_call 31; refine (refRight_any c _ hc).mono ?_; rintro e w7 ⟨rfl, hb⟩; rw [hR]; replace hB0 := hB0.trans (hb.mono hB0.size); clear hb))
  go_ret
  exact ⟨ret_b (by cases R <;> cases b <;> simp), hB0⟩

theorem CallTells_walk (c d : Int) (w : World) (hc : 0 ≤ c ∧ c ≤ 255) (hd : 0 ≤ d ∧ d ≤ 255) (hden : Den w) (hsh : w.ShapedOpen Tryd.prog) :
    Calls Tryd.prog 3 #[.int .u8 c, .int .u8 d] w fun e w' => e = .returned (.bool true) ∧ Below w.heap.size w w' := by
  obtain ⟨c', rfl⟩ : ∃ c' : Nat, c = c' := ⟨c.toNat, by omega⟩
  obtain ⟨d', rfl⟩ : ∃ d' : Nat, d = d' := ⟨d.toNat, by omega⟩
  have HD := Lib.hid (And.intro hden hsh)
  have h00 := hden.2
  clear hden hsh
  go_enter Tryd.func3, Tryd.ntmps3
  go_wp2_with (first
    | (go_at_call 10; refine (tells_any c' d' _ (by omega) (by omega) HD.out.1).mono ?_; rintro e w1 ⟨rfl, hb1⟩)
    | (go_at_call 11; refine (awake_true _ (HD.out.1.below hb1 h00) (shaped_later HD.out.2 hb1 (Nat.le_refl _))).mono ?_; rintro e w2 ⟨rfl, hb2⟩))
  go_ret
  exact ⟨rfl, hb1.trans (hb2.mono hb1.size)⟩

end Go.Proofs.YtbgiiijdabpbcaaDoor
