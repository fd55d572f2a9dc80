/- card: Text, Read, Parse, Mask -/
import Derived.Test.YtbjehiagaikhoaaProg
import Derived.Test.YtbjehiagaikhoaaCardW
import Derived.Lib.IndexLaws
import Derived.Laws.Bits64
namespace Go.Proofs.Ytbjehiagaikhoaa
open Go.RowKit
set_option linter.unusedVariables false
set_option maxRecDepth 100000

/-- the letter of a suit -/
def suitB (s : Nat) : UInt8 := [67, 68, 72, 83].getD s 0
/-- the text of a card -/
def txt (c : Nat) : List UInt8 := [suitB (c / 13), rankB (c % 13)]

theorem suits_cut (r : Nat) (hr : r < 4) : (⟨#[67, 68, 72, 83]⟩ : ByteArray).extract r (r + 1) = ⟨#[suitB r]⟩ := by
  revert hr; revert r; decide

theorem Text_no (c : Nat) (w : World) (hc : c < 256) (h : ¬ c < 52) :
    Calls Try.prog 17 #[.int .u8 (c : Int)] w fun e w' => e = .returned (.tuple #[.string ⟨#[]⟩, .int .i64 41]) ∧ w = w' := by
  have hd : decide (c < 52) = false := by simpa using h
  go_enter Try.func17, Try.ntmps17
  go_wp2_with (go_at_call 20; refine (Right_any c _ hc).mono ?_; rintro e w' ⟨rfl, rfl⟩; rw [hd])
  exact bodyPost_ret (results_tmp2 rfl _ _ _) rfl ⟨rfl, rfl⟩

theorem Text_yes (c : Nat) (w : World) (h : c < 52) :
    Calls Try.prog 17 #[.int .u8 (c : Int)] w fun e w' => e = .returned (.tuple #[vS (txt c), .int .i64 0]) ∧ Below w.heap.size w w' := by
  have hc : c < 256 := by omega
  have hd : decide (c < 52) = true := by simpa using h
  obtain ⟨q, hq⟩ : ∃ q, c / 13 = q := ⟨_, rfl⟩
  obtain ⟨r, hr⟩ : ∃ r, c % 13 = r := ⟨_, rfl⟩
  have hq4 : q < 4 := by omega
  have hr13 : r < 13 := by omega
  unfold txt
  rw [hq, hr]
  go_enter Try.func17, Try.ntmps17
  go_wp2_with (go_at_call 20; refine (Right_any c _ hc).mono ?_; rintro e w' ⟨rfl, rfl⟩; rw [hd])
  go_region
  go_wp2_with fail
  have e1 : (⟨#[67, 68, 72, 83]⟩ : ByteArray).extract q (q + 1) ++ (⟨#[50, 51, 52, 53, 54, 55, 56, 57, 84, 74, 81, 75, 65]⟩ : ByteArray).extract r (r + 1) = ⟨[suitB q, rankB r].toArray⟩ := by
    rw [suits_cut q hq4, ranks_cut r hr13]
    exact cat_one [suitB q] (rankB r)
  rw [e1]
  exact bodyPost_ret (results_tmp2 rfl _ _ _) rfl ⟨rfl, (Below.refl _ _).drew⟩

/-- the place of a byte among the ranks -/
def rankIx (b : UInt8) : Option Nat := if Lib.indexByte [50, 51, 52, 53, 54, 55, 56, 57, 84, 74, 81, 75, 65] b < 0 then none else some (Lib.indexByte [50, 51, 52, 53, 54, 55, 56, 57, 84, 74, 81, 75, 65] b).toNat
def suitIx (b : UInt8) : Option Nat := if Lib.indexByte [67, 68, 72, 83] b < 0 then none else some (Lib.indexByte [67, 68, 72, 83] b).toNat

theorem ix_cases (L : List UInt8) (b : UInt8) : (Lib.indexByte L b = -1 ∧ (if Lib.indexByte L b < 0 then none else some (Lib.indexByte L b).toNat) = none) ∨ ∃ r : Nat, r < L.length ∧ Lib.indexByte L b = (r : Int) ∧ (if Lib.indexByte L b < 0 then none else some (Lib.indexByte L b).toNat) = some r := by
  have h1 := Lib.indexByte_ge L b
  by_cases h : Lib.indexByte L b = -1
  · left; rw [h]; exact ⟨rfl, rfl⟩
  · right
    obtain ⟨r, hr⟩ : ∃ r : Nat, Lib.indexByte L b = (r : Int) := ⟨(Lib.indexByte L b).toNat, by omega⟩
    have h2 := (Lib.indexByte_some hr).1
    refine ⟨r, (List.getElem?_eq_some_iff.1 h2).1, hr, ?_⟩
    rw [hr, if_neg (by omega)]
    simp

theorem or_bit (m e : Nat) (hm : m < 4503599627370496) (he : e < 52) : bits BinOp.or IntKind.u64 (m : Int) (IntKind.u64.wrap (2 ^ e)) = ((m ||| 2 ^ e : Nat) : Int) ∧ m ||| 2 ^ e < 4503599627370496 := by
  have h1 : (2 : Nat) ^ e < 2 ^ 52 := Nat.pow_lt_pow_right (by decide) he
  have h2 : m ||| 2 ^ e < 2 ^ 52 := Nat.or_lt_two_pow hm h1
  refine ⟨?_, h2⟩
  have h3 : ((2 : Int) ^ e) = ((2 ^ e : Nat) : Int) := by simp
  rw [h3]
  obtain ⟨z, hz⟩ : ∃ z : Nat, 2 ^ e = z := ⟨_, rfl⟩
  rw [hz] at h1 ⊢
  have h4 : z < 4503599627370496 := h1
  rw [IntKind.wrap_u64, Int.emod_eq_of_lt (by omega) (by omega)]
  exact u64_or_nat _ _ (by omega) (by omega)

theorem byte_back (b : UInt8) : ((b.toNat : Int)).toNat.toUInt8 = b := by
  simp

/-- what Read answers -/
def readN (l : List UInt8) : Option Nat :=
  match l with
  | [a, b] =>
    match suitIx a, rankIx b with
    | some p, some q => some (13 * p + q)
    | _, _ => none
  | _ => none

def vRead : Option Nat → Value
  | none => .tuple #[.int .u8 0, .int .i64 40]
  | some c => .tuple #[.int .u8 c, .int .i64 0]

theorem Read_any (s : ByteArray) (w : World) :
    Calls Try.prog 18 #[.string s] w fun e w' => e = .returned (vRead (readN s.data.toList)) ∧ Below w.heap.size w w' := by
  by_cases h2 : s.size = 2
  · have h0 : 0 < s.size := by omega
    have h1 : 1 < s.size := by omega
    obtain ⟨a, ha⟩ : ∃ a, s[0] = a := ⟨_, rfl⟩
    obtain ⟨b, hb⟩ : ∃ b, s[1] = b := ⟨_, rfl⟩
    have hl : s.data.toList = [a, b] := by
      rw [← ha, ← hb]
      refine List.ext_getElem (by rw [Array.length_toList]; exact h2) ?_
      intro i i1 i2
      have h3 : i = 0 ∨ i = 1 := by have := i2; simp at this; omega
      rcases h3 with rfl | rfl <;> rfl
    rw [hl]
    have ba : (((a.toNat : Nat) : Int)).toNat.toUInt8 = a := byte_back a
    have bb : (((b.toNat : Nat) : Int)).toNat.toUInt8 = b := byte_back b
    rcases ix_cases [67, 68, 72, 83] a with ⟨x1, x2⟩ | ⟨p, x0, x1, x2⟩
    · have hv : vRead (readN [a, b]) = .tuple #[.int .u8 0, .int .i64 40] := by
        simp only [readN, suitIx]
        rw [x2]
        rfl
      rw [hv]
      go_enter Try.func18, Try.ntmps18
      go_wp2
      go_quiet ((go_at_call 36; refine (Try.strings_IndexByte _ _ _).mono ?_; rintro e w' ⟨rfl, rfl⟩; exact ⟨rfl, _, rfl⟩))
      go_wp2
      exact bodyPost_ret (results_tmp2 rfl _ _ _) rfl ⟨rfl, Below.drewN (Below.refl _ _) _⟩
    · rcases ix_cases [50, 51, 52, 53, 54, 55, 56, 57, 84, 74, 81, 75, 65] b with ⟨y1, y2⟩ | ⟨q, y0, y1, y2⟩
      · have hv : vRead (readN [a, b]) = .tuple #[.int .u8 0, .int .i64 40] := by
          simp only [readN, suitIx, rankIx]
          rw [x2, y2]
          rfl
        rw [hv]
        go_enter Try.func18, Try.ntmps18
        go_wp2
        go_quiet ((go_at_call 36; refine (Try.strings_IndexByte _ _ _).mono ?_; rintro e w' ⟨rfl, rfl⟩; exact ⟨rfl, _, rfl⟩))
        go_wp2
        exact bodyPost_ret (results_tmp2 rfl _ _ _) rfl ⟨rfl, Below.drewN (Below.refl _ _) _⟩
      · have hp4 : p < 4 := x0
        have hq13 : q < 13 := y0
        have hv : vRead (readN [a, b]) = .tuple #[.int .u8 (13 * p + q : Nat), .int .i64 0] := by
          simp only [readN, suitIx, rankIx]
          rw [x2, y2]
          rfl
        rw [hv]
        clear x0 y0
        go_enter Try.func18, Try.ntmps18
        go_wp2
        go_quiet ((go_at_call 36; refine (Try.strings_IndexByte _ _ _).mono ?_; rintro e w' ⟨rfl, rfl⟩; exact ⟨rfl, _, rfl⟩))
        go_wp2
        exact bodyPost_ret (results_tmp2 rfl _ _ _) rfl ⟨rfl, Below.drewN (Below.refl _ _) _⟩
  · have hv : vRead (readN s.data.toList) = .tuple #[.int .u8 0, .int .i64 40] := by
      have hlen : s.data.toList.length ≠ 2 := by rw [Array.length_toList]; exact h2
      obtain ⟨l, hl⟩ : ∃ l, s.data.toList = l := ⟨_, rfl⟩
      rw [hl] at hlen ⊢
      match l, hlen with
      | [], _ => rfl
      | [a], _ => rfl
      | [a, b], h => exact absurd rfl h
      | a :: b :: c :: l, _ => rfl
    rw [hv]
    go_enter Try.func18, Try.ntmps18
    go_wp2
    exact bodyPost_ret (results_tmp2 rfl _ _ _) rfl ⟨rfl, Below.refl _ _⟩

/-- the loop of Parse -/
def pgo : Nat → Nat → List UInt8 → Option Nat
  | _, m, [] => some m
  | su, m, b :: l => if b = 46 ∧ 0 < su then pgo (su - 1) m l else
    match rankIx b with
    | none => none
    | some r => pgo su (m ||| 2 ^ (13 * su + r)) l

/-- what Parse answers -/
def parseN (l : List UInt8) : Option Nat :=
  match pgo 3 0 l with
  | none => none
  | some m => if wtext m = l then some m else none

def vParse : Option Nat → Value
  | none => .tuple #[.int .u64 0, .int .i64 40]
  | some m => .tuple #[.int .u64 m, .int .i64 0]

theorem Parse_any (s : ByteArray) (w : World) (hs : s.size ≤ 9223372036854775807) :
    Calls Try.prog 25 #[.string s] w fun e w' => e = .returned (vParse (parseN s.data.toList)) ∧ Below w.heap.size w w' := by
  have hsz : s.data.toList.length = s.size := by rw [Array.length_toList]; rfl
  obtain ⟨R, hR⟩ : ∃ R, pgo 3 0 s.data.toList = R := ⟨_, rfl⟩
  have HR := Lib.hid hR
  clear hR
  go_enter Try.func25, Try.ntmps25
  go_wp2
  go_loopw [4, 5, 12] (fun m su i wr => ∃ (m' su' i' : Nat), m = .int .u64 m' ∧ su = .int .i64 su' ∧ i = .int .i64 i' ∧ i' ≤ s.size ∧ su' ≤ 3 ∧ m' < 4503599627370496 ∧ Hid (pgo su' m' (s.data.toList.drop i') = R) ∧ w = wr) (fun _ _ i _ => s.size - (intOf i).toNat)
  case atStart => exact ⟨0, 3, 0, rfl, rfl, rfl, by omega, by omega, by omega, HR, rfl⟩
  case round =>
    obtain ⟨m, su, i, rfl, rfl, rfl, hi, hsu, hm, hG, rfl⟩ := hrel
    by_cases h : i < s.size
    · have hg : s.data.toList.drop i = s[i] :: s.data.toList.drop (i + 1) := by
        rw [List.drop_eq_getElem_cons (by omega)]
        rfl
      have hG' := hG.out
      rw [hg] at hG'
      obtain ⟨b, hb⟩ : ∃ b, s[i] = b := ⟨_, rfl⟩
      rw [hb] at hG'
      have hbt : (((b.toNat : Nat) : Int)).toNat.toUInt8 = b := byte_back b
      by_cases hdot : b = 46 ∧ 0 < su
      · obtain ⟨hd1, hd2⟩ := hdot
        have hG2 : pgo (su - 1) m (s.data.toList.drop (i + 1)) = R := by
          rw [← hG']
          conv => rhs; unfold pgo
          rw [if_pos ⟨hd1, hd2⟩]
        have HG2 := Lib.hid hG2
        clear hG' hg hG2
        subst hd1
        go_wp2
        go_roundw
        case rel => exact ⟨m, su - 1, i + 1, rfl, by go_num, by go_num, by omega, by omega, hm, HG2, trivial⟩
        case measure => simp [intOf]; omega
      · have hnd : (b = 46 → su = 0) := fun e => Nat.eq_zero_of_not_pos (fun h0 => hdot ⟨e, h0⟩)
        have hG2 : (match rankIx b with
          | none => none
          | some r => pgo su (m ||| 2 ^ (13 * su + r)) (s.data.toList.drop (i + 1))) = R := by
          rw [← hG']
          conv => rhs; unfold pgo
          rw [if_neg hdot]
        simp only [rankIx] at hG2
        by_cases hb46 : b = 46
        · have hsu0 := hnd hb46
          subst hsu0
          subst hb46
          have hi46 : Lib.indexByte [50, 51, 52, 53, 54, 55, 56, 57, 84, 74, 81, 75, 65] 46 = -1 := by decide
          have hR0 : (none : Option Nat) = R := by rw [← hG2, hi46]; rfl
          have hv : vParse (parseN s.data.toList) = .tuple #[.int .u64 0, .int .i64 40] := by
            unfold parseN
            rw [HR.out, ← hR0]
            rfl
          clear hG2 hG' hg hR0 hdot hnd
          go_wp2_with (go_at_call 36; refine (Try.strings_IndexByte _ _ _).mono ?_; rintro e w' ⟨rfl, rfl⟩)
          exact bodyPost_ret (results_tmp2 rfl _ _ _) rfl ⟨by rw [hv]; rfl, Below.refl _ _⟩
        · have hn46 : (((b.toNat : Nat) : Int) == 46) = false := by
            rw [beq_eq_false_iff_ne]
            intro e
            apply hb46
            have e2 : b.toNat = 46 := by omega
            exact UInt8.toNat_inj.1 e2
          rcases ix_cases [50, 51, 52, 53, 54, 55, 56, 57, 84, 74, 81, 75, 65] b with ⟨x1, x2⟩ | ⟨r, x0, x1, x2⟩
          · rw [x2] at hG2
            have hv : vParse (parseN s.data.toList) = .tuple #[.int .u64 0, .int .i64 40] := by
              unfold parseN
              rw [HR.out, ← hG2]
              rfl
            clear hG2 hG' hg hdot hnd x2
            go_wp2_with (go_at_call 36; refine (Try.strings_IndexByte _ _ _).mono ?_; rintro e w' ⟨rfl, rfl⟩)
            exact bodyPost_ret (results_tmp2 rfl _ _ _) rfl ⟨by rw [hv]; rfl, Below.refl _ _⟩
          · have hr13 : r < 13 := x0
            rw [x2] at hG2
            have HG2 := Lib.hid hG2
            obtain ⟨o1, o2⟩ := or_bit m (13 * su + r) hm (by omega)
            clear x0 hG2 hG' hg hdot hnd x2
            go_wp2_with (go_at_call 36; refine (Try.strings_IndexByte _ _ _).mono ?_; rintro e w' ⟨rfl, rfl⟩)
            go_roundw
            case rel => exact ⟨m ||| 2 ^ (13 * su + r), su, i + 1, by first | rfl | rw [o1], rfl, by go_num, by omega, hsu, o2, HG2, trivial⟩
            case measure => simp [intOf]; omega
    · obtain rfl : i = s.size := by omega
      have hG' := hG.out
      rw [List.drop_of_length_le (by omega)] at hG'
      have hP : parseN s.data.toList = if wtext m = s.data.toList then some m else none := by
        unfold parseN
        rw [HR.out, ← hG']
        cases su <;> rfl
      by_cases hw : wtext m = s.data.toList
      · rw [if_pos hw] at hP
        go_wp2_with (go_at_call 19; refine (Write_yes m _ hm).mono ?_; rintro e w' ⟨rfl, hbw⟩)
        exact bodyPost_ret (results_tmp2 rfl _ _ _) rfl ⟨by rw [hP]; rfl, hbw⟩
      · rw [if_neg hw] at hP
        have hnb : (wtext m == s.toList) = false := by
          rw [beq_eq_false_iff_ne]
          intro e
          exact hw (e.trans (Lib.toList_data s))
        go_wp2_with (go_at_call 19; refine (Write_yes m _ hm).mono ?_; rintro e w' ⟨rfl, hbw⟩)
        exact bodyPost_ret (results_tmp2 rfl _ _ _) rfl ⟨by rw [hP]; rfl, hbw⟩

end Go.Proofs.Ytbjehiagaikhoaa
