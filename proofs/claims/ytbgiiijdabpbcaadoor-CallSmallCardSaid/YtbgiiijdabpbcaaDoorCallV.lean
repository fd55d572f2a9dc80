/- call: ReadAll -/
import Derived.Test.YtbgiiijdabpbcaaDoorProg
import Derived.Test.YtbgiiijdabpbcaaDoorCallU
import Derived.ChangeAgain
namespace Go.Proofs.YtbgiiijdabpbcaaDoor
open Go.RowKit
set_option linter.unusedVariables false
set_option linter.unusedSimpArgs false
set_option maxRecDepth 100000
set_option maxHeartbeats 2000000

theorem shaped_later {w w' : World} {B : Nat} (h : w.ShapedOpen Tryd.prog) (hb : Below B w w') (hB : w.heap.size ≤ B) : w'.ShapedOpen Tryd.prog :=
  h.keptBut ((hb.mono hB).frame (fun _ => False)) (fun _ hp => hp.elim)

def readL (s : List UInt8) : List Nat := (readAllN s).getD []
def readE (s : List UInt8) : Nat := if (readAllN s).isSome = true then 0 else 81

def SomeRowE (B : Nat) (W w' : World) (L : List Nat) (E : Nat) (e : Ending) : Prop := ∃ v, e = .returned (.tuple #[v, .int .i64 (E : Int)]) ∧ w'.ownsRow B 5 1 v L.length (bys L) ∧ Below B W w'

theorem readWs_cons (w : List UInt8) (ws : List (List UInt8)) : readWs (w :: ws) = match readC w with | none => none | some c => (match readWs ws with | none => none | some l => some (c :: l)) := rfl

theorem ReadAll_any (s : ByteArray) (w : World) (hden : Den w) (hsh : w.ShapedOpen Tryd.prog) (hs : s.size ≤ 1400) :
    Calls Tryd.prog 21 #[.string s] w fun e w' => SomeRowE w.heap.size w w' (readL s.data.toList) (readE s.data.toList) e := by
  have h00 := hden.2
  by_cases hse : s = ⟨#[]⟩
  · subst hse
    have h1 : readL (⟨#[]⟩ : ByteArray).data.toList = [] := rfl
    have h2 : readE (⟨#[]⟩ : ByteArray).data.toList = 0 := rfl
    rw [h1, h2]
    clear hsh hden
    go_enter Tryd.func21, Tryd.ntmps21
    go_wp2
    refine bodyPost_ret (results_tmp2 rfl _ _ _) rfl ?_
    exact ⟨_, rfl, ⟨rfl, .inl ⟨rfl, rfl⟩⟩, Below.refl _ _⟩
  · have hsl : s.data.toList ≠ [] := fun e => hse (by apply ByteArray.ext; apply Array.toList_inj.1; rw [e])
    have hne : (s.toList == []) = false := by rw [beq_eq_false_iff_ne]; exact fun e => hsl ((Lib.toList_data s).symm.trans e)
    have hne2 : s.toList.isEmpty = false := by rw [← Bool.not_eq_true, List.isEmpty_iff]; exact fun e => hsl ((Lib.toList_data s).symm.trans e)
    obtain ⟨P, hP⟩ : ∃ P, Lib.splitB ⟨#[32]⟩ 0 (Lib.countB s ⟨#[32]⟩) s = P := ⟨_, rfl⟩
    have hPw : P.map (·.data.toList) = words s.data.toList := by
      rw [← hP, Lib.splitB_data]
      exact split_words s.data.toList
    have hPl : P.length = Lib.countB s ⟨#[32]⟩ + 1 := by rw [← hP]; exact Lib.splitB_all ⟨#[32]⟩ (by decide) 0 _ s rfl
    have hcs := Tryd.strings_Split_shaped s ⟨#[32]⟩ w hsh (by omega) (by decide)
    rw [← hPl, hP] at hcs
    have hlenb : P.length ≤ 1401 := by rw [hPl]; have := Lib.countB_le ⟨#[32]⟩ (by decide) s.size s (Nat.le_refl _); omega
    have HS := Lib.hid hcs
    have HD := Lib.hid hden
    clear hcs hden hsh hP hPl
    obtain ⟨n, hn⟩ : ∃ n, P.length = n := ⟨_, rfl⟩
    rw [hn] at hlenb
    have HN := Lib.hid hn
    obtain ⟨W1, hW1⟩ : ∃ W1, w.alloc (.cells (P.map Value.string).toArray 9) = W1 := ⟨_, rfl⟩
    have hcs : Calls Tryd.prog 40 #[.string s, .string ⟨#[32]⟩] w fun e w' => e = .returned (.slice (some ⟨w.heap.size, 0, none⟩) n n) ∧ W1 = w' := by
      rw [← hn]
      exact HS.out.mono fun e w' ⟨he, hw⟩ => ⟨he, by rw [← hW1, hw]⟩
    have hrow : Row W1 w.heap.size 9 (P.map Value.string).toArray := by rw [← hW1]; exact Row.new _ _ _
    have hbl : Below w.heap.size w W1 := by rw [← hW1]; exact (Below.refl _ _).alloc (Nat.le_refl _) _
    have hszW : W1.heap.size = w.heap.size + 1 := by rw [← hW1]; simp
    have HS2 := Lib.hid hcs
    clear hcs HS hn hW1
    obtain ⟨L, hL⟩ : ∃ L, readL s.data.toList = L := ⟨_, rfl⟩
    obtain ⟨E, hE⟩ : ∃ E, readE s.data.toList = E := ⟨_, rfl⟩
    rw [hL, hE]
    obtain ⟨i0, hinf, hz0, hz1, hz2⟩ := info_parts info_u8
    by_cases h319 : 319 < n
    · have hra : readAllN s.data.toList = none := by
        unfold readAllN
        rw [if_neg hsl, ← hPw, List.length_map, HN.out, if_pos h319]
      have hL0 : L = [] := by rw [← hL]; unfold readL; rw [hra]; rfl
      have hE0 : E = 81 := by rw [← hE]; unfold readE; rw [hra]; rfl
      subst hL0
      subst hE0
      clear hL hE hra hPw
      have g : (319 : Int) < (n : Int) := by omega
      go_enter Tryd.func21, Tryd.ntmps21
      go_wp2_with (go_at_call 40; refine HS2.out.mono ?_; rintro e w' ⟨rfl, rfl⟩)
      refine bodyPost_ret (results_tmp2 rfl _ _ _) rfl ?_
      exact ⟨_, rfl, ⟨rfl, .inl ⟨rfl, rfl⟩⟩, hbl⟩
    · have hra : readAllN s.data.toList = readWs (P.map (·.data.toList)) := by
        unfold readAllN
        rw [if_neg hsl, ← hPw, List.length_map, HN.out, if_neg h319]
      obtain ⟨R, hR⟩ : ∃ R, readWs (P.map (·.data.toList)) = R := ⟨_, rfl⟩
      rw [hR] at hra
      have hL2 : L = R.getD [] := by rw [← hL]; unfold readL; rw [hra]
      have hE2 : E = if R.isSome = true then 0 else 81 := by rw [← hE]; unfold readE; rw [hra]
      have hR0 : (match readWs ((P.drop 0).map (·.data.toList)) with | none => none | some r => some ([] ++ r)) = R := by
        rw [List.drop_zero, hR]
        cases R <;> rfl
      have HR := Lib.hid hR0
      have HLE := Lib.hid (And.intro hL2 hE2)
      have HRow := Lib.hid hrow
      clear hL hE hra hPw hR hL2 hE2 hR0 hrow
      have g : ¬ ((319 : Int) < (n : Int)) := by omega
      go_enter Tryd.func21, Tryd.ntmps21
      go_wp2_with (go_at_call 40; refine HS2.out.mono ?_; rintro e w' ⟨rfl, rfl⟩)
      go_loopw [5, 19] (fun o i wr => ∃ (k : Nat) (pre : List Nat), i = .int .i64 k ∧ k ≤ n ∧ pre.length = k ∧ wr.ownsRow (w.heap.size + 1) 5 1 o pre.length (bys pre) ∧ Below W1.heap.size W1 wr ∧ Hid ((match readWs ((P.drop k).map (·.data.toList)) with | none => none | some r => some (pre ++ r)) = R)) (fun _ i _ => n - (intOf i).toNat)
      case atStart => exact ⟨0, [], rfl, by omega, rfl, ⟨rfl, .inl ⟨rfl, rfl⟩⟩, Below.refl _ _, HR⟩
      case round =>
        obtain ⟨k, pre, rfl, hk, hpl, hown, hB, hG⟩ := hrel
        have hBw : Below w.heap.size w wr := hbl.trans (hB.mono (by omega))
        have hszr := hB.size
        by_cases hlt : k < n
        · have hkP : k < P.length := by have := HN.out; omega
          obtain ⟨p, hp⟩ : ∃ p, P[k] = p := ⟨_, rfl⟩
          have hc : wr.cell? ⟨w.heap.size, k, none⟩ = some (.string p) := by
            rw [hB.cell (p := ⟨w.heap.size, k, none⟩) (by show w.heap.size < W1.heap.size; omega), HRow.out.cell]
            simp [hkP, hp]
          have hG' := hG.out
          rw [List.drop_eq_getElem_cons hkP, hp, List.map_cons, readWs_cons] at hG'
          have hdr : Den wr := HD.out.below hBw h00
          cases hrc : readC p.data.toList with
          | none =>
            rw [hrc] at hG'
            have hv : R = none := hG'.symm
            obtain ⟨hL1, hE1⟩ := HLE.out
            rw [hv] at hL1 hE1
            have HX := Lib.hid (And.intro hrc (And.intro hdr (And.intro hL1 hE1)))
            clear hG' hrc hdr hG hown hp hL1 hE1 hv
            go_wp2_with (go_at_call 20; refine (Read_any p _ HX.out.2.1).mono ?_; rintro e w5 ⟨rfl, hb5⟩; rw [HX.out.1]; simp only [vRead])
            refine bodyPost_ret (results_tmp2 rfl _ _ _) rfl ?_
            obtain ⟨-, -, hL1, hE1⟩ := HX.out
            rw [hL1, hE1]
            exact ⟨_, rfl, ⟨rfl, .inl ⟨rfl, rfl⟩⟩, hBw.trans (hb5.mono hBw.size)⟩
          | some x =>
            rw [hrc] at hG'
            have hx38 := (readC_some hrc).1
            have hG2 : (match readWs ((P.drop (k + 1)).map (·.data.toList)) with | none => none | some r => some ((pre ++ [x]) ++ r)) = R := by
              rw [← hG']
              cases readWs ((P.drop (k + 1)).map (·.data.toList)) <;> simp
            have HX := Lib.hid (And.intro hrc (And.intro hdr (And.intro hown hG2)))
            clear hG' hrc hdr hG hown hp hG2
            go_wp2_with (first
              | (go_at_call 20; refine (Read_any p _ HX.out.2.1).mono ?_; rintro e w5 ⟨rfl, hb5⟩; rw [HX.out.1]; simp only [vRead])
              | (at_builtin; refine stop_of ?_))
            unfold Stop
            obtain ⟨-, -, hown, hG2⟩ := HX.out
            have hown5 := own_below (own_below hown hb5) ((Below.refl w5.heap.size w5).alloc (Nat.le_refl _) (.cells #[.int .u8 (x : Int)] 5))
            have hB5 : Below W1.heap.size W1 (w5.alloc (.cells #[.int .u8 (x : Int)] 5)) := (hB.trans (hb5.mono hB.size)).alloc (hB.trans (hb5.mono hB.size)).size _
            have hnew : ∀ j u, (bys [x])[j]? = some u → (w5.alloc (.cells #[.int .u8 (x : Int)] 5)).cell? ((⟨w5.heap.size, 0, none⟩ : Addr).add j) = some u := by
              intro j u hu
              rw [addr_add, (Row.new w5 5 #[.int .u8 (x : Int)]).cell (0 + j), Nat.zero_add]
              simpa [bys] using hu
            have hbs5 := hB5.size
            refine wpList_append_own _ rfl _ _ 24 rfl (w.heap.size + 1) 5 i0 (.int .u8 0) 1 1 Tryd.underlying24 hinf hz0 hz1 hz2 rfl (by decide) u5 pre.length (bys pre) rfl hown5 ⟨w5.heap.size, 0, none⟩ 1 1 (bys [x]) rfl (by simp) hnew (bys_one [x]) (by unfold maxLen; omega) (by omega) (by omega) ?_
            intro v' w8 hown1 hgrow _
            have hB8 := below_append hB5 hgrow hown5 (by omega) hbs5
            have HY := Lib.hid (And.intro hown1 (And.intro hB8 hG2))
            clear hown1 hgrow hown5 hB5 hnew hG2 hown
            go_wp2_with fail
            go_roundw
            case rel =>
              refine ⟨k + 1, pre ++ [x], by go_num, by omega, by simp; omega, ?_, HY.out.2.1, Lib.hid HY.out.2.2⟩
              rw [bys_append, List.length_append]
              exact HY.out.1
            case measure => simp [intOf]; omega
        · have hR2 : some pre = R := by
            rw [← hG.out, List.drop_of_length_le (by have := HN.out; omega)]
            simp [readWs]
          obtain ⟨hL1, hE1⟩ := HLE.out
          rw [← hR2] at hL1 hE1
          have HX := Lib.hid (And.intro hL1 (And.intro hE1 hown))
          clear hG hL1 hE1 hown hR2
          go_wp2_with fail
          refine bodyPost_ret (results_tmp2 rfl _ _ _) rfl ?_
          obtain ⟨hL1, hE1, hown⟩ := HX.out
          rw [hL1, hE1]
          exact ⟨_, rfl, own_mono hown (by omega), hBw⟩

end Go.Proofs.YtbgiiijdabpbcaaDoor
