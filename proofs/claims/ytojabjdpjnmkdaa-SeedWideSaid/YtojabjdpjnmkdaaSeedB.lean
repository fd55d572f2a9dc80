/- slices.Clone at []int, and Shuffle -/
import Derived.Test.YtojabjdpjnmkdaaProg
import Derived.Test.YtojabjdpjnmkdaaSeedA
namespace Go.Proofs.Ytojabjdpjnmkdaa
open Go.RowKit
set_option linter.unusedVariables false
set_option maxRecDepth 100000

theorem info_int : (Try.prog.info? 3).map (fun i => (i.zero, i.size, i.bytes)) = some (some (.int .i64 0), 1, 8) := by kernel_rfl

theorem eql_nil (a : Option Addr) (n c : Nat) (w : World) : (binOp .eql 23 (.slice a n c) (.slice none 0 0)).run Try.prog w = .ok (.bool a.isNone) w :=
  Lib.run_eql_slice_nil w 23 3 a n c 0 0 Try.underlying23

theorem Clone_nil (w : World) : Calls Try.prog 35 #[.slice none 0 0] w fun e w' => e = .returned (.slice none 0 0) ∧ w = w' := by
  have hn := eql_nil
  go_enter Try.func35, Try.ntmps35
  go_wp2
  go_ret
  exact ⟨rfl, rfl⟩

theorem Clone_some (ad : Addr) (c : Nat) (l : List Int) (w : World) (hl : l.length ≤ 10000) (hc : ∀ j u, (ints l)[j]? = some u → (w.alloc (.cells #[] 3)).cell? (ad.add j) = some u) :
    Calls Try.prog 35 #[.slice (some ad) l.length c] w fun e w' => (∃ v, e = .returned v ∧ w'.ownsRow w.heap.size 3 1 v l.length (ints l)) ∧ Below w.heap.size w w' := by
  obtain ⟨i0, hi, hz0, hz1, hz2⟩ := info_parts info_int
  have hn := eql_nil (some ad) l.length c
  have C2 := Lib.hid hc
  clear hc
  have hown0 := World.ownsRow_made (base := w.heap.size) (e := 3) (size := 1) w #[] 0 (Nat.le_refl _) (by simp [maxLen]) rfl
  have HO := Lib.hid hown0
  clear hown0
  go_enter Try.func35, Try.ntmps35
  go_wp2_with (at_builtin; refine wpList_append_own _ rfl _ _ 23 rfl w.heap.size 3 i0 (.int .i64 0) 1 8 Try.underlying23 hi hz0 hz1 hz2 rfl (by decide) _ _ _ rfl HO.out ad l.length c (ints l) rfl (by simp) C2.out (ints_one l) (by simp [maxLen]; omega) (by omega) (by simp) ?_; intro v' w1 hown hgrow _)
  go_ret
  exact ⟨⟨v', rfl, by simpa using hown⟩, below_append ((Below.refl w.heap.size w).alloc (Nat.le_refl _) _) hgrow HO.out (Nat.le_refl _) (by simp)⟩

/-- Clone of whatever reads as l -/
theorem Clone_any (v : Value) (l : List Int) (w : World) (hl : l.length ≤ 10000) (hr : Rd w.heap.size w 1 v l.length (ints l)) :
    Calls Try.prog 35 #[v] w fun e w' => (∃ v, e = .returned v ∧ w'.ownsRow w.heap.size 3 1 v l.length (ints l)) ∧ Below w.heap.size w w' := by
  rcases hr.2 with ⟨hn, a, c, rfl, hz⟩ | ⟨_, b, off, c, rfl, hlt, _, _, _, hc⟩
  · obtain rfl : l = [] := List.eq_nil_of_length_eq_zero hn
    cases a with
    | none =>
      obtain rfl : c = 0 := hz rfl
      refine (Clone_nil w).mono ?_
      rintro e w' ⟨rfl, rfl⟩
      exact ⟨⟨_, rfl, World.ownsRow_nil _ _ _ _⟩, Below.refl _ _⟩
    | some ad => exact Clone_some ad c [] w hl (fun j u h => by simp [ints] at h)
  · exact Clone_some ⟨b, off, none⟩ c l w hl (news_of ((Below.refl w.heap.size w).alloc (Nat.le_refl _) (.cells #[] 3)) hlt (by simpa using hc))

/-- the swaps of Shuffle, from the last place down -/
def shuf : Nat → Int → List Int → Int × List Int
  | 0, s, l => (s, l)
  | i + 1, s, l => shuf i (belowI s (i + 2)).1 ((l.set (i + 1) (l.getD (belowI s (i + 2)).2.toNat 0)).set (belowI s (i + 2)).2.toNat (l.getD (i + 1) 0))

theorem shuf_succ (i : Nat) (s : Int) (l : List Int) : shuf (i + 1) s l = shuf i (belowI s (i + 2)).1 ((l.set (i + 1) (l.getD (belowI s (i + 2)).2.toNat 0)).set (belowI s (i + 2)).2.toNat (l.getD (i + 1) 0)) := rfl

theorem Shuffle_bad (s : Int) (a : Option Addr) (n c : Nat) (w : World) (h : s < 1 ∨ 2147483646 < s) :
    Calls Try.prog 18 #[.int .i64 s, .slice a n c] w fun e w' => e = .returned (.tuple #[.int .i64 0, .slice none 0 0, .int .i64 2]) ∧ Below w.heap.size w w' := by
  go_enter Try.func18, Try.ntmps18
  go_wp2_with (go_at_call 15; refine (Right_no _ _ h).mono ?_; rintro e w' ⟨rfl, rfl⟩)
  go_ret3
  exact ⟨rfl, Below.refl _ _⟩

theorem Shuffle_long (s : Int) (a : Option Addr) (n c : Nat) (w : World) (h0 : 1 ≤ s) (h1 : s ≤ 2147483646) (hn : 10000 < n) :
    Calls Try.prog 18 #[.int .i64 s, .slice a n c] w fun e w' => e = .returned (.tuple #[.int .i64 0, .slice none 0 0, .int .i64 5]) ∧ Below w.heap.size w w' := by
  go_enter Try.func18, Try.ntmps18
  go_wp2_with (go_at_call 15; refine (Right_yes _ _ h0 h1).mono ?_; rintro e w' ⟨rfl, rfl⟩)
  go_ret3
  exact ⟨rfl, Below.refl _ _⟩

theorem Shuffle_any (s0 : Int) (a : Option Addr) (c : Nat) (l0 : List Int) (w : World) (h0 : 1 ≤ s0) (h1 : s0 ≤ 2147483646) (hl : l0.length ≤ 10000) (hr : Rd w.heap.size w 1 (.slice a l0.length c) l0.length (ints l0)) :
    Calls Try.prog 18 #[.int .i64 s0, .slice a l0.length c] w fun e w' => (∃ v, e = .returned (.tuple #[.int .i64 (shuf (l0.length - 1) s0 l0).1, v, .int .i64 0]) ∧ w'.ownsRow w.heap.size 3 1 v l0.length (ints (shuf (l0.length - 1) s0 l0).2)) ∧ Below w.heap.size w w' := by
  have HR := Lib.hid hr
  clear hr
  go_enter Try.func18, Try.ntmps18
  go_wp2_with (first
    | (go_at_call 15; refine (Right_yes _ _ h0 h1).mono ?_; rintro e w' ⟨rfl, rfl⟩)
    | (go_at_call 35; refine (Clone_any _ l0 _ hl HR.out).mono ?_; rintro e w1 ⟨⟨v1, rfl, hown⟩, hb1⟩; obtain ⟨a1, c1, rfl⟩ := own_shape hown))
  go_loopw [0, 8, 9] (fun s i j wr => ∃ (s' : Int) (k : Int) (l : List Int), s = .int .i64 s' ∧ i = .int .i64 k ∧ -1 ≤ k ∧ k < l0.length ∧ l.length = l0.length ∧ 1 ≤ s' ∧ s' ≤ 2147483646 ∧ wr.ownsRow w.heap.size 3 1 (.slice a1 l0.length c1) l0.length (ints l) ∧ Below w.heap.size w wr ∧ Hid (shuf k.toNat s' l = shuf (l0.length - 1) s0 l0)) (fun _ i _ _ => (intOf i).toNat)
  case atStart => exact ⟨s0, (l0.length : Int) - 1, l0, rfl, rfl, by omega, by omega, rfl, h0, h1, hown, hb1, by
    rw [show ((l0.length : Int) - 1).toNat = l0.length - 1 from by omega]; exact rfl⟩
  case round =>
    obtain ⟨s', k, l, rfl, rfl, hk0, hk1, hll, hs0, hs1, hown', hb', hsh⟩ := hrel
    by_cases hk : k < 1
    · go_wp2_with fail
      go_ret3
      refine ⟨⟨_, by
        have e := hsh.out
        rw [show k.toNat = 0 from by omega] at e
        rw [← e]
        rfl, ?_⟩, hb'⟩
      have e := hsh.out
      rw [show k.toNat = 0 from by omega] at e
      rw [← e]
      exact hown'
    · have hk' : 0 < k := by omega
      obtain ⟨i, rfl⟩ : ∃ i : Nat, k = (i : Int) + 1 := ⟨(k - 1).toNat, by omega⟩
      clear hk
      obtain ⟨g, rfl, hg0, hg1, -, hc0, hc1⟩ := own_some hown' (by omega)
      have hbd := drawI_state ((i : Int) + 1 + 1) (by omega) 101 s' 0 hs0 hs1 (by omega) (by omega)
      change _ ≤ (belowI s' ((i : Int) + 1 + 1)).1 ∧ (belowI s' ((i : Int) + 1 + 1)).1 ≤ _ ∧ _ ≤ (belowI s' ((i : Int) + 1 + 1)).2 ∧ (belowI s' ((i : Int) + 1 + 1)).2 < _ at hbd
      obtain ⟨r, hr⟩ : ∃ r, belowI s' ((i : Int) + 1 + 1) = r := ⟨_, rfl⟩
      rw [hr] at hbd
      obtain ⟨r1, r2⟩ := r
      simp only at hbd
      obtain ⟨b1, b2, b3, b4⟩ := hbd
      obtain ⟨q, rfl⟩ := Int.eq_ofNat_of_zero_le b3
      have HRR := Lib.hid hr
      clear hr
      go_wp2_with (go_at_call 17; refine (Below_yes _ _ _ hs0 hs1 (by omega) (by omega)).mono ?_; rintro e w2 ⟨rfl, hb2⟩; rw [HRR.out])
      have own2 := own_below hown' hb2
      obtain ⟨x, hx⟩ : ∃ x, l.getD (i + 1) 0 = x := ⟨_, rfl⟩
      obtain ⟨y, hy⟩ : ∃ y, l.getD q 0 = y := ⟨_, rfl⟩
      have cx : w2.cell? ⟨g, i + 1, none⟩ = some (.int .i64 x) := by
        rw [own2.cellAt (i + 1) (by omega), ints_get _ _ (by omega), hx]
      have cy : w2.cell? ⟨g, q, none⟩ = some (.int .i64 y) := by
        rw [own2.cellAt q (by omega), ints_get _ _ (by omega), hy]
      have fx := own2.frozenAt (i + 1)
      have fy := own2.frozenAt q
      obtain ⟨z, cz⟩ := cell?_setCell_some (x := .int .i64 y) (p := ⟨g, i + 1, none⟩) cy
      have HX := Lib.hid hx
      have HY := Lib.hid hy
      have HO := Lib.hid own2
      clear hx hy own2 hown hown'
      go_region
      go_wp2_with fail
      go_roundw
      case rel =>
        have o3 := (HO.out.stored (i + 1) (.int .i64 y)).1
        have o4 := (o3.stored q (.int .i64 x)).1
        rw [ints_set, ints_set] at o4
        refine ⟨r1, (i : Int), (l.set (i + 1) y).set q x, rfl, rfl, by omega, by omega, by simpa using hll, b1, b2, o4, ?_, ?_⟩
        · exact (((hb'.trans (hb2.mono (by have := hb'.size; omega))).drew.setCell (p := ⟨g, i + 1, none⟩) hg0 _).setCell (p := ⟨g, q, none⟩) hg0 _)
        · have e := hsh.out
          rw [show ((i : Int) + 1).toNat = i + 1 from by omega, shuf_succ, show ((i : Int) + 2) = (i : Int) + 1 + 1 from by omega, HRR.out] at e
          dsimp only at e
          rw [Int.toNat_natCast, HX.out, HY.out] at e
          rw [Int.toNat_natCast]
          exact e
      case measure => simp [intOf]
end Go.Proofs.Ytojabjdpjnmkdaa
