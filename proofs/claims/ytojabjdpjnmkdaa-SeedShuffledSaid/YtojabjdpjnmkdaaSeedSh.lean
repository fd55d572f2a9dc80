/- SeedShuffled, walked -/
import Derived.Test.YtojabjdpjnmkdaaSeedAwake
import Derived.Test.YtojabjdpjnmkdaaShufPlain
namespace Go.Proofs.Ytojabjdpjnmkdaa
open Go.RowKit
set_option linter.unusedVariables false
set_option maxRecDepth 100000

theorem Rd.take {B : Nat} {w : World} {a : Option Addr} {c n m : Nat} {l : List Int} (h : Rd B w 1 (.slice a n c) n (ints l)) (hm : m ≤ n) : Rd B w 1 (.slice a m c) m (ints (l.take m)) := by
  have hl : l.length = n := by simpa using h.1
  refine ⟨by simp; omega, ?_⟩
  rcases h.2 with ⟨rfl, a', c', hv, hz⟩ | ⟨h0, b, off, c', hv, h1, h2, h3, h4, h5⟩
  · cases hv
    obtain rfl : m = 0 := by omega
    exact .inl ⟨rfl, _, _, rfl, hz⟩
  · cases hv
    rcases Nat.eq_zero_or_pos m with rfl | hp
    · exact .inl ⟨rfl, _, _, rfl, fun h => by cases h⟩
    · refine .inr ⟨hp, b, off, c, rfl, h1, h2, by omega, h4, fun j hj => ?_⟩
      rw [h5 j (by omega)]
      simp only [ints, List.getElem?_map, List.getElem?_take]
      rw [if_pos (by omega)]

theorem Rd.cap {B : Nat} {w : World} {a : Option Addr} {c n : Nat} {xs : List Value} (h : Rd B w 1 (.slice a n c) n xs) : n ≤ c := by
  rcases h.2 with ⟨rfl, _⟩ | ⟨_, _, _, _, hv, _, _, h3, _⟩
  · omega
  · cases hv; exact h3

theorem Shuffle_n (s0 : Int) (a : Option Addr) (c n : Nat) (l0 : List Int) (w : World) (hn : l0.length = n) (h0 : 1 ≤ s0) (h1 : s0 ≤ 2147483646) (hl : n ≤ 10000) (hr : Rd w.heap.size w 1 (.slice a n c) n (ints l0)) :
    Calls Try.prog 18 #[.int .i64 s0, .slice a n c] w fun e w' => (∃ v, e = .returned (.tuple #[.int .i64 (shuf (n - 1) s0 l0).1, v, .int .i64 0]) ∧ w'.ownsRow w.heap.size 3 1 v n (ints (shuf (n - 1) s0 l0).2)) ∧ Below w.heap.size w w' := by
  subst hn
  exact Shuffle_any s0 a c l0 w h0 h1 hl hr

theorem SeedShuffled_walk (n : Int) (v : Value) (l0 : List Int) (w : World) (hn : -9223372036854775808 ≤ n ∧ n ≤ 9223372036854775807) (hl : Rd w.heap.size w 1 v l0.length (l0.map (Value.int .i64)) ∧ ∀ x ∈ l0, -9223372036854775808 ≤ x ∧ x ≤ 9223372036854775807) :
    Calls Try.prog 6 #[.int .i64 n, v] w fun e w' => e = .returned (.bool true) ∧ Below w.heap.size w w' := by
  obtain ⟨n0, n1⟩ := hn
  have hr := hl.1
  clear hl
  change Rd w.heap.size w 1 v l0.length (ints l0) at hr
  have hlen := hr.len
  unfold maxLen at hlen
  have hB : Below w.heap.size w w := Below.refl _ _
  obtain ⟨s, hs⟩ : ∃ s, 1 + n % 2147483646 = s := ⟨_, rfl⟩
  have s0 : 1 ≤ s := by omega
  have s1 : s ≤ 2147483646 := by omega
  obtain ⟨al, cl, rfl⟩ := hr.shape
  obtain ⟨m, hm⟩ : ∃ m, min l0.length 60 = m := ⟨_, rfl⟩
  have hcap := hr.cap
  have rt := hr.take (show m ≤ l0.length by omega)
  obtain ⟨l, hl⟩ : ∃ l, l0.take m = l := ⟨_, rfl⟩
  have hlm : l.length = m := by rw [← hl]; simp; omega
  have m60 : m ≤ 60 := by omega
  have mcap : m ≤ cl := by omega
  rw [hl] at rt
  subst hlm
  have hmin : (if (60 : Int) < (l0.length : Int) then (60 : Int) else (l0.length : Int)) = (l.length : Int) := by split <;> omega
  have RT := Lib.hid rt
  have HS := Lib.hid hs
  clear hs hl hm rt hr
  go_enter Try.func6, Try.ntmps6
  go_wp2_with (first
    | (go_at_call 11; refine (awake_true _).mono ?_; rintro e w2 ⟨rfl, hb2⟩; replace hB := hB.trans (hb2.mono hB.size); clear hb2)
    | (go_at_call 12; refine (Of_any _ _ (by omega) (by omega)).mono ?_; rintro e w' ⟨rfl, rfl⟩; rw [HS.out]))
  have r2 := RT.out.later hB (Nat.le_refl _)
  refine (Shuffle_any s _ _ l _ s0 s1 (by omega) r2).mono ?_
  rintro e w3 ⟨⟨v3, rfl, own3⟩, hb3⟩
  replace hB := hB.trans (hb3.mono hB.size)
  have S3 := hB.size
  obtain ⟨a3, c3, rfl⟩ := own_shape own3
  obtain ⟨i0, hi, hz0, hz1, hz2⟩ := info_parts info_int
  have O3 := Lib.hid own3
  have HB3 := Lib.hid hB
  clear own3 r2 hmin hb3 hB
  go_wp2_with fail
  go_loopw [9, 40] (fun v i wr => ∃ k : Nat, i = .int .i64 k ∧ k ≤ l.length ∧ Below w3.heap.size w3 wr ∧ wr.ownsRow w3.heap.size 3 1 v k (ints (places k))) (fun _ i _ => l.length - (intOf i).toNat)
  case atStart => exact ⟨0, rfl, Nat.zero_le _, Below.refl _ _, World.ownsRow_nil _ _ _ _⟩
  case round =>
    rename_i v9 i9
    obtain ⟨k, rfl, hk, hbr, hown⟩ := hrel
    obtain ⟨a9, c9, rfl⟩ := own_shape hown
    by_cases hk' : k < l.length
    · have hsz := hbr.size
      go_wp2_with (at_builtin; refine wpList_append_own _ rfl _ _ 23 rfl w3.heap.size 3 i0 (.int .i64 0) 1 8 Try.underlying23 hi hz0 hz1 hz2 rfl (by decide) _ _ _ rfl (hown.alloc _) ⟨wr.heap.size, 0, none⟩ 1 1 [.int .i64 (k : Int)] rfl rfl (cell_one_new _ _ _) (by simp [Value.oneCell']) (by simp [maxLen]; omega) (by omega) (by simp; omega) ?_; intro v' w1 hown' hgrow _)
      go_roundw
      case rel =>
        refine ⟨k + 1, by go_num, by omega, below_append (hbr.alloc hsz _) hgrow (hown.alloc _) (Nat.le_refl _) (by simp; omega), ?_⟩
        rw [places_succ]
        simpa [ints] using hown'
      case measure => simp [intOf]; omega
    · obtain rfl : k = l.length := by omega
      clear hk hk'
      go_wp2_with fail
      refine (Shuffle_n s _ _ l.length (places l.length) _ (by simp) s0 s1 (by omega) (Rd.of_own hown)).mono ?_
      rintro e w5 ⟨⟨v5, rfl, own5⟩, hb5⟩
      obtain ⟨a5, c5, rfl⟩ := own_shape own5
      rw [shuf_fst (l.length - 1) s (places l.length) l]
      have hperm := shuf_perm (l.length - 1) s (places l.length) s0 s1 (by simp; omega)
      have hmap := shuf_map (fun k => l.getD k.toNat 0) (l.length - 1) s (places l.length) s0 s1 (by simp; omega)
      rw [places_get l] at hmap
      obtain ⟨o, ho⟩ : ∃ o, (shuf (l.length - 1) s (places l.length)).2 = o := ⟨_, rfl⟩
      rw [ho] at hperm hmap own5
      have hlen5 : o.length = l.length := by rw [← ho, shuf_len]; simp
      have hz5 : 0 ≤ l.length := Nat.zero_le _
      obtain ⟨sA, hsA⟩ : ∃ q, (shuf (l.length - 1) s l).1 = q := ⟨_, rfl⟩
      rw [hsA]
      have HP := Lib.hid hperm
      have HM := Lib.hid hmap
      have H5 := Lib.hid own5
      have HB5 := Lib.hid (hbr.trans (hb5.mono hbr.size))
      have HL5 := Lib.hid hlen5
      have HO5 := Lib.hid ho
      have HA := Lib.hid hsA
      have hsz5 := HB5.out.size
      clear hperm hmap own5 hb5 hbr hlen5 ho hown hsA
      have hz6 : (madeCells (Value.int .i64 0).cells (l.length * 1)).toList = ints (mets l.length (o.take 0)) := by
        rw [List.take_zero, mets_nil, Nat.mul_one]
        show (madeCells #[Value.int .i64 0] l.length).toList = _
        rw [toList_madeCells_one]
        simp [ints]
      have HZ6 := Lib.hid hz6
      clear hz6
      go_wp2_with (at_make; refine wpList_make_full _ rfl _ _ 23 rfl w5.heap.size 3 i0 (.int .i64 0) 1 Try.underlying23 hi hz0 hz1 .i64 .i64 _ _ l.length rfl rfl rfl rfl (by rw [hz2]; omega) (by simp [maxLen]; omega) (Nat.le_refl _) ?_; intro w6 own6 hg6)
      rw [HZ6.out] at own6
      have hb6 : Below w5.heap.size w5 w6 := (Below.refl _ _).grown hg6 (Nat.le_refl _) (fun k e => by cases e)
      go_wp2_with fail
      go_loopw [83] (fun i wr => ∃ k : Nat, i = .int .i64 k ∧ k ≤ l.length ∧ Below w5.heap.size w5 wr ∧ wr.ownsRow w5.heap.size 3 1 (.slice (some ⟨w5.heap.size, 0, none⟩) l.length l.length) l.length (ints (mets l.length (o.take k)))) (fun i _ => l.length - (intOf i).toNat)
      case atStart => exact ⟨0, rfl, Nat.zero_le _, hb6, own6⟩
      case round =>
        obtain ⟨k, rfl, hk, hbr, hown⟩ := hrel
        by_cases hk' : k < l.length
        · have ob : o.getD k 0 ∈ o := by
            rw [show o.getD k 0 = o[k]'(by rw [HL5.out]; exact hk') by simp [List.getD, List.getElem?_eq_getElem (show k < o.length by rw [HL5.out]; exact hk')]]
            exact List.getElem_mem _
          have fb := (places_mem _ _).1 (HP.out.subset ob)
          obtain ⟨f, hf⟩ := Int.eq_ofNat_of_zero_le fb.1
          have f1 : f < l.length := by omega
          have hlo : l.getD f 0 = (shuf (l.length - 1) s l).2.getD k 0 := by
            rw [HM.out, getD_map _ _ _ (by rw [HL5.out]; exact hk'), hf]
            rfl
          obtain ⟨g5, rfl, g50, g51, -, -, -⟩ := own_some H5.out (by omega)
          obtain ⟨g3, rfl, g30, g31, -, -, -⟩ := own_some O3.out (by omega)
          obtain ⟨bl, ol, cl', hv, bl0, -, -, -, hcl⟩ := RT.out.pos (by omega)
          cases hv
          have x5 : wr.cell? ⟨g5, k, none⟩ = some (.int .i64 f) := by
            refine cell_on hbr g51 ?_
            rw [H5.out.cellAt k (by omega), ints_get _ _ (by rw [HL5.out]; exact hk'), hf]
          obtain ⟨x, hx⟩ : ∃ x, l.getD f 0 = x := ⟨_, rfl⟩
          have x3 : wr.cell? ⟨g3, k, none⟩ = some (.int .i64 x) := by
            refine cell_on hbr (by omega) (cell_on HB5.out g31 ?_)
            rw [O3.out.cellAt k (by omega), ints_get _ _ (by rw [shuf_len]; exact hk'), ← hlo, hx]
          have xl : wr.cell? ⟨bl, ol + f, none⟩ = some (.int .i64 x) := by
            refine cell_on hbr (by omega) (cell_on HB5.out (by omega) (cell_on HB3.out bl0 ?_))
            rw [hcl f (by omega), ints_get _ _ f1, hx]
          have xm : wr.cell? ⟨w5.heap.size, f, none⟩ = some (.int .i64 ((o.take k).count (f : Int) : Int)) := by
            rw [hown.cellAt f (by omega), ints_get _ _ (by simpa using f1), mets_getD _ _ _ f1]
          obtain ⟨y, hy⟩ : ∃ y, (o.take k).count (f : Int) = y := ⟨_, rfl⟩
          have y1 : y ≤ l.length := by
            rw [← hy]
            refine Nat.le_trans (List.count_le_length) ?_
            rw [List.length_take]
            omega
          rw [hy] at xm
          have xf := hown.frozenAt f
          have HY := Lib.hid hy
          have HF := Lib.hid hf
          have HW := Lib.hid hown
          clear hlo hx hcl hy hf hown own6 hb6 hg6 ob fb
          go_wp2_with fail
          go_quiet (fail)
          go_wp2_with fail
          go_roundw
          case rel =>
            refine ⟨k + 1, by go_num, by omega, ((Below.drewN hbr _).setCell (p := ⟨w5.heap.size, f, none⟩) (Nat.le_refl _) _), ?_⟩
            have hst := (HW.out.stored f (.int .i64 (y + 1 : Int))).1
            rw [ints_set] at hst
            have e1 : o.take (k + 1) = o.take k ++ [(f : Int)] := by
              rw [List.take_succ_eq_append_getElem (show k < o.length by rw [HL5.out]; exact hk')]
              have := HF.out
              rw [List.getD, List.getElem?_eq_getElem (show k < o.length by rw [HL5.out]; exact hk')] at this
              simp at this
              rw [this]
            rw [e1, mets_snoc _ _ _ f1, mets_getD _ _ _ f1, HY.out]
            exact hst
          case measure => simp [intOf]; omega
        · obtain rfl : k = l.length := by omega
          clear hk hk' own6 hb6 hg6
          go_wp2_with fail
          rw [List.take_of_length_le (by rw [HL5.out]; exact Nat.le_refl _), mets_places _ _ HP.out] at hown
          go_loopw [116] (fun i w7 => ∃ k : Nat, i = .int .i64 k ∧ k ≤ l.length ∧ ∃ m, w7 = wr.drewN m) (fun i _ => l.length - (intOf i).toNat)
          case atStart => exact ⟨0, rfl, Nat.zero_le _, 0, rfl⟩
          case round =>
            obtain ⟨k, rfl, hk, m, rfl⟩ := hrel
            by_cases hk' : k < l.length
            · have c7 : wr.cell? ⟨w5.heap.size, k, none⟩ = some (.int .i64 1) := by
                rw [hown.cellAt k (by omega), ints_get _ _ (by simpa using hk')]
                simp [List.getD, hk']
              go_wp2_with fail
              go_roundw
              case rel => exact ⟨k + 1, by go_num, by omega, _, rfl⟩
              case measure => simp [intOf]; omega
            · obtain rfl : k = l.length := by omega
              clear hk hk'
              by_cases h2 : l.length < 2
              · have e0 : l.length - 1 = 0 := by omega
                have hA := HA.out
                rw [e0] at hA
                have hA' : s = sA := hA
                subst hA'
                go_wp2_with fail
                go_ret
                exact ⟨rfl, Below.drewN (HB3.out.trans ((HB5.out.trans (hbr.mono HB5.out.size)).mono HB3.out.size)) _⟩
              · have h2' : 2 ≤ l.length := by omega
                clear h2
                obtain ⟨N, hN⟩ : ∃ N, l.length = N + 2 := ⟨l.length - 2, by omega⟩
                have hlast := shuf_last N s l s0 s1 hN
                rw [show ((N : Int) + 2) = (l.length : Int) from by omega, show N + 1 = l.length - 1 from by omega] at hlast
                have hbd := below_bd N s s0 s1
                rw [show ((N : Int) + 2) = (l.length : Int) from by omega] at hbd
                obtain ⟨-, -, d0, d1⟩ := hbd
                obtain ⟨q, hq⟩ := Int.eq_ofNat_of_zero_le d0
                rw [hq] at hlast d1
                rw [Int.toNat_natCast] at hlast
                obtain ⟨x, hx⟩ : ∃ x, l.getD q 0 = x := ⟨_, rfl⟩
                rw [hx] at hlast
                obtain ⟨g3, rfl, g30, g31, -, -, -⟩ := own_some O3.out (by omega)
                obtain ⟨bl, ol, cl', hv, bl0, -, -, -, hcl⟩ := RT.out.pos (by omega)
                cases hv
                have q1 : q < l.length := by omega
                have x3 : wr.cell? ⟨g3, l.length - 1, none⟩ = some (.int .i64 x) := by
                  refine cell_on hbr (by omega) (cell_on HB5.out g31 ?_)
                  rw [O3.out.cellAt (l.length - 1) (by omega), ints_get _ _ (by rw [shuf_len]; omega), hlast]
                have xl : wr.cell? ⟨bl, ol + q, none⟩ = some (.int .i64 x) := by
                  refine cell_on hbr (by omega) (cell_on HB5.out (by omega) (cell_on HB3.out bl0 ?_))
                  rw [hcl q (by omega), ints_get _ _ q1, hx]
                have gr3 : g3 < wr.heap.size := World.block_lt_of_cell? _ _ x3
                have grl : bl < wr.heap.size := World.block_lt_of_cell? _ _ xl
                have HQ := Lib.hid hq
                have HN := Lib.hid hN
                clear hlast d0 d1 hx hcl hq hN hown
                go_wp2_with (go_at_call 17; refine (Below_yes _ _ _ s0 s1 (by omega) (by omega)).mono ?_; rintro e w8 ⟨rfl, hb8⟩; rw [HQ.out]; have y3 := cell_on hb8 (by simpa using gr3) (by simpa using x3); have yl := cell_on hb8 (by simpa using grl) (by simpa using xl))
                go_quiet (fail)
                go_wp2_with fail
                go_ret
                exact ⟨rfl, Below.drewN ((HB3.out.trans ((HB5.out.trans (hbr.mono HB5.out.size)).mono HB3.out.size)).trans ((Below.drewN (Below.refl _ _) _).trans (hb8.mono (by simp; exact Nat.le_trans HB3.out.size (Nat.le_trans HB5.out.size hbr.size))))) _⟩
end Go.Proofs.Ytojabjdpjnmkdaa
