/- The list of a set has each of its cards once, in order; of each suit the first one is its Top, the last one its Low. It holds of any set. -/
import Derived.Test.YtbjehiagaikhoaaProg
import Derived.Test.YtbjehiagaikhoaaCardAwake
import Derived.Test.YtbjehiagaikhoaaCardF
namespace Go.Proofs.Ytbjehiagaikhoaa
open Go.RowKit
set_option linter.unusedVariables false
set_option maxRecDepth 100000
set_option maxHeartbeats 2000000

theorem bits_zero' (m i : Nat) (hm : m < 18446744073709551616) : (bits BinOp.and IntKind.u64 ((m : Int) / 2 ^ i) 1 == 0) = !bt m i := by
  have h1 := bt_bits m i hm
  have h2 : m / 2 ^ i < 18446744073709551616 := Nat.lt_of_le_of_lt (Nat.div_le_self _ _) hm
  have h3 : ((m : Int) / 2 ^ i) = ((m / 2 ^ i : Nat) : Int) := by simp
  rw [h3, show (1 : Int) = ((1 : Nat) : Int) from rfl, u64_and_nat _ _ h2 (by decide), Nat.and_one_is_mod]
  unfold bt
  rw [Bool.eq_iff_iff]
  simp only [beq_iff_eq, Bool.not_eq_true', beq_eq_false_iff_ne]
  omega

theorem CardOrder_nat (m : Nat) (w : World) (hm : m < 18446744073709551616) : Calls Try.prog 6 #[.int .u64 (m : Int)] w fun e w' => e = .returned (.bool true) ∧ Below w.heap.size w w' := by
  obtain ⟨M, hM⟩ : ∃ M, m % 4503599627370496 = M := ⟨_, rfl⟩
  have hMi : (m : Int) % 4503599627370496 = (M : Int) := by omega
  have hMt : (m : Int).tmod 4503599627370496 = (M : Int) := by rw [Int.tmod_eq_emod_of_nonneg (by omega)]; omega
  have hM52 : M < 4503599627370496 := by omega
  clear hM
  obtain ⟨l, hl⟩ : ∃ l, downs M 52 = l := ⟨_, rfl⟩
  have hlen : l.length ≤ 52 := by rw [← hl]; exact downs_len M 52
  have hmem : ∀ (i : Nat) (h : i < l.length), l[i] < 52 ∧ bt M l[i] = true := fun i h => (mem_downs M 52 _).1 (by rw [hl]; exact List.getElem_mem h)
  have hnext : ∀ (i : Nat) (h : i + 1 < l.length), l[i + 1] < l[i] := fun i h => downs_next M 52 i _ _ (by rw [hl]; exact List.getElem?_eq_getElem (by omega)) (by rw [hl]; exact List.getElem?_eq_getElem h)
  obtain ⟨i0, hinf, hz0, hz1, hz2⟩ := info_parts info_u8
  have hall : ∀ c ∈ l, c < 52 := by rw [← hl]; exact downs_lt M 52
  have HL := Lib.hid hl
  clear hl
  go_enter Try.func6, Try.ntmps6
  go_wp2_with (first
    | (go_at_call 21; refine (List_yes M _ hM52).mono ?_; rintro e w1 ⟨v, rfl, hown, hb1⟩; rw [HL.out] at hown; obtain ⟨a1, c1, rfl⟩ := own_shape hown)
    | (go_at_call 22; refine (count_any M _ hM52).mono ?_; rintro e w2 ⟨rfl, rfl⟩; rw [HL.out]))
  have hrd := Rd.of_own hown
  clear hown
  go_loopw [33] (fun i wr => ∃ i' : Nat, i = .int .i64 i' ∧ i' ≤ l.length ∧ w1 = wr) (fun i _ => l.length - (intOf i).toNat)
  case atStart => exact ⟨0, rfl, by omega, rfl⟩
  case round =>
    obtain ⟨i, rfl, hi, rfl⟩ := hrel
    by_cases h : i < l.length
    · obtain ⟨b, off, cp, hv, hb, -, -, -, hcells⟩ := hrd.pos (by omega)
      cases hv
      obtain ⟨hx52, hxb⟩ := hmem i h
      obtain ⟨x, hx⟩ : ∃ x, l[i] = x := ⟨_, rfl⟩
      rw [hx] at hx52 hxb
      have hc : w1.cell? ⟨b, off + i, none⟩ = some (.int .u8 (x : Int)) := by
        rw [hcells i (by omega)]
        exact bys_get (by rw [List.getElem?_eq_getElem h, hx])
      have hz := bits_zero' M x (by omega)
      rw [hxb] at hz
      rcases Nat.eq_zero_or_pos i with hi0 | hi0
      · subst hi0
        rw [Nat.add_zero] at hc
        clear hcells hmem hnext
        go_wp2_with fail
        go_roundw
        case rel => exact ⟨1, by go_num, by omega, by trivial⟩
        case measure => simp [intOf]; omega
      · obtain ⟨j, rfl⟩ : ∃ j, i = j + 1 := ⟨i - 1, by omega⟩
        have hj : j < l.length := by omega
        obtain ⟨hy52, hyb⟩ := hmem j hj
        have hlt := hnext j h
        obtain ⟨y, hy⟩ : ∃ y, l[j] = y := ⟨_, rfl⟩
        rw [hx, hy] at hlt
        rw [hy] at hy52 hyb
        have hcy : w1.cell? ⟨b, off + j, none⟩ = some (.int .u8 (y : Int)) := by
          rw [hcells j (by omega)]
          exact bys_get (by rw [List.getElem?_eq_getElem hj, hy])
        have hok := order_ok y x hlt hy52
        obtain ⟨sx, hsx⟩ : ∃ sx, suitN x = sx := ⟨_, rfl⟩
        obtain ⟨sy, hsy⟩ : ∃ sy, suitN y = sy := ⟨_, rfl⟩
        obtain ⟨rx, hrx⟩ : ∃ rx, rankN x = rx := ⟨_, rfl⟩
        obtain ⟨ry, hry⟩ : ∃ ry, rankN y = ry := ⟨_, rfl⟩
        rw [hsx, hsy, hrx, hry] at hok
        have g1 : ¬ ((sy : Int) < (sx : Int)) := by omega
        have hij : ((j + 1 : Nat) : Int) - 1 = (j : Int) := by omega
        clear hcells hmem hnext
        go_wp2_with (first
          | (go_at_call_of 12 x; refine (Suit_any x _ (by omega)).mono ?_; rintro e w9 ⟨rfl, rfl⟩; rw [hsx])
          | (go_at_call_of 12 y; refine (Suit_any y _ (by omega)).mono ?_; rintro e w9 ⟨rfl, rfl⟩; rw [hsy])
          | (go_at_call_of 16 x; refine (Rank_any x _ (by omega)).mono ?_; rintro e w9 ⟨rfl, rfl⟩; rw [hrx])
          | (go_at_call_of 16 y; refine (Rank_any y _ (by omega)).mono ?_; rintro e w9 ⟨rfl, rfl⟩; rw [hry]))
        all_goals (refine ⟨⟨j + 1 + 1, by go_num, by omega, by trivial⟩, by simp [intOf]; omega⟩)
    · have hB1 := hb1
      clear hmem hnext
      obtain rfl : i = l.length := by omega
      clear h
      go_wp2_with fail
      go_loopw [7] (fun s wr => ∃ s' : Nat, s = .int .u8 s' ∧ s' ≤ 4 ∧ Below w1.heap.size w1 wr) (fun s _ => 4 - (intOf s).toNat)
      case atStart => exact ⟨0, rfl, by omega, Below.refl _ _⟩
      case round =>
        obtain ⟨s, rfl, hs, hBs⟩ := hrel
        by_cases hs4 : s < 4
        · have hsd : (s : Int) < 4 := by omega
          have hrs := Rd.later hrd hBs (Nat.le_refl _)
          obtain ⟨W, hW⟩ : ∃ W, W = wr := ⟨_, rfl⟩
          rw [← hW] at hBs hrs
          go_wp2_with fail
          rw [← hW]
          clear hW
          go_loopw [8, 87] (fun o i wr => ∃ (i' : Nat), i = .int .i64 i' ∧ i' ≤ l.length ∧ wr.ownsRow W.heap.size 5 1 o ((l.take i').filter (fun c => decide (c / 13 = s))).length (bys ((l.take i').filter (fun c => decide (c / 13 = s)))) ∧ Below W.heap.size W wr) (fun o i _ => l.length - (intOf i).toNat)
          case atStart => exact ⟨0, rfl, by omega, ⟨rfl, .inl ⟨rfl, rfl⟩⟩, Below.refl _ _⟩
          case round =>
            obtain ⟨i, rfl, hi, hown, hB⟩ := hrel
            by_cases h : i < l.length
            · have hrw := hrs.below hB (Nat.le_refl _)
              obtain ⟨b, off, cp, hv, hb, -, -, -, hcells⟩ := hrw.pos (by omega)
              cases hv
              obtain ⟨x, hx⟩ : ∃ x, l[i] = x := ⟨_, rfl⟩
              have hx52 : x < 52 := by rw [← hx]; exact hall _ (List.getElem_mem h)
              have hc : wr.cell? ⟨b, off + i, none⟩ = some (.int .u8 (x : Int)) := by
                rw [hcells i (by omega)]
                exact bys_get (by rw [List.getElem?_eq_getElem h, hx])
              have htk : l.take (i + 1) = l.take i ++ [x] := by rw [← hx]; exact List.take_succ_eq_append_getElem h
              have hsx : suitN x = x / 13 := by unfold suitN; rw [if_pos hx52]
              by_cases hxs : x / 13 = s
              · obtain ⟨k, hk⟩ : ∃ k, ((l.take i).filter (fun c => decide (c / 13 = s))) = k := ⟨_, rfl⟩
                have hft : (l.take (i + 1)).filter (fun c => decide (c / 13 = s)) = k ++ [x] := by
                  rw [htk, List.filter_append, hk]
                  simp [hxs]
                rw [hk] at hown
                have hkl : k.length ≤ 52 := by rw [← hk]; exact Nat.le_trans (List.length_filter_le _ _) (Nat.le_trans (List.length_take_le _ _) (by omega))
                obtain ⟨W', hW'⟩ : ∃ W', wr.alloc (.cells #[.int .u8 (x : Int)] 5) = W' := ⟨_, rfl⟩
                have hown' : W'.ownsRow W.heap.size 5 1 u8 k.length (bys k) := by rw [← hW']; exact own_below hown ((Below.refl _ _).alloc (Nat.le_refl _) _)
                have hbW : Below W.heap.size W W' := by rw [← hW']; exact hB.alloc hB.size _
                have hnew : ∀ j u, (bys [x])[j]? = some u → W'.cell? ((⟨wr.heap.size, 0, none⟩ : Addr).add j) = some u := by
                  intro j u hu
                  rw [addr_add, ← hW']
                  have hr := (Row.new wr 5 #[.int .u8 (x : Int)]).cell (0 + j)
                  rw [hr, Nat.zero_add]
                  simpa [bys] using hu
                have HO := Lib.hid (And.intro hown' (And.intro hbW hnew))
                have HF := Lib.hid hft
                clear hown' hbW hnew hown hcells htk hft hk
                go_wp2_with (first
                  | (go_at_call 12; refine (Suit_any x _ (by omega)).mono ?_; rintro e w9 ⟨rfl, rfl⟩; rw [hsx, hxs])
                  | (at_builtin; go_must (try rw [hW']); go_must (refine wpList_append_own _ rfl _ _ 37 rfl W.heap.size 5 i0 (.int .u8 0) 1 1 Try.underlying37 hinf hz0 hz1 hz2 rfl (by decide) u8 k.length (bys k) rfl HO.out.1 ⟨wr.heap.size, 0, none⟩ 1 1 (bys [x]) rfl (by simp) HO.out.2.2 (bys_one [x]) (by simp [maxLen]; omega) (by omega) HO.out.2.1.size ?_); intro v' w8 hown1 hgrow _))
                go_roundw
                case rel =>
                  refine ⟨i + 1, by go_num, by omega, ?_, ?_⟩
                  · rw [HF.out, bys_append, List.length_append]
                    exact hown1
                  · exact below_append HO.out.2.1 hgrow HO.out.1 (Nat.le_refl _) HO.out.2.1.size
                case measure => simp [intOf]; omega
              · have hne : (((x / 13 : Nat) : Int) == (s : Int)) = false := by rw [beq_eq_false_iff_ne]; omega
                have hft : (l.take (i + 1)).filter (fun c => decide (c / 13 = s)) = (l.take i).filter (fun c => decide (c / 13 = s)) := by
                  rw [htk, List.filter_append]
                  simp [hxs]
                rw [← hft] at hown
                clear hcells
                have HO := Lib.hid hown
                clear hown hft htk
                go_wp2_with (go_at_call 12; refine (Suit_any x _ (by omega)).mono ?_; rintro e w9 ⟨rfl, rfl⟩; rw [hsx])
                go_roundw
                case rel => exact ⟨i + 1, by go_num, by omega, HO.out, hB⟩
                case measure => simp [intOf]; omega
            · obtain rfl : i = l.length := by omega
              clear h
              rw [List.take_length] at hown
              have hdo := downs_of M s hM52 hs4 52
              rw [HL.out] at hdo
              obtain ⟨k, hk⟩ : ∃ k, (l.filter (fun c => decide (c / 13 = s))) = k := ⟨_, rfl⟩
              have hk52 : ∀ c ∈ k, c < 52 := by rw [← hk]; exact fun c hc => hall c (List.mem_filter.1 hc).1
              have hkl : k.length ≤ 52 := by rw [← hk]; exact Nat.le_trans (List.length_filter_le _ _) hlen
              rw [hk] at hown hdo
              have hrk := Rd.of_own hown
              have hBa : Below wr.heap.size wr wr := Below.refl _ _
              clear hrs hown hk
              rcases Nat.eq_zero_or_pos k.length with hk0 | hk0
              · obtain rfl : k = [] := List.eq_nil_of_length_eq_zero hk0
                obtain ⟨a8, c8, rfl⟩ := hrk.shape
                have h1 : (downs (ofN M s) 52).head? = none := by rw [hdo]; rfl
                have h2 : (downs (ofN M s) 52).getLast? = none := by rw [hdo]; rfl
                have H1 := Lib.hid h1
                have H2 := Lib.hid h2
                clear h1 h2 hdo hrk hk0 hkl hk52
                go_wp2_with (first
                  | (go_at_call 11; refine (Top_any M s _ (by omega) (by omega)).mono ?_; rintro e w4 ⟨rfl, hb4⟩; rw [H1.out, vPick_none]; replace hBa := hBa.trans (hb4.mono hBa.size); clear hb4)
                  | (go_at_call 23; refine (Low_any M s _ (by omega) (by omega)).mono ?_; rintro e w5 ⟨rfl, hb5⟩; rw [H2.out, vPick_none]; replace hBa := hBa.trans (hb5.mono hBa.size); clear hb5))
                go_roundw
                case rel => exact ⟨s + 1, by go_num, by omega, (hBs.trans (hB.mono hBs.size)).trans (hBa.mono (by have := hBs.size; have := hB.size; omega))⟩
                case measure => simp [intOf]; omega
              · obtain ⟨b, off, cp, rfl, hb, -, -, -, hcells⟩ := hrk.pos hk0
                obtain ⟨n, hn⟩ : ∃ n, k.length = n + 1 := ⟨k.length - 1, by omega⟩
                obtain ⟨x0, hx0⟩ : ∃ x0, k[0]? = some x0 := ⟨k[0], List.getElem?_eq_getElem hk0⟩
                obtain ⟨x1, hx1⟩ : ∃ x1, k[n]? = some x1 := ⟨k[n], List.getElem?_eq_getElem (by omega)⟩
                have hl0 : x0 < 52 := hk52 _ (List.mem_of_getElem? hx0)
                have hl1 : x1 < 52 := hk52 _ (List.mem_of_getElem? hx1)
                have g0 : wr.cell? ⟨b, off + 0, none⟩ = some (.int .u8 (x0 : Int)) := by rw [hcells 0 (by omega)]; exact bys_get hx0
                have g1 : wr.cell? ⟨b, off + n, none⟩ = some (.int .u8 (x1 : Int)) := by rw [hcells n (by omega)]; exact bys_get hx1
                have h1 : (downs (ofN M s) 52).head? = some x0 := by rw [hdo, List.head?_eq_getElem?]; exact hx0
                have h2 : (downs (ofN M s) 52).getLast? = some x1 := by rw [hdo, List.getLast?_eq_getElem?, hn]; exact hx1
                rw [hn]
                have hnn : ((n + 1 : Nat) : Int) - 1 = (n : Int) := by omega
                have hpos : (0 : Int) < ((n + 1 : Nat) : Int) := by omega
                rw [Nat.add_zero] at g0
                have H1 := Lib.hid h1
                have H2 := Lib.hid h2
                have G := Lib.hid (And.intro g0 g1)
                clear h1 h2 hdo hrk hk52 hcells hx0 hx1 hk0 g0 g1
                go_wp2_with (first
                  | (go_at_call 11; refine (Top_any M s _ (by omega) (by omega)).mono ?_; rintro e w4 ⟨rfl, hb4⟩; rw [H1.out, vPick_some]; replace hBa := hBa.trans (hb4.mono hBa.size); clear hb4)
                  | (go_at_call 23; refine (Low_any M s _ (by omega) (by omega)).mono ?_; rintro e w5 ⟨rfl, hb5⟩; rw [H2.out, vPick_some]; replace hBa := hBa.trans (hb5.mono hBa.size); clear hb5; have q0 := cell_on hBa hb G.out.1; have q1 := cell_on hBa hb G.out.2))
                go_roundw
                case rel => exact ⟨s + 1, by go_num, by omega, (hBs.trans (hB.mono hBs.size)).trans (hBa.mono (by have := hBs.size; have := hB.size; omega))⟩
                case measure => simp [intOf]; omega
        · go_wp2_with (go_at_call 13; refine (awake_true _).mono ?_; rintro e w9 ⟨rfl, hb9⟩)
          go_ret
          have hBw := hB1.trans (hBs.mono hB1.size)
          exact ⟨rfl, hBw.trans (hb9.mono hBw.size)⟩

theorem CardOrder_walk (m : Int) (w : World) (hm : 0 ≤ m ∧ m ≤ 18446744073709551615) : Calls Try.prog 6 #[.int .u64 m] w fun e w' => e = .returned (.bool true) ∧ Below w.heap.size w w' := by
  obtain ⟨m', rfl⟩ : ∃ m' : Nat, m = m' := ⟨m.toNat, by omega⟩
  exact CardOrder_nat m' w (by omega)

end Go.Proofs.Ytbjehiagaikhoaa
