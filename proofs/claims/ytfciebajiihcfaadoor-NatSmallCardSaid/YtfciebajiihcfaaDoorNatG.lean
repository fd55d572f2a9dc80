/- nat: the iterator rows -/
import Derived.Test.YtfciebajiihcfaaDoorNatC2
import Derived.Test.YtfciebajiihcfaaDoorNatF
import Derived.Test.YtfciebajiihcfaaDoorIterV
namespace Go.Proofs.YtfciebajiihcfaaDoor
open Go.RowKit Go.Shelf
attribute [local go_sem] Oper.semAt_some
set_option linter.unusedVariables false
set_option linter.unusedSimpArgs false
set_option maxRecDepth 100000
set_option maxHeartbeats 2000000

theorem info_N : (Tryd.prog.info? 28).map (fun i => (i.zero, i.size, i.bytes)) = some (some (.agg #[.int .u32 0, .int .u32 0, .int .u32 0, .int .u32 0]), 4, 16) := by kernel_rfl

theorem own_lit4 (w : World) (B : Nat) (hB : B ≤ w.heap.size) (l : List Nat) (hl : l.length ≤ 100) (c : Array Value) (hc : c = (nls l).toArray) : (w.alloc (.cells c 28)).ownsRow B 28 4 (.slice (some ⟨w.heap.size, 0, none⟩) l.length l.length) l.length (nls l) := by
  subst hc
  refine ⟨by simp, .inr ⟨w.heap.size, l.length, (nls l).toArray, rfl, hB, Row.new w _ _, Nat.le_refl _, by unfold maxLen; omega, by simp, ?_⟩⟩
  simp
  exact List.take_of_length_le (by simp)

theorem own_keeps {l B : Nat} {W W' : World} {e : TypeId} {size : Nat} {v : Value} {n : Nat} {xs : List Value} (h : W.ownsRow B e size v n xs) (hk : KeepsBut l W W') (hl : l < B) : W'.ownsRow B e size v n xs := by
  refine ⟨h.1, ?_⟩
  rcases h.2 with h | ⟨g, cap, cur, rfl, hb', hg, q⟩
  · exact .inl h
  · exact .inr ⟨g, cap, cur, rfl, hb', (hk.2 g (Array.getElem?_eq_some_iff.1 hg).1 (by omega)).trans hg, q⟩

def Stop (p : Prop) : Prop := p
theorem stop_of {p : Prop} (h : Stop p) : p := h

theorem row_behind {w w8 : World} {x : Array Value} {t : TypeId} (hb : Below ((w.alloc (.cells x t)).drew).heap.size ((w.alloc (.cells x t)).drew) w8) : Row w8 w.heap.size t x :=
  ((Row.new w t x).drew).below hb (by simp)

def encR (n : Nat) (v : Value) : Array Value := #[.int .i64 (n : Int), v]
def ER (l n : Nat) (v : Value) (W : World) : Prop := W.ownsRow (l + 1) 28 4 v (n + 1) (nls (rowL n))

theorem rows_any (w : World) : Calls Tryd.prog 37 #[] w fun e w' => e = .returned (.func (.func 54) #[] #[]) ∧ w = w' := by
  go_enter Tryd.func37, Tryd.ntmps37
  go_wp2
  go_ret
  exact ⟨rfl, rfl⟩

theorem rows_iter (w : World) : IterV Tryd.prog 54 #[] encR ER (List.range 129) w := by
  intro g J Jx W hW hgW hJ hJx hY hJ0
  have HJ := Lib.hid hJ0
  obtain ⟨i0, hinf, hz0, hz1, hz2⟩ := info_parts info_N
  clear hJ0
  refine callsIn_of_wp Tryd.func54 rfl trivial ?_ rfl
  simp only [Tryd.ntmps54, List.size_toArray, List.length_cons, List.length_nil, Nat.reduceAdd, Nat.reduceSub, Array.replicate_succ, Array.replicate_zero, List.push_toArray, List.append_toArray, List.nil_append, List.cons_append]
  have hfn : ∀ f, Fence.wide.fn f := fun _ => trivial
  have hdep : Fence.wide.depth = none := rfl
  gi_wp2
  gi_loopw [2, 3] (fun r i wr => ∃ k n : Nat, i = .int .i64 k ∧ k ≤ 129 ∧ Hid (n = k + 1) ∧ wr.ownsRow (g + 1) 28 4 r n (nls (rowL k)) ∧ g < wr.heap.size ∧ Hid (J (List.range k) wr)) (fun _ i _ => 129 - (intOf i).toNat)
  case atStart =>
    refine ⟨0, 1, rfl, by omega, Lib.hid rfl, own_lit4 W (g + 1) hgW [1] (by decide) _ (by rfl), by simp; omega, Lib.hid (hJ _ _ _ HJ.out ((Below.refl _ _).alloc (Nat.le_refl _) _))⟩
  case round =>
    obtain ⟨k, n, rfl, hk, hnk, hown, hgr, hj⟩ := hrel
    have n1 : n ≤ k + 1 := by have := hnk.out; omega
    have n2 : k + 1 ≤ n := by have := hnk.out; omega
    by_cases hlt : k < 129
    · have hpre : List.range k ++ [k] <+: List.range 129 := by
        rw [← List.range_succ]
        have h := List.take_prefix (k + 1) (List.range 129)
        rw [List.take_range, Nat.min_eq_left (by omega)] at h
        exact h
      have hkd : decide ((k : Int) ≤ 128) = true := by simp; omega
      obtain ⟨fn, tmps, assign, body, hy, hR⟩ := hY _ _ u2 wr hj.out hpre (show wr.ownsRow (g + 1) 28 4 u2 (k + 1) (nls (rowL k)) by rw [← hnk.out]; exact hown)
      simp only [encR] at hy
      have HO := Lib.hid hown
      obtain ⟨a2, c2, rfl⟩ := own_shape hown
      clear hj hown
      gi_wp2
      refine hR.mono ?_
      rintro e W3 (⟨rfl, hJ3, hk3⟩ | ⟨rfl, hJx3⟩)
      · have ho3 := own_keeps HO.out hk3 (by omega)
        have hg3 : g < W3.heap.size := Nat.lt_of_lt_of_le hgr hk3.1
        have hr3 := Rd.of_own ho3
        have hn3 : (W3.alloc (.cells #[vU 1, vU 0, vU 0, vU 0] 28)).ownsRow W3.heap.size 28 4 (.slice (some ⟨W3.heap.size, 0, none⟩) 1 1) 1 (nls (nextL k 1)) := by
          rw [nextL_one]
          exact own_lit4 W3 W3.heap.size (Nat.le_refl _) [1] (by decide) _ (by rfl)
        have hb3 : Below W3.heap.size W3 (W3.alloc (.cells #[vU 1, vU 0, vU 0, vU 0] 28)) := (Below.refl _ _).alloc (Nat.le_refl _) _
        have H3 := Lib.hid (And.intro hJ3 (And.intro ho3 (And.intro hr3 (And.intro hn3 hb3))))
        clear hJ3 hy ho3 hr3 hn3 hb3 hk3 hR
        gi_wp2
        refine wpIn_wide.2 ?_
        go_loopw [4, 5] (fun o i wr => ∃ m : Nat, i = .int .i64 m ∧ 1 ≤ m ∧ m ≤ n ∧ wr.ownsRow W3.heap.size 28 4 o m (nls (nextL k m)) ∧ Below W3.heap.size W3 wr) (fun _ i _ => n - (intOf i).toNat)
        case atStart => exact ⟨1, rfl, by omega, by omega, H3.out.2.2.2.1, H3.out.2.2.2.2⟩
        case round =>
          obtain ⟨m, rfl, hm1, hmk, hown, hB⟩ := hrel
          by_cases hmlt : m < n
          · obtain ⟨b, off, cc, hvv, hbb, hc1, hc2, hcell⟩ := (show Rd W3.heap.size W3 4 (.slice a2 (rowL k).length c2) (rowL k).length (nls (rowL k)) by rw [rowL_len, ← hnk.out]; exact H3.out.2.2.1).nat (by rw [rowL_len]; omega)
            rw [rowL_len, ← hnk.out] at hvv hc1
            cases hvv
            obtain ⟨j, hj⟩ : ∃ j, m = j + 1 := ⟨m - 1, by omega⟩
            have hmj : (m : Int) - 1 = (j : Int) := by omega
            obtain ⟨x, hx⟩ : ∃ x, ch k j % big = x := ⟨_, rfl⟩
            obtain ⟨y, hy⟩ : ∃ y, ch k (j + 1) % big = y := ⟨_, rfl⟩
            have hxb : x < big := by rw [← hx]; exact Nat.mod_lt _ (by decide)
            have hyb : y < big := by rw [← hy]; exact Nat.mod_lt _ (by decide)
            have hcx := hcell j (by rw [rowL_len]; omega) x (by rw [rowL_get k j (by omega)]; exact hx)
            have hcy := hcell m (by rw [rowL_len]; omega) y (by rw [rowL_get k m (by omega), hj]; exact hy)
            obtain ⟨e0, e1, e2, e3⟩ := hcx wr (fun o => hB.cell (p := ⟨b, o, none⟩) hbb)
            obtain ⟨f0, f1, f2, f3⟩ := hcy wr (fun o => hB.cell (p := ⟨b, o, none⟩) hbb)
            obtain ⟨z, hz⟩ : ∃ z, (x + y) % big = z := ⟨_, rfl⟩
            have hnx : nextL k (m + 1) = nextL k m ++ [z] := by rw [hj, nextL_sum, hx, hy, hz]
            have HN := Lib.hid (And.intro hnx (And.intro hz hown))
            have hB0 := hB.size
            have hjc : j < c2 := by omega
            have hmc : m < c2 := by omega
            have hju : j < n := by omega
            clear hnx hz hown hx hy hcell hcx hcy hj
            have hj0 : (0 : Int) ≤ (j : Int) := by omega
            have hjn : (j : Int) < (n : Int) := by omega
            have hjd : decide ((j : Int) < (n : Int)) = true := by simpa using hju
            have hwr : IntKind.i64.wrap ((m : Int) - 1) = (j : Int) := by rw [hmj]; exact wrap_small _ (by omega) (by omega)
            have hwj : IntKind.i64.wrap (j : Int) = (j : Int) := wrap_small _ (by omega) (by omega)
            have hbw : b < wr.heap.size := Nat.lt_of_lt_of_le hbb hB0
            have hbn : b ≠ wr.heap.size := by omega
            have hmix : Tryd.prog.follows .mixedOrders = true := by kernel_rfl
            go_wp2_with fail
            go_region_with (go_at_call 33; refine (add_any x y _ hxb hyb).mono ?_; rintro e w5 ⟨rfl, hb5⟩; rw [HN.out.2.1]; try (obtain ⟨p0, p1, p2, p3, p4, p5, p6, p7⟩ := row4 (row_behind hb5); have p8 := (row_behind hb5).lt))
            all_goals go_wp2_with (at_builtin; refine stop_of ?_)
            all_goals
              unfold Stop
              first
                | (obtain ⟨X, hX⟩ : ∃ X, w5.alloc (.cells (pN z) 28) = X := ⟨_, rfl⟩
                   have hBX : Below wr.heap.size wr X := by
                     have h1 : Below wr.heap.size wr w5 := ((Below.refl wr.heap.size wr).drew).trans (hb5.mono (Nat.le_refl _))
                     rw [← hX]
                     exact h1.alloc h1.size _
                   have hs : w5.heap.size + 1 = X.heap.size := by rw [← hX]; simp
                   rw [hX, hs])
                | (obtain ⟨X, hX⟩ : ∃ X, (((w5.setCell ⟨wr.heap.size, 0, none⟩ (.int .u32 (dg 0 z))).setCell ⟨wr.heap.size, 1, none⟩ (.int .u32 (dg 1 z))).setCell ⟨wr.heap.size, 2, none⟩ (.int .u32 (dg 2 z))).setCell ⟨wr.heap.size, 3, none⟩ (.int .u32 (dg 3 z)) = X := ⟨_, rfl⟩
                   have hBX : Below wr.heap.size wr X := by
                     have h1 : Below wr.heap.size wr w5 := (((Below.refl wr.heap.size wr).alloc (Nat.le_refl _) (.cells #[vU 0, vU 0, vU 0, vU 0] 28)).drew).trans (hb5.mono (by simp))
                     rw [← hX]
                     exact Below.stored4 h1 (Nat.le_refl _) _ _ _ _
                   have hs : w5.heap.size = X.heap.size := by rw [← hX]; simp
                   rw [hX, hs])
              have hownX := own_below HN.out.2.2 hBX
              have hB3X := hB.trans (hBX.mono hB0)
              have H5 := Lib.hid (And.intro hownX hB3X)
              clear hBX hs hX hb5 hownX hB3X
              have hown5 := own_below H5.out.1 ((Below.refl X.heap.size X).alloc (Nat.le_refl _) (.cells (pN z) 28))
              have hB5 := H5.out.2.alloc H5.out.2.size (.cells (pN z) 28)
              have hnew : ∀ j u, (nls [z])[j]? = some u → (X.alloc (.cells (pN z) 28)).cell? ((⟨X.heap.size, 0, none⟩ : Addr).add j) = some u := by
                intro j u hu
                rw [addr_add, (Row.new X 28 (pN z)).cell (0 + j), Nat.zero_add, show pN z = (nls [z]).toArray from rfl, List.getElem?_toArray]
                exact hu
              have hbs5 := hB5.size
              refine wpList_append_own _ rfl _ _ 24 rfl W3.heap.size 28 i0 (.agg #[.int .u32 0, .int .u32 0, .int .u32 0, .int .u32 0]) 4 16 Tryd.underlying24 hinf hz0 hz1 hz2 rfl (by decide) _ m (nls (nextL k m)) rfl hown5 ⟨X.heap.size, 0, none⟩ 1 1 (nls [z]) rfl (by simp) hnew (nls_one [z]) (by unfold maxLen; omega) (by omega) hbs5 ?_
              intro v' w8 hown1 hgrow _
              have hB8 := below_append hB5 hgrow hown5 (Nat.le_refl _) hbs5
              have HY := Lib.hid (And.intro hown1 hB8)
              clear hown1 hgrow hown5 hB5 hnew H5
              go_wp2_with fail
              go_roundw
              case rel =>
                refine ⟨m + 1, by go_num, by omega, by omega, ?_, HY.out.2⟩
                rw [HN.out.1, nls_append]
                exact HY.out.1
              case measure => simp [intOf]; omega
          · obtain rfl : m = n := by omega
            have hnx := nextL_end k
            have HE := Lib.hid (And.intro hown (And.intro hnx hB))
            have hB0 := hB.size
            clear hnx hown
            go_wp2_with fail
            refine wpIn_wide.2 ?_
            go_wp2_with (at_builtin; refine stop_of ?_)
            unfold Stop
            have hown5 := own_below HE.out.1 ((Below.refl wr.heap.size wr).alloc (Nat.le_refl _) (.cells #[vU 1, vU 0, vU 0, vU 0] 28))
            have hB5 := HE.out.2.2.alloc hB0 (.cells #[vU 1, vU 0, vU 0, vU 0] 28)
            have hnew : ∀ j u, (nls [1])[j]? = some u → (wr.alloc (.cells #[vU 1, vU 0, vU 0, vU 0] 28)).cell? ((⟨wr.heap.size, 0, none⟩ : Addr).add j) = some u := by
              intro j u hu
              rw [addr_add, (Row.new wr 28 #[vU 1, vU 0, vU 0, vU 0]).cell (0 + j), Nat.zero_add, show (#[vU 1, vU 0, vU 0, vU 0] : Array Value) = (nls [1]).toArray from rfl, List.getElem?_toArray]
              exact hu
            have hbs5 := hB5.size
            refine wpList_append_own _ rfl _ _ 24 rfl W3.heap.size 28 i0 (.agg #[.int .u32 0, .int .u32 0, .int .u32 0, .int .u32 0]) 4 16 Tryd.underlying24 hinf hz0 hz1 hz2 rfl (by decide) _ m (nls (nextL k m)) rfl hown5 ⟨wr.heap.size, 0, none⟩ 1 1 (nls [1]) rfl (by simp) hnew (nls_one [1]) (by unfold maxLen; omega) (by omega) hbs5 ?_
            intro v' w8 hown1 hgrow _
            have hB8 := below_append hB5 hgrow hown5 (Nat.le_refl _) hbs5
            have hfin : w8.ownsRow (g + 1) 28 4 v' (m + 1) (nls (rowL (k + 1))) := by
              rw [← HE.out.2.1, nls_append, ← hnk.out]
              exact own_mono hown1 (by omega)
            have hJ8 := hJ _ _ _ H3.out.1 hB8
            have hg8 : g < w8.heap.size := Nat.lt_of_lt_of_le hg3 hB8.size
            have HY := Lib.hid (And.intro hfin (And.intro hJ8 (show m + 1 = k + 1 + 1 by have := hnk.out; omega)))
            clear hown1 hgrow hown5 hB5 hnew hB8 hfin hJ8 hB
            go_wp2_with fail
            gi_wp2
            go_roundw
            case rel => exact ⟨k + 1, m + 1, by go_num, by omega, Lib.hid HY.out.2.2, HY.out.1, hg8, Lib.hid (by rw [List.range_succ]; exact HY.out.2.1)⟩
            case measure => simp [intOf]; omega
      · have HJ3 := Lib.hid hJx3
        clear hJx3 hy
        gi_wp2
        refine bodyPost_end (results_none rfl _ _ _) rfl ?_
        exact ⟨⟨_, rfl⟩, .inr ⟨_, hpre, HJ3.out⟩⟩
    · obtain rfl : k = 129 := by omega
      gi_wp2
      refine bodyPost_end (results_none rfl _ _ _) rfl ?_
      exact ⟨⟨_, rfl⟩, .inl hj.out⟩

end Go.Proofs.YtfciebajiihcfaaDoor
