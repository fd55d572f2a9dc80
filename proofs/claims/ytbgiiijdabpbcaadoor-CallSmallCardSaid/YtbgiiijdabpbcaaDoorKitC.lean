/- finessekit.LentBytes -/
import Derived.Test.YtbgiiijdabpbcaaDoorKitB
import Derived.OwnWalk
namespace Go.Proofs.YtbgiiijdabpbcaaDoor
open Go.RowKit
set_option linter.unusedVariables false
set_option linter.unusedSimpArgs false
set_option maxRecDepth 100000
set_option maxHeartbeats 2000000

theorem LentBytes_any (v : Value) (l : List Nat) (w : World) (hrd : Rd w.heap.size w 1 v l.length (bys l)) (hll : l.length ≤ 1000) :
    Calls Tryd.prog 32 #[v] w fun e w' => ∃ g c, e = .returned (.slice (some ⟨g, 0, none⟩) l.length c) ∧ l.length + 12 ≤ c ∧
      w'.ownsRow w.heap.size 5 1 (.slice (some ⟨g, 0, none⟩) (l.length + 12) c) (l.length + 12) (bys (l ++ (List.range 12).map (mb 1))) ∧ Below w.heap.size w w' := by
  have HR := Lib.hid hrd
  obtain ⟨a, c, rfl⟩ := hrd.shape
  obtain ⟨n, hn⟩ : ∃ n, l.length = n := ⟨_, rfl⟩
  have HN := Lib.hid hn
  rw [hn] at hll ⊢
  clear hn hrd
  obtain ⟨i0, hinf, hz0, hz1, hz2⟩ := info_parts info_u8
  go_enter Tryd.func32, Tryd.ntmps32
  go_wp2_with (at_make; refine stop_of ?_)
  unfold Stop
  refine wpList_make_own _ rfl _ _ 24 rfl w.heap.size 5 i0 (.int .u8 0) 1 Tryd.underlying24 hinf hz0 hz1 .i64 .i64 _ (n + 12) rfl rfl (by omega) (by rw [hz2]; omega) (by unfold maxLen; omega) (Nat.le_refl _) ?_
  intro w1 hown1 hg1
  have hb1 : Below w.heap.size w w1 := (Below.refl _ _).grown hg1 (Nat.le_refl _) (fun k e => by cases e)
  have HO := Lib.hid (And.intro hown1 hb1)
  clear hown1 hb1 hg1
  go_wp2_with (at_builtin; refine stop_of ?_)
  unfold Stop
  refine wpList_append_rd (by first | rfl | simp [Region.wanted] | simp [Region.wanted, yielded]) _ _ 24 (by rfl) w.heap.size 5 i0 (.int .u8 0) 1 1 Tryd.underlying24 hinf hz0 hz1 hz2 rfl (by decide) _ 0 [] (by rfl) HO.out.1 (.slice a n c) n (bys l) _ (by rfl) (by have h9 := HR.out.below HO.out.2 (Nat.le_refl _); rw [HN.out] at h9; exact h9) (bys_one _) (by unfold maxLen; omega) (by omega) HO.out.2.size ?_
  intro v2 w2 hown2 hg2
  have hb2 : Below w.heap.size w w2 := below_append HO.out.2 hg2 HO.out.1 (Nat.le_refl _) HO.out.2.size
  rw [Nat.zero_add, List.nil_append] at hown2
  have hb0 := hb2.size
  have hown2' : w2.ownsRow w.heap.size 5 1 v2 (n + 0) (bys (l ++ (List.range 0).map (mb 1))) := by simpa using hown2
  clear hown2 hg2 HO
  go_wp2_with fail
  go_loopw [3, 4] (fun o i wr => ∃ k : Nat, i = .int .i64 k ∧ k ≤ 12 ∧ wr.ownsRow w.heap.size 5 1 o (n + k) (bys (l ++ (List.range k).map (mb 1))) ∧ Below w.heap.size w wr) (fun _ i _ => 12 - (intOf i).toNat)
  case atStart => exact ⟨0, rfl, by omega, hown2', hb2⟩
  case round =>
    obtain ⟨k, rfl, hk, hown, hB⟩ := hrel
    by_cases hk12 : k < 12
    · obtain ⟨x, hx⟩ : ∃ x, mb 1 k = x := ⟨_, rfl⟩
      have hG : (List.range (k + 1)).map (mb 1) = (List.range k).map (mb 1) ++ [x] := by rw [List.range_succ, List.map_append, ← hx]; rfl
      have HX := Lib.hid (And.intro hx (And.intro hown (And.intro hG hB)))
      have hsz := hB.size
      clear hx hown hG hB hown2'
      go_wp2_with (first
        | (go_at_call 51; refine (markByte_any 1 k _ (by omega) (by omega)).mono ?_; rintro e w5 ⟨rfl, rfl⟩; rw [HX.out.1])
        | (at_builtin; refine stop_of ?_))
      unfold Stop
      obtain ⟨-, hown, hG, hB⟩ := HX.out
      have hown5 := own_below hown ((Below.refl wr.heap.size wr).alloc (Nat.le_refl _) (.cells #[.int .u8 (x : Int)] 5))
      have hB5 : Below w.heap.size w (wr.alloc (.cells #[.int .u8 (x : Int)] 5)) := hB.alloc hB.size _
      have hnew : ∀ j u, (bys [x])[j]? = some u → (wr.alloc (.cells #[.int .u8 (x : Int)] 5)).cell? ((⟨wr.heap.size, 0, none⟩ : Addr).add j) = some u := by
        intro j u hu
        rw [addr_add, (Row.new wr 5 #[.int .u8 (x : Int)]).cell (0 + j), Nat.zero_add]
        simpa [bys] using hu
      have hbs5 := hB5.size
      refine wpList_append_own _ rfl _ _ 24 rfl w.heap.size 5 i0 (.int .u8 0) 1 1 Tryd.underlying24 hinf hz0 hz1 hz2 rfl (by decide) u3 (n + k) (bys (l ++ (List.range k).map (mb 1))) rfl hown5 ⟨wr.heap.size, 0, none⟩ 1 1 (bys [x]) rfl (by simp) hnew (bys_one [x]) (by unfold maxLen; omega) (by omega) (by omega) ?_
      intro v' w8 hown1 hgrow _
      have hB8 := below_append hB5 hgrow hown5 (by omega) hbs5
      have HY := Lib.hid (And.intro hown1 (And.intro hB8 hG))
      clear hown1 hgrow hown5 hB5 hnew hG hown hB HX
      go_wp2_with fail
      go_roundw
      case rel =>
        obtain ⟨h1, h2, h3⟩ := HY.out
        refine ⟨k + 1, by go_num, by omega, ?_, h2⟩
        rw [h3, ← List.append_assoc, bys_append]
        exact h1
      case measure => simp [intOf]; omega
    · obtain rfl : k = 12 := by omega
      obtain ⟨a', c', rfl⟩ := own_shape hown
      obtain ⟨g, rfl, -, -, -, hc1, hc2⟩ := own_some hown (by omega)
      unfold maxLen at hc2
      have HX := Lib.hid (And.intro hown hB)
      clear hown hB hown2'
      go_wp2_with fail
      go_ret
      exact ⟨g, c', rfl, hc1, HX.out.1, HX.out.2⟩

end Go.Proofs.YtbgiiijdabpbcaaDoor
