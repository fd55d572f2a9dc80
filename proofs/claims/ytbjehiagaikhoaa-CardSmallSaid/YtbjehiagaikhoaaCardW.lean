/- card: Write -/
import Derived.Test.YtbjehiagaikhoaaProg
import Derived.Test.YtbjehiagaikhoaaCardL
import Derived.Test.YtbjehiagaikhoaaShelf
namespace Go.Proofs.Ytbjehiagaikhoaa
open Go.RowKit
attribute [local go_sem] Oper.semAt_some
set_option linter.unusedVariables false
set_option maxRecDepth 100000

/-- the character of a rank -/
def rankB (r : Nat) : UInt8 := [50, 51, 52, 53, 54, 55, 56, 57, 84, 74, 81, 75, 65].getD r 0

/-- what a suit's part of the text holds after these cards -/
def partW (pre : List Nat) (k : Nat) : List UInt8 := (pre.filter fun c => 3 - c / 13 == k).map fun c => rankB (c % 13)

theorem partW_snoc (pre : List Nat) (x k : Nat) : partW (pre ++ [x]) k = partW pre k ++ (if 3 - x / 13 = k then [rankB (x % 13)] else []) := by
  unfold partW
  rw [List.filter_append, List.map_append]
  by_cases h : 3 - x / 13 = k
  · simp [h]
  · simp [h]

theorem partW_len (pre : List Nat) (k : Nat) : (partW pre k).length ≤ pre.length := by
  unfold partW
  rw [List.length_map]
  exact List.length_filter_le _ _

abbrev vS (l : List UInt8) : Value := .string ⟨l.toArray⟩

abbrev cells4 (pre : List Nat) : Array Value := #[vS (partW pre 0), vS (partW pre 1), vS (partW pre 2), vS (partW pre 3)]

theorem cells4_get (pre : List Nat) (k : Nat) (hk : k < 4) : (cells4 pre)[k]? = some (vS (partW pre k)) := by
  have h4 : k = 0 ∨ k = 1 ∨ k = 2 ∨ k = 3 := by omega
  rcases h4 with rfl | rfl | rfl | rfl <;> rfl

theorem cells4_set (pre : List Nat) (x k : Nat) (hk : 3 - x / 13 = k) : (cells4 pre).setIfInBounds k (vS (partW pre k ++ [rankB (x % 13)])) = cells4 (pre ++ [x]) := by
  have h4 : k = 0 ∨ k = 1 ∨ k = 2 ∨ k = 3 := by omega
  unfold cells4
  rw [partW_snoc, partW_snoc, partW_snoc, partW_snoc]
  rcases h4 with rfl | rfl | rfl | rfl <;> simp [hk]

/-- the text of a set -/
def wtext (m : Nat) : List UInt8 := partW (downs m 52) 0 ++ 46 :: (partW (downs m 52) 1 ++ 46 :: (partW (downs m 52) 2 ++ 46 :: partW (downs m 52) 3))

theorem ranks_cut (r : Nat) (hr : r < 13) : (⟨#[50, 51, 52, 53, 54, 55, 56, 57, 84, 74, 81, 75, 65]⟩ : ByteArray).extract r (r + 1) = ⟨#[rankB r]⟩ := by
  revert hr; revert r; decide

theorem cat_one (l : List UInt8) (b : UInt8) : (⟨l.toArray⟩ : ByteArray) ++ (⟨#[b]⟩ : ByteArray) = ⟨(l ++ [b]).toArray⟩ := by
  apply ByteArray.ext
  simp

theorem Write_no (m : Nat) (w : World) (hm : m < 18446744073709551616) (h : ¬ m < 4503599627370496) :
    Calls Try.prog 19 #[.int .u64 (m : Int)] w fun e w' => e = .returned (.tuple #[.string ⟨#[]⟩, .int .i64 41]) ∧ w = w' := by
  refine callsIn_wide.1 ((callsIn_of_wp_marks (F := Fence.wide) (n := 0) Try.func19 rfl trivial ?_ rfl))
  simp only [Try.ntmps19, List.size_toArray, List.length_cons, List.length_nil, Nat.reduceAdd, Nat.reduceSub, Array.replicate_succ, Array.replicate_zero, List.push_toArray, List.append_toArray, List.nil_append, List.cons_append]
  have hfn : ∀ f, Fence.wide.fn f := fun _ => trivial
  have hdep : Fence.wide.depth = none := rfl
  have hd : decide (m < 4503599627370496) = false := by simpa using h
  gi_wp2_with (gi_at_call 37; refine (callsIn_wide.2 (whole_any m _ hm)).mono ?_; rintro e w' ⟨rfl, rfl⟩; rw [hd])
  exact ends_plain rfl (results_tmp2 rfl _ _ _) ⟨rfl, rfl⟩

theorem Write_yes (m : Nat) (w : World) (h : m < 4503599627370496) :
    Calls Try.prog 19 #[.int .u64 (m : Int)] w fun e w' => e = .returned (.tuple #[vS (wtext m), .int .i64 0]) ∧ Below w.heap.size w w' := by
  have hm : m < 18446744073709551616 := by omega
  unfold wtext
  obtain ⟨xs, hxs⟩ : ∃ xs, downs m 52 = xs := ⟨_, rfl⟩
  have hbd : ∀ c ∈ xs, c < 52 := by rw [← hxs]; exact downs_lt m 52
  have hlen : xs.length ≤ 52 := by rw [← hxs]; exact downs_len m 52
  have HX := Lib.hid hxs
  rw [hxs]
  clear hxs
  refine callsIn_wide.1 ((callsIn_of_wp_marks (F := Fence.wide) (n := 0) Try.func19 rfl trivial ?_ rfl))
  simp only [Try.ntmps19, List.size_toArray, List.length_cons, List.length_nil, Nat.reduceAdd, Nat.reduceSub, Array.replicate_succ, Array.replicate_zero, List.push_toArray, List.append_toArray, List.nil_append, List.cons_append]
  have hfn : ∀ f, Fence.wide.fn f := fun _ => trivial
  have hdep : Fence.wide.depth = none := rfl
  have hd : decide (m < 4503599627370496) = true := by simpa using h
  gi_wp2_with (first
    | (gi_at_call 37; refine (callsIn_wide.2 (whole_any m _ hm)).mono ?_; rintro e w' ⟨rfl, rfl⟩; rw [hd])
    | (gi_at_call 29; refine (callsIn_wide.2 (cards_any m _)).mono ?_; rintro e w' ⟨rfl, rfl⟩))
  obtain ⟨w2, hw2⟩ : ∃ w2, (w.alloc (.cells #[.string ⟨#[]⟩, .string ⟨#[]⟩, .string ⟨#[]⟩, .string ⟨#[]⟩] 62)).alloc (.cells #[.int .u64 m] 22) = w2 := ⟨_, rfl⟩
  have hsz : w2.heap.size = w.heap.size + 2 := by rw [← hw2]; simp
  have hbs : Row w2 w.heap.size 62 (cells4 []) := by rw [← hw2]; exact (Row.new _ _ _).alloc _
  have hbk : Boxed w2 (w.heap.size + 1) 22 (.int .u64 (m : Int)) := by
    rw [← hw2]
    have := Boxed.new (w.alloc (.cells #[.string ⟨#[]⟩, .string ⟨#[]⟩, .string ⟨#[]⟩, .string ⟨#[]⟩] 62)) 22 (.int .u64 (m : Int))
    simpa using this
  have hbl : Below w.heap.size w w2 := by rw [← hw2]; exact ((Below.refl _ _).alloc (Nat.le_refl _) _).alloc (by simp) _
  rw [hw2]
  refine' wp_rangeIter (xs := xs) (encs := encC) (gf := 47) (lb := #[.pointer (some ⟨w.heap.size + 1, 0, none⟩)]) (w0 := w2) (a₁ := _) rfl (enters_of Try.func47 (by kernel_rfl) rfl)
    (by rw [← HX.out]; exact cards_iter (w.heap.size + 1) m w2 hm hbk) (Below.refl _ _) (fun _ => rfl) ?hAb ?hKt ?hKb
    (fun pre W => Row W w.heap.size 62 (cells4 pre) ∧ Below w.heap.size w W ∧ w.heap.size + 4 ≤ W.heap.size)
    (fun _ _ _ => False) ?hI ?hIx ?hIp ?hIxp ?h0 ?assign ?body ?done ?stop
  case assign =>
    intro l x W K hK
    simp only [encC]
    gi_wp2
    exact hK
  case hAb => exact fun A B h hs => KeepsAt.below h hs
  case hKt => exact fun h k => k.trans h
  case hKb => exact fun W o => World.putObj_heap_other (by omega)
  case hI =>
    rintro pre A B ⟨h1, h3, h4⟩ hab
    exact ⟨(hab.block _ h1.lt).trans h1, h3.trans (hab.mono h3.size), by have := hab.size; omega⟩
  case hIx => exact fun _ _ _ _ h _ => h
  case hIp =>
    rintro pre W o ⟨h1, h3, h4⟩
    exact ⟨(World.putObj_heap_other (by omega)).trans h1, Below.putObj h3 (by omega) o, by simpa using h4⟩
  case hIxp => exact fun _ _ _ _ h => h
  case h0 => exact fun o o' => ⟨(hbs.alloc o).alloc o', (hbl.alloc (by omega) o).alloc (by simp; omega) o', by simp; omega⟩
  case body =>
    rintro pre x W ⟨hB, hW, hsz4⟩ hpre hlt
    have hx : x < 52 := hbd x (hpre.subset (by simp))
    have hpl : pre.length < 52 := by have := hpre.length_le; simp at this; omega
    obtain ⟨k, hk⟩ : ∃ k, 3 - x / 13 = k := ⟨_, rfl⟩
    obtain ⟨r, hr⟩ : ∃ r, x % 13 = r := ⟨_, rfl⟩
    have hk4 : k < 4 := by omega
    have hr13 : r < 13 := by omega
    have hw1 : IntKind.u8.wrap ((x : Int) / 13) = (x : Int) / 13 := by rw [IntKind.wrap_u8]; omega
    have hw2 : IntKind.u8.wrap ((3 : Int) - (x : Int) / 13) = (k : Int) := by rw [IntKind.wrap_u8]; omega
    have hw3 : (x : Int).tmod 13 = (r : Int) := by rw [Int.tmod_eq_emod_of_nonneg (by omega)]; omega
    have hw4 : IntKind.u8.wrap ((r : Int) + 1) = (r : Int) + 1 := by rw [IntKind.wrap_u8]; omega
    have hw5 : (k : Int) < 4 := by omega
    have hw6 : (0 : Int) ≤ (r : Int) ∧ (r : Int) ≤ (r : Int) + 1 := by omega
    have hw7 : (r : Int) + 1 ≤ 13 := by omega
    have hw8 : ((k : Int)).toNat = k := by omega
    have hw9 : ((r : Int) + 1).toNat = r + 1 := by omega
    have hc : W.cell? ⟨w.heap.size, k, none⟩ = some (vS (partW pre k)) := by rw [hB.cell, cells4_get pre k hk4]
    have hf := hB.frozen k
    have hn0 : w.heap.size < W.heap.size := by omega
    have hpk : (partW pre k).length < 52 := Nat.lt_of_le_of_lt (partW_len pre k) hpl
    have hw10 : ¬ (9223372036854775807 < (partW pre k).length + (min (r + 1) 13 - r)) := by omega
    have HK := Lib.hid (And.intro hk hr)
    clear hk hr hpre hbd
    gi_wp2
    refine region_round (by kernel_rfl) (by kernel_rfl) ?_
    refine wpAnyIn_take (i := 0) (v := ?_) rfl rfl (by kernel_rfl) (by kernel_rfl) (by kernel_rfl) (fun _ _ _ h => h) ⟨Or.inl ⟨by rfl, ?_⟩, fun _ => rfl⟩ ?_
    rotate_left
    · intro w; go_simp; first | with_reducible rfl | (simp only [hw1, hw2, hw3, hw4, hw5, hw6, hw7, hw8, hw9, if_neg hw10, if_true, if_pos, true_and, and_self]; with_reducible rfl)
    refine wpAnyIn_take (i := 1) (v := ?_) rfl rfl (by kernel_rfl) (by kernel_rfl) (by kernel_rfl) (fun _ _ _ h => h) ⟨Or.inl ⟨by rfl, ?_⟩, fun _ => rfl⟩ ?_
    rotate_left
    · intro w; go_simp; first | with_reducible rfl | (simp only [hw1, hw2, hw3, hw4, hw5, hw6, hw7, hw8, hw9, if_neg hw10, if_true, if_pos, true_and, and_self]; with_reducible rfl)
    refine wpAnyIn_take (i := 2) (v := ?_) rfl rfl (by kernel_rfl) (by kernel_rfl) (by kernel_rfl) (fun _ _ _ h => h) ⟨Or.inl ⟨by rfl, ?_⟩, fun _ => rfl⟩ ?_
    rotate_left
    · intro w; go_simp; first | with_reducible rfl | (simp only [hw1, hw2, hw3, hw4, hw5, hw6, hw7, hw8, hw9, if_neg hw10, if_true, if_pos, true_and, and_self]; with_reducible rfl)
    refine wpAnyIn_take (i := 3) (v := ?_) rfl rfl (by kernel_rfl) (by kernel_rfl) (by kernel_rfl) (fun _ _ _ h => h) ⟨Or.inl ⟨by rfl, ?_⟩, fun _ => rfl⟩ ?_
    rotate_left
    · intro w; go_simp; first | with_reducible rfl | (simp only [hw1, hw2, hw3, hw4, hw5, hw6, hw7, hw8, hw9, if_neg hw10, if_true, if_pos, true_and, and_self]; with_reducible rfl)
    refine wpAnyIn_take (i := 5) (v := ?_) rfl rfl (by kernel_rfl) (by kernel_rfl) (by kernel_rfl) (fun _ _ _ h => h) ⟨Or.inl ⟨by rfl, ?_⟩, fun _ => rfl⟩ ?_
    rotate_left
    · intro w; go_simp; first | with_reducible rfl | (simp only [hw1, hw2, hw3, hw4, hw5, hw6, hw7, hw8, hw9, if_neg hw10, if_true, if_pos, true_and, and_self]; with_reducible rfl)
    refine wpAnyIn_take (i := 6) (v := ?_) rfl rfl (by kernel_rfl) (by kernel_rfl) (by kernel_rfl) (fun _ _ _ h => h) ⟨Or.inl ⟨by rfl, ?_⟩, fun _ => rfl⟩ ?_
    rotate_left
    · intro w; go_simp; first | with_reducible rfl | (simp only [hw1, hw2, hw3, hw4, hw5, hw6, hw7, hw8, hw9, if_neg hw10, if_true, if_pos, true_and, and_self]; with_reducible rfl)
    refine wpAnyIn_take (i := 7) (v := ?_) rfl rfl (by kernel_rfl) (by kernel_rfl) (by kernel_rfl) (fun _ _ _ h => h) ⟨Or.inl ⟨by rfl, ?_⟩, fun _ => rfl⟩ ?_
    rotate_left
    · intro w; go_simp; first | with_reducible rfl | (simp only [hw1, hw2, hw3, hw4, hw5, hw6, hw7, hw8, hw9, if_neg hw10, if_true, if_pos, true_and, and_self]; with_reducible rfl)
    refine wpAnyIn_take (i := 8) (v := ?_) rfl rfl (by kernel_rfl) (by kernel_rfl) (by kernel_rfl) (fun _ _ _ h => h) ⟨Or.inl ⟨by rfl, ?_⟩, fun _ => rfl⟩ ?_
    rotate_left
    · intro w; go_simp; first | with_reducible rfl | (simp only [hw1, hw2, hw3, hw4, hw5, hw6, hw7, hw8, hw9, if_neg hw10, if_true, if_pos, true_and, and_self]; with_reducible rfl)
    refine wpAnyIn_take (i := 9) (v := ?_) rfl rfl (by kernel_rfl) (by kernel_rfl) (by kernel_rfl) (fun _ _ _ h => h) ⟨Or.inl ⟨by rfl, ?_⟩, fun _ => rfl⟩ ?_
    rotate_left
    · intro w; go_simp; first | with_reducible rfl | (simp only [hw1, hw2, hw3, hw4, hw5, hw6, hw7, hw8, hw9, if_neg hw10, if_true, if_pos, true_and, and_self]; with_reducible rfl)
    refine wpAnyIn_take (i := 10) (v := ?_) rfl rfl (by kernel_rfl) (by kernel_rfl) (by kernel_rfl) (fun _ _ _ h => h) ⟨Or.inl ⟨by rfl, ?_⟩, fun _ => rfl⟩ ?_
    rotate_left
    · intro w; go_simp; first | with_reducible rfl | (simp only [hw1, hw2, hw3, hw4, hw5, hw6, hw7, hw8, hw9, if_neg hw10, if_true, if_pos, true_and, and_self]; with_reducible rfl)
    refine wpAnyIn_ready (rs := [4]) (by kernel_rfl) (by simp) ?_
    refine AllReadyIn.cons rfl (fun K hK => ?_) AllReadyIn.nil
    go_simp
    first | refine hK _ _ ?_ | (simp only [hw1, hw2, hw3, hw4, hw5, hw6, hw7, hw8, hw9, if_neg hw10, if_true, if_pos, true_and, and_self]; refine hK _ _ ?_)
    clear hK K
    refine wpAnyIn_ready (rs := [11]) (by kernel_rfl) (by simp) ?_
    refine AllReadyIn.cons rfl (fun K hK => ?_) AllReadyIn.nil
    go_simp
    first | refine hK _ _ ?_ | (simp only [hw1, hw2, hw3, hw4, hw5, hw6, hw7, hw8, hw9, if_neg hw10, if_true, if_pos, true_and, and_self]; refine hK _ _ ?_)
    clear hK K
    refine wpAnyIn_take (i := 12) (v := ?_) rfl rfl (by kernel_rfl) (by kernel_rfl) (by kernel_rfl) (fun _ _ _ h => h) ⟨Or.inl ⟨by rfl, ?_⟩, fun _ => rfl⟩ ?_
    rotate_left
    · intro w; go_simp; first | with_reducible rfl | (simp only [hw1, hw2, hw3, hw4, hw5, hw6, hw7, hw8, hw9, if_neg hw10, if_true, if_pos, true_and, and_self]; with_reducible rfl)
    refine wpAnyIn_ready (rs := [13]) (by kernel_rfl) (by simp) ?_
    refine AllReadyIn.cons rfl (fun K hK => ?_) AllReadyIn.nil
    go_simp
    first | refine hK _ _ ?_ | (simp only [hw1, hw2, hw3, hw4, hw5, hw6, hw7, hw8, hw9, if_neg hw10, if_true, if_pos, true_and, and_self]; refine hK _ _ ?_)
    clear hK K
    refine wpAnyIn_done (by kernel_rfl) ?_ _
    obtain ⟨k1, r1⟩ := HK.out
    have hcat : (⟨(partW pre k).toArray⟩ : ByteArray) ++ (⟨#[50, 51, 52, 53, 54, 55, 56, 57, 84, 74, 81, 75, 65]⟩ : ByteArray).extract r (r + 1) = ⟨(partW pre k ++ [rankB (x % 13)]).toArray⟩ := by
      rw [ranks_cut r hr13, r1]
      exact cat_one _ _
    rw [hcat]
    have hr2 := (hB.set k (vS (partW pre k ++ [rankB (x % 13)]))).drew
    rw [cells4_set pre x k k1] at hr2
    gi_wp2
    refine ⟨(KeepsAt.setCell _ (by simp; omega) _).trans (KeepsAt.drew _ _), Below.heap_setCell _ _ _ _ (by simp), hr2, (hW.setCell (p := ⟨w.heap.size, k, none⟩) (Nat.le_refl _) _).drew, by simp; omega⟩
  case done =>
    rintro W ⟨hB, hW, hsz4⟩ hK
    have p0 := partW_len xs 0
    have p1 := partW_len xs 1
    have p2 := partW_len xs 2
    have p3 := partW_len xs 3
    have hjoin := Try.strings_Join w.heap.size 0 4 [⟨(partW xs 0).toArray⟩, ⟨(partW xs 1).toArray⟩, ⟨(partW xs 2).toArray⟩, ⟨(partW xs 3).toArray⟩] ⟨#[46]⟩ W (by
        intro j x hj
        rw [Nat.zero_add, hB.cell]
        have hj4 : j < 4 := by have := (List.getElem?_eq_some_iff.1 hj).1; simpa using this
        have h4 : j = 0 ∨ j = 1 ∨ j = 2 ∨ j = 3 := by omega
        rcases h4 with rfl | rfl | rfl | rfl <;> (simp at hj; subst hj; rfl)) (by omega) (by simp) (by simp) (by simp [Lib.join]; omega)
    simp only [Lib.join, List.map_cons, List.map_nil, List.length_cons, List.length_nil] at hjoin
    gi_wp2_with (gi_at_call 38; refine (callsIn_wide.2 hjoin).mono ?_; rintro e w' ⟨rfl, hbj⟩)
    have hbl2 : Below w.heap.size w w' := hW.trans (hbj.mono hW.size)
    have hK2 := (hbj.block _ (Array.getElem?_eq_some_iff.1 hK).1).trans hK
    rw [hsz] at hK2
    exact ends_mark rfl hK2 (results_tmp2 rfl _ _ _) ⟨rfl, Below.putObj hbl2 (by omega) _⟩
  case stop => exact fun _ _ _ _ h => h.elim

end Go.Proofs.Ytbjehiagaikhoaa
