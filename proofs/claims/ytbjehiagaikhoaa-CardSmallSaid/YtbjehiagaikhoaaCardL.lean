/- card: List -/
import Derived.Test.YtbjehiagaikhoaaProg
import Derived.Test.YtbjehiagaikhoaaCardA
namespace Go.Proofs.Ytbjehiagaikhoaa
open Go.RowKit
attribute [local go_sem] Oper.semAt_some
set_option linter.unusedVariables false
set_option maxRecDepth 100000

/-- a list of bytes as cells -/
def bys (l : List Nat) : List Value := l.map fun (c : Nat) => .int .u8 (c : Int)
@[simp] theorem bys_length (l : List Nat) : (bys l).length = l.length := by simp [bys]
theorem bys_get {l : List Nat} {j c : Nat} (h : l[j]? = some c) : (bys l)[j]? = some (.int .u8 (c : Int)) := by simp [bys, h]
theorem bys_append (l m : List Nat) : bys (l ++ m) = bys l ++ bys m := by simp [bys]
theorem bys_one (l : List Nat) : ∀ u ∈ bys l, u.oneCell' = true := by
  intro u hu
  simp only [bys, List.mem_map] at hu
  obtain ⟨c, _, rfl⟩ := hu
  rfl

theorem own_putObj {w : World} {base r : Nat} {e : TypeId} {size : Nat} {v : Value} {n : Nat} {xs : List Value} (h : w.ownsRow base e size v n xs) (hr : r < base) (o : Obj) : (w.putObj r o).ownsRow base e size v n xs := by
  refine ⟨h.1, ?_⟩
  rcases h.2 with h | ⟨g, cap, cur, rfl, hb', hg, q⟩
  · exact .inl h
  · exact .inr ⟨g, cap, cur, rfl, hb', (World.putObj_heap_other (by omega)).trans hg, q⟩

theorem own_other {w : World} {base r j : Nat} {e : TypeId} {size : Nat} {v : Value} {n : Nat} {xs : List Value} (h : w.ownsRow base e size v n xs) (hr : r < base) (x : Value) : (w.setCell ⟨r, j, none⟩ x).ownsRow base e size v n xs := by
  refine ⟨h.1, ?_⟩
  rcases h.2 with h | ⟨g, cap, cur, rfl, hb', hg, q⟩
  · exact .inl h
  · exact .inr ⟨g, cap, cur, rfl, hb', (Below.heap_setCell w ⟨r, j, none⟩ x g (by show g ≠ r; omega)).trans hg, q⟩

theorem info_u8 : (Try.prog.info? 5).map (fun i => (i.zero, i.size, i.bytes)) = some (some (.int .u8 0), 1, 1) := by kernel_rfl

theorem List_no (m : Nat) (w : World) (hm : m < 18446744073709551616) (h : ¬ m < 4503599627370496) :
    Calls Try.prog 21 #[.int .u64 (m : Int)] w fun e w' => e = .returned (.tuple #[.slice none 0 0, .int .i64 41]) ∧ w = w' := by
  refine callsIn_wide.1 ((callsIn_of_wp_marks (F := Fence.wide) (n := 0) Try.func21 rfl trivial ?_ rfl))
  simp only [Try.ntmps21, List.size_toArray, List.length_cons, List.length_nil, Nat.reduceAdd, Nat.reduceSub, Array.replicate_succ, Array.replicate_zero, List.push_toArray, List.append_toArray, List.nil_append, List.cons_append]
  have hfn : ∀ f, Fence.wide.fn f := fun _ => trivial
  have hdep : Fence.wide.depth = none := rfl
  have hd : decide (m < 4503599627370496) = false := by simpa using h
  gi_wp2_with (gi_at_call 37; refine (callsIn_wide.2 (whole_any m _ hm)).mono ?_; rintro e w' ⟨rfl, rfl⟩; rw [hd])
  exact ends_plain rfl (results_tmp2 rfl _ _ _) ⟨rfl, rfl⟩

theorem List_yes (m : Nat) (w : World) (h : m < 4503599627370496) :
    Calls Try.prog 21 #[.int .u64 (m : Int)] w fun e w' => ∃ v, e = .returned (.tuple #[v, .int .i64 0]) ∧ w'.ownsRow w.heap.size 5 1 v (downs m 52).length (bys (downs m 52)) ∧ Below w.heap.size w w' := by
  have hm : m < 18446744073709551616 := by omega
  obtain ⟨xs, hxs⟩ : ∃ xs, downs m 52 = xs := ⟨_, rfl⟩
  have hbd : ∀ c ∈ xs, c < 52 := by rw [← hxs]; exact downs_lt m 52
  have hlen : xs.length ≤ 52 := by rw [← hxs]; exact downs_len m 52
  have HX := Lib.hid hxs
  rw [hxs]
  clear hxs
  obtain ⟨i0, hi, hz0, hz1, hz2⟩ := info_parts info_u8
  refine callsIn_wide.1 ((callsIn_of_wp_marks (F := Fence.wide) (n := 0) Try.func21 rfl trivial ?_ rfl))
  simp only [Try.ntmps21, List.size_toArray, List.length_cons, List.length_nil, Nat.reduceAdd, Nat.reduceSub, Array.replicate_succ, Array.replicate_zero, List.push_toArray, List.append_toArray, List.nil_append, List.cons_append]
  have hfn : ∀ f, Fence.wide.fn f := fun _ => trivial
  have hdep : Fence.wide.depth = none := rfl
  have hd : decide (m < 4503599627370496) = true := by simpa using h
  gi_wp2_with (first
    | (gi_at_call 37; refine (callsIn_wide.2 (whole_any m _ hm)).mono ?_; rintro e w' ⟨rfl, rfl⟩; rw [hd])
    | (gi_at_call 29; refine (callsIn_wide.2 (cards_any m _)).mono ?_; rintro e w' ⟨rfl, rfl⟩))
  obtain ⟨w2, hw2⟩ : ∃ w2, (w.alloc (.cells #[.slice none 0 0] 37)).alloc (.cells #[.int .u64 m] 22) = w2 := ⟨_, rfl⟩
  have hsz : w2.heap.size = w.heap.size + 2 := by rw [← hw2]; simp
  have hbs : Boxed w2 w.heap.size 37 (.slice none 0 0) := by rw [← hw2]; exact (Boxed.new _ _ _).alloc _
  have hbk : Boxed w2 (w.heap.size + 1) 22 (.int .u64 (m : Int)) := by
    rw [← hw2]
    have := Boxed.new (w.alloc (.cells #[.slice none 0 0] 37)) 22 (.int .u64 (m : Int))
    simpa using this
  have hbl : Below w.heap.size w w2 := by rw [← hw2]; exact ((Below.refl _ _).alloc (Nat.le_refl _) _).alloc (by simp) _
  rw [hw2]
  refine' wp_rangeIter (xs := xs) (encs := encC) (gf := 47) (lb := #[.pointer (some ⟨w.heap.size + 1, 0, none⟩)]) (w0 := w2) (a₁ := _) rfl (enters_of Try.func47 (by kernel_rfl) rfl)
    (by rw [← HX.out]; exact cards_iter (w.heap.size + 1) m w2 hm hbk) (Below.refl _ _) (fun _ => rfl) ?hAb ?hKt ?hKb
    (fun pre W => ∃ v, Boxed W w.heap.size 37 v ∧ W.ownsRow (w.heap.size + 4) 5 1 v pre.length (bys pre) ∧ Below w.heap.size w W ∧ w.heap.size + 4 ≤ W.heap.size)
    (fun _ _ _ => False) ?hI ?hIx ?hIp ?hIxp ?h0 ?assign ?body ?done ?stop
  case assign =>
    intro l x W K hK
    simp only [encC]
    gi_wp2
    exact hK
  case hAb => exact fun A B h hs => KeepsAt.below h hs
  case hKt => exact fun h k => k.trans h
  case hKb => exact fun W o => World.putObj_heap_other (by omega)
  case hI =>
    rintro pre A B ⟨v, h1, h2, h3, h4⟩ hab
    exact ⟨v, (hab.block _ h1.lt).trans h1, own_below h2 hab, h3.trans (hab.mono h3.size), by have := hab.size; omega⟩
  case hIx => exact fun _ _ _ _ h _ => h
  case hIp =>
    rintro pre W o ⟨v, h1, h2, h3, h4⟩
    exact ⟨v, (World.putObj_heap_other (by omega)).trans h1, own_putObj h2 (by omega) o, Below.putObj h3 (by omega) o, by simpa using h4⟩
  case hIxp => exact fun _ _ _ _ h => h
  case h0 => exact fun o o' => ⟨_, (hbs.alloc o).alloc o', ⟨rfl, .inl ⟨rfl, rfl⟩⟩, (hbl.alloc (by omega) o).alloc (by simp; omega) o', by simp; omega⟩
  case body =>
    rintro pre x W ⟨v, hB, hown, hW, hsz4⟩ hpre hlt
    have hx : x < 52 := hbd x (hpre.subset (by simp))
    have hpl : pre.length < 52 := by have := hpre.length_le; simp at this; omega
    have hc := hB.cell
    have hf := hB.frozen
    have hn0 : w.heap.size < W.heap.size := by omega
    obtain ⟨W', hW'⟩ : ∃ W', W.alloc (.cells #[.int .u8 (x : Int)] 5) = W' := ⟨_, rfl⟩
    have hown' : W'.ownsRow (w.heap.size + 4) 5 1 v pre.length (bys pre) := by rw [← hW']; exact own_below hown ((Below.refl _ _).alloc (Nat.le_refl _) _)
    have hB' : Boxed W' w.heap.size 37 v := by rw [← hW']; exact hB.alloc _
    have hbW : Below W.heap.size W W' := by rw [← hW']; exact (Below.refl _ _).alloc (Nat.le_refl _) _
    have hnew : ∀ j u, (bys [x])[j]? = some u → W'.cell? ((⟨W.heap.size, 0, none⟩ : Addr).add j) = some u := by
      intro j u hu
      rw [addr_add, ← hW']
      have hr := (Row.new W 5 #[.int .u8 (x : Int)]).cell (0 + j)
      rw [hr, Nat.zero_add]
      simpa [bys] using hu
    have HO := Lib.hid (And.intro hown' (And.intro hB' (And.intro hbW hnew)))
    have hs' : W'.heap.size = W.heap.size + 1 := by rw [← hW']; simp
    clear hown' hB' hbW hnew hown hpre hbd
    have hW'' := Lib.hid hW
    clear hW
    gi_wp2_with (gi_at_builtin; go_must (refine wpListIn_append_own _ rfl _ _ 37 rfl (w.heap.size + 4) 5 i0 (.int .u8 0) 1 1 Try.underlying37 hi hz0 hz1 hz2 rfl (by decide) v pre.length (bys pre) rfl HO.out.1 ⟨W.heap.size, 0, none⟩ 1 1 (bys [x]) rfl (by simp) HO.out.2.2.2 (bys_one [x]) (by simp [maxLen]; omega) (by omega) (by omega) ?_); intro v' w1 hown1 hgrow _; obtain ⟨a', c', rfl⟩ := own_shape hown1; have hB1 := HO.out.2.1.kept hgrow (fun e => absurd (HO.out.1.lt _ e.symm).1 (by omega)); have hc1 := hB1.cell; have hf1 := hB1.frozen)
    obtain ⟨h1, h2, h3, -⟩ := HO.out
    have hsz1 := hgrow.size
    have hks := KeepsAt.below h3 (n := w2.heap.size) (by omega)
    have hkg : KeepsAt w2.heap.size W' w1 := KeepsAt.grown hgrow (by omega) (fun k e => by have := (h1.lt _ e).1; omega)
    have hkk : w1.heap[w.heap.size + 1]? = W.heap[w.heap.size + 1]? := (hgrow.block _ (by omega) (fun e => by have := (h1.lt _ e.symm).1; omega)).trans (h3.block _ (by omega))
    refine ⟨(hks.trans hkg).trans (KeepsAt.setCell _ (by simp; omega) _), (Below.heap_setCell _ _ _ _ (by simp)).trans hkk, _, hB1.set _, ?_, ?_, by simp; omega⟩
    · rw [bys_append, List.length_append]
      exact own_other hown1 (by omega) _
    · exact (below_append (hW''.out.trans (h3.mono (by omega))) hgrow h1 (by omega) (by omega)).setCell (p := ⟨w.heap.size, 0, none⟩) (Nat.le_refl _) _
  case done =>
    rintro W ⟨v, hB, hown, hW, hsz4⟩ hK
    have hc := hB.cell
    gi_wp2
    exact ends_mark rfl hK (results_tmp2 rfl _ _ _) ⟨_, rfl, own_mono (own_putObj hown (by omega) _) (by omega), Below.putObj hW (by omega) _⟩
  case stop => exact fun _ _ _ _ h => h.elim

end Go.Proofs.Ytbjehiagaikhoaa
