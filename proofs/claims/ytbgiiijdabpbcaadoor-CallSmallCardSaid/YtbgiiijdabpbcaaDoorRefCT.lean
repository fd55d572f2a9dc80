/- finesseref08.TextAll -/
import Derived.Test.YtbgiiijdabpbcaaDoorRefCB
import Derived.Test.YtbgiiijdabpbcaaDoorCallU
import Derived.Test.YtbgiiijdabpbcaaDoorKitB
namespace Go.Proofs.YtbgiiijdabpbcaaDoor
open Go.RowKit
set_option linter.unusedVariables false
set_option linter.unusedSimpArgs false
set_option maxRecDepth 100000
set_option maxHeartbeats 2000000

theorem text_first {l : List Nat} {k x : Nat} {S : List UInt8} (hk : k < l.length) (hx : l[k] = x) (hx38 : x < 38) (h : (S = textL (l.take k) ∧ ∀ c ∈ l.take k, c < 38) ∧ k = 0) :
    S ++ nm x = textL (l.take (k + 1)) ∧ ∀ c ∈ l.take (k + 1), c < 38 := by
  obtain ⟨⟨h1, h2⟩, rfl⟩ := h
  rw [List.take_succ_eq_append_getElem hk, hx, h1]
  have ht : txtC x = nm x := by unfold txtC; rw [if_pos hx38]
  refine ⟨?_, ?_⟩
  · show textL [] ++ nm x = textL [x]
    unfold textL
    rw [List.map_cons, List.map_nil, Lib.join_one, ht, Lib.join_nil]
    rfl
  · intro c hc
    simp at hc
    omega

theorem join_snoc (xs : List (List UInt8)) (y : List UInt8) (h : xs ≠ []) : Lib.join (xs ++ [y]) [32] = Lib.join xs [32] ++ [32] ++ y := by
  induction xs with
  | nil => exact absurd rfl h
  | cons x r ih =>
    cases r with
    | nil =>
      show Lib.join (x :: y :: []) [32] = _
      rw [join_two, Lib.join_one, Lib.join_one]
      simp
    | cons z r =>
      have hi := ih (by simp)
      show Lib.join (x :: z :: (r ++ [y])) [32] = _
      rw [join_two, join_two]
      have e : z :: (r ++ [y]) = (z :: r) ++ [y] := rfl
      rw [e, hi]
      simp

theorem text_next {l : List Nat} {k x : Nat} {S : List UInt8} (hk : k < l.length) (hx : l[k] = x) (hx38 : x < 38) (h : (S = textL (l.take k) ∧ ∀ c ∈ l.take k, c < 38) ∧ ¬ k = 0) :
    S ++ [32] ++ nm x = textL (l.take (k + 1)) ∧ ∀ c ∈ l.take (k + 1), c < 38 := by
  obtain ⟨⟨h1, h2⟩, h3⟩ := h
  rw [List.take_succ_eq_append_getElem hk, hx, h1]
  have ht : txtC x = nm x := by unfold txtC; rw [if_pos hx38]
  refine ⟨?_, ?_⟩
  · unfold textL
    rw [List.map_append, List.map_cons, List.map_nil, ht, join_snoc]
    intro e
    have h4 : (List.map txtC (l.take k)).length = k := by rw [List.length_map, List.length_take]; omega
    rw [e, List.length_nil] at h4
    omega
  · intro c hc
    rcases List.mem_append.1 hc with h | h
    · exact h2 c h
    · simp at h; omega

theorem refTextAll_any (v : Value) (l : List Nat) (w : World) (hrd : Rd w.heap.size w 1 v l.length (bys l)) (hl : ∀ c ∈ l, c < 256) (hll : l.length ≤ 1000) :
    Calls Tryd.prog 33 #[v] w fun e w' => e = .returned (vTextAll l) ∧ Below w.heap.size w w' := by
  obtain ⟨a, c, rfl⟩ := hrd.shape
  obtain ⟨R, hR⟩ : ∃ R, vTextAll l = R := ⟨_, rfl⟩
  have HR := Lib.hid hR
  rw [hR]
  clear hR
  have HD := Lib.hid hrd
  obtain ⟨n, hn⟩ : ∃ n, l.length = n := ⟨_, rfl⟩
  have HN := Lib.hid hn
  rw [hn] at hll ⊢
  clear hn hrd
  by_cases h319 : 319 < n
  · have hv : R = .tuple #[.string ⟨#[]⟩, .int .i64 5] := by rw [← HR.out]; unfold vTextAll; rw [HN.out, if_pos h319]
    subst hv
    have g : decide ((319 : Int) < (n : Int)) = true := by simp; omega
    go_enter Tryd.func33, Tryd.ntmps33
    go_wp2_with fail
    exact bodyPost_ret (results_tmp2 rfl _ _ _) rfl ⟨rfl, Below.refl _ _⟩
  · have g : decide ((319 : Int) < (n : Int)) = false := by simp; omega
    go_enter Tryd.func33, Tryd.ntmps33
    go_wp2_with fail
    go_loopw [4, 5] (fun s i wr => ∃ (k : Nat) (S : List UInt8), s = vS S ∧ S.length ≤ 4 * k ∧ i = .int .i64 k ∧ k ≤ n ∧ Hid (S = textL (l.take k) ∧ ∀ c ∈ l.take k, c < 38) ∧ Below w.heap.size w wr) (fun _ i _ => n - (intOf i).toNat)
    case atStart => exact ⟨0, [], rfl, by simp, rfl, by omega, Lib.hid ⟨rfl, by simp⟩, Below.refl _ _⟩
    case round =>
      obtain ⟨k, S, rfl, hSl, rfl, hk, hG, hB⟩ := hrel
      have hszr := hB.size
      by_cases hlt : k < n
      · have hkl : k < l.length := by have := HN.out; omega
        obtain ⟨b, off, cc, hvv, hbb, hcap, -, hcell⟩ := HD.out.bytes (by omega)
        cases hvv
        have hcx := hcell k hkl
        obtain ⟨x, hx⟩ : ∃ x, l.getD k 0 = x := ⟨_, rfl⟩
        have hx2 : l[k] = x := by rw [← hx, List.getD_eq_getElem?_getD, List.getElem?_eq_getElem hkl]; rfl
        have hx256 : x < 256 := by rw [← hx2]; exact hl _ (List.getElem_mem hkl)
        rw [hx] at hcx
        have hcr : wr.cell? ⟨b, off + k, none⟩ = some (.int .u8 (x : Int)) := (hB.cell (p := ⟨b, off + k, none⟩) hbb).trans hcx
        have hcc : n ≤ c := by have := HN.out; omega
        have HX := Lib.hid (And.intro hx2 hcx)
        clear hx hx2 hcell hcx
        by_cases hx38 : x < 38
        · have hr : decide (x < 38) = true := by simpa using hx38
          have hnl : (nm x).length ≤ 3 := (nm_plain x hx38).2.1
          by_cases hk0 : k = 0
          · have gk : decide ((0 : Int) < (k : Int)) = false := by simp; omega
            have gkn : decide (0 < k) = false := by simp; omega
            have hS4 : S.length ≤ 4 * k := hSl
            have HS := Lib.hid (And.intro hG.out hk0)
            clear hk0 hG hSl
            obtain ⟨S0, hS0⟩ : ∃ S0 : ByteArray, (⟨S.toArray⟩ : ByteArray) = S0 := ⟨_, rfl⟩
            have hS0z : S0.size ≤ 4 * k := by rw [← hS0]; simpa [ByteArray.size] using hS4
            unfold vS
            rw [hS0]
            obtain ⟨N0, hN0⟩ : ∃ N0 : ByteArray, (⟨(nm x).toArray⟩ : ByteArray) = N0 := ⟨_, rfl⟩
            have hN0z : N0.size ≤ 3 := by rw [← hN0]; simpa [ByteArray.size] using hnl
            have hq : ¬ (9223372036854775807 < S0.size + N0.size) := by omega
            go_wp2_with (go_at_call 31; refine (refRight_any x _ hx256).mono ?_; rintro e w1 ⟨rfl, hb1⟩; rw [hr])
            have hB1 := hB.trans (hb1.mono hB.size)
            have hcr1 : w1.cell? ⟨b, off + k, none⟩ = some (.int .u8 (x : Int)) := (hB1.cell (p := ⟨b, off + k, none⟩) hbb).trans HX.out.2
            go_region_with (go_at_call 50; refine (refNames_any _).mono ?_; rintro e w5 ⟨rfl, hnm⟩; have hcn : w5.cell? ⟨w1.heap.size, x, none⟩ = some (.string N0) := (by rw [← hN0]; exact hnm.1 x hx38); have hcr5 : w5.cell? ⟨b, off + k, none⟩ = some (.int .u8 (x : Int)) := ((hB1.drew.trans (hnm.2.1.mono hB1.drew.size)).cell (p := ⟨b, off + k, none⟩) hbb).trans HX.out.2)
            all_goals
              have hB5 : Below w.heap.size w w5 := hB1.drew.trans (hnm.2.1.mono hB1.drew.size)
              have HZ := Lib.hid (And.intro hS0 (And.intro hN0 hB5))
              clear hS0 hN0 hB5 hnm hcn hcr5 hcr1 hB1 hb1 hB hcr hq hS0z hN0z
              go_wp2_with fail
              go_roundw
              case rel =>
                obtain ⟨z1, z2, z3⟩ := HZ.out
                refine ⟨k + 1, S ++ nm x, ?_, ?_, by go_num, by omega, Lib.hid ?_, z3⟩
                · rw [← z1, ← z2]; rw [cat_two]
                · rw [List.length_append]; omega
                · exact text_first hkl HX.out.1 hx38 HS.out
              case measure => simp [intOf]; omega
          · have gk : decide ((0 : Int) < (k : Int)) = true := by simp; omega
            have gkn : decide (0 < k) = true := by simp; omega
            have hS4 : S.length ≤ 4 * k := hSl
            have HS := Lib.hid (And.intro hG.out hk0)
            clear hk0 hG hSl
            obtain ⟨S0, hS0⟩ : ∃ S0 : ByteArray, (⟨S.toArray⟩ : ByteArray) = S0 := ⟨_, rfl⟩
            have hS0z : S0.size ≤ 4 * k := by rw [← hS0]; simpa [ByteArray.size] using hS4
            unfold vS
            rw [hS0]
            obtain ⟨N0, hN0⟩ : ∃ N0 : ByteArray, (⟨(nm x).toArray⟩ : ByteArray) = N0 := ⟨_, rfl⟩
            have hN0z : N0.size ≤ 3 := by rw [← hN0]; simpa [ByteArray.size] using hnl
            have hq : ¬ (9223372036854775807 < S0.size + 1 + N0.size) := by omega
            have hq1 : ¬ (9223372036854775807 < S0.size + 1) := by omega
            go_wp2_with (go_at_call 31; refine (refRight_any x _ hx256).mono ?_; rintro e w1 ⟨rfl, hb1⟩; rw [hr])
            have hB1 := hB.trans (hb1.mono hB.size)
            have hcr1 : w1.cell? ⟨b, off + k, none⟩ = some (.int .u8 (x : Int)) := (hB1.cell (p := ⟨b, off + k, none⟩) hbb).trans HX.out.2
            go_region_with (go_at_call 50; refine (refNames_any _).mono ?_; rintro e w5 ⟨rfl, hnm⟩; have hcn : w5.cell? ⟨w1.heap.size, x, none⟩ = some (.string N0) := (by rw [← hN0]; exact hnm.1 x hx38); have hcr5 : w5.cell? ⟨b, off + k, none⟩ = some (.int .u8 (x : Int)) := ((hB1.drew.trans (hnm.2.1.mono hB1.drew.size)).cell (p := ⟨b, off + k, none⟩) hbb).trans HX.out.2)
            all_goals
              have hB5 : Below w.heap.size w w5 := hB1.drew.trans (hnm.2.1.mono hB1.drew.size)
              have HZ := Lib.hid (And.intro hS0 (And.intro hN0 hB5))
              clear hS0 hN0 hB5 hnm hcn hcr5 hcr1 hB1 hb1 hB hcr hq hq1 hS0z hN0z
              go_wp2_with fail
              go_roundw
              case rel =>
                obtain ⟨z1, z2, z3⟩ := HZ.out
                refine ⟨k + 1, S ++ [32] ++ nm x, ?_, ?_, by go_num, by omega, Lib.hid ?_, z3⟩
                · rw [← z1, ← z2]; rw [cat_one, cat_two]
                · rw [List.length_append, List.length_append, List.length_singleton]; omega
                · exact text_next hkl HX.out.1 hx38 HS.out
              case measure => simp [intOf]; omega
        · have hr : decide (x < 38) = false := by simpa using hx38
          have hv : R = .tuple #[.string ⟨#[]⟩, .int .i64 80] := by
            rw [← HR.out]
            unfold vTextAll
            rw [HN.out, if_neg h319, if_neg]
            · intro h
              rw [List.all_eq_true] at h
              have := h x (by rw [← HX.out.1]; exact List.getElem_mem hkl)
              simp at this
              exact hx38 this
          subst hv
          go_wp2_with (go_at_call 31; refine (refRight_any x _ hx256).mono ?_; rintro e w1 ⟨rfl, hb1⟩; rw [hr])
          exact bodyPost_ret (results_tmp2 rfl _ _ _) rfl ⟨rfl, hB.trans (hb1.mono hB.size)⟩
      · have hkn : k = n := by omega
        have hv : R = .tuple #[vS S, .int .i64 0] := by
          have ht : l.take k = l := List.take_of_length_le (by have := HN.out; omega)
          have hg := hG.out
          rw [ht] at hg
          rw [← HR.out]
          unfold vTextAll
          rw [HN.out, if_neg h319, if_pos (by rw [List.all_eq_true]; intro c hc; simpa using hg.2 c hc), ← hg.1]
        subst hv
        have gl : decide ((k : Int) < (n : Int)) = false := by simp; omega
        clear hkn hG
        go_wp2_with fail
        exact bodyPost_ret (results_tmp2 rfl _ _ _) rfl ⟨rfl, hB⟩

end Go.Proofs.YtbgiiijdabpbcaaDoor
