/- finessekit.SameBytes, in general -/
import Derived.Test.YtbgiiijdabpbcaaDoorKitB
namespace Go.Proofs.YtbgiiijdabpbcaaDoor
open Go.RowKit
set_option linter.unusedVariables false
set_option linter.unusedSimpArgs false
set_option maxRecDepth 100000
set_option maxHeartbeats 2000000

theorem SameBytes_any (va vb : Value) (l m : List Nat) (w : World) (ha : Rd w.heap.size w 1 va l.length (bys l)) (hb : Rd w.heap.size w 1 vb m.length (bys m)) :
    Calls Tryd.prog 24 #[va, vb] w fun e w' => e = .returned (.bool (decide (l = m))) ∧ ∃ k, w' = w.drewN k := by
  by_cases hlm : l = m
  · subst hlm
    rw [decide_eq_true rfl]
    exact SameBytes_yes va vb l w ha hb
  · rw [decide_eq_false hlm]
    have hlen := ha.len
    have hlen2 := hb.len
    unfold maxLen at hlen hlen2
    by_cases hl : l.length = m.length
    · have hn : 0 < l.length := by
        rcases Nat.eq_zero_or_pos l.length with h | h
        · exact absurd ((List.eq_nil_of_length_eq_zero h).trans (List.eq_nil_of_length_eq_zero (by omega)).symm) hlm
        · exact h
      obtain ⟨b1, o1, c1, rfl, -, -, -, hc1⟩ := ha.bytes hn
      obtain ⟨b2, o2, c2, rfl, -, -, -, hc2⟩ := hb.bytes (by omega)
      obtain ⟨n, hn2⟩ : ∃ n, l.length = n := ⟨_, rfl⟩
      have hm2 : m.length = n := by omega
      rw [hn2] at hc1 hlen hn ⊢
      rw [hm2] at hc2 ⊢
      have H1 := Lib.hid hc1
      have H2 := Lib.hid hc2
      have HN := Lib.hid (And.intro hn2 (And.intro hm2 hlm))
      clear hc1 hc2 ha hb hlen2 hl hn2 hm2 hlm hn
      go_enter Tryd.func24, Tryd.ntmps24
      go_wp2_with fail
      go_loopw [5] (fun i wr => ∃ k : Nat, i = .int .i64 k ∧ k ≤ n ∧ Hid (l.take k = m.take k) ∧ ∃ j, wr = w.drewN j) (fun i _ => n - (intOf i).toNat)
      case atStart => exact ⟨0, rfl, by omega, Lib.hid rfl, 0, rfl⟩
      case round =>
        obtain ⟨k, rfl, hk, hG, j, rfl⟩ := hrel
        by_cases hk' : k < n
        · have e1 := H1.out k hk'
          have e2 := H2.out k hk'
          have hkl : k < l.length := by have := HN.out.1; omega
          have hkm : k < m.length := by have := HN.out.2.1; omega
          obtain ⟨x, hx⟩ : ∃ x, l.getD k 0 = x := ⟨_, rfl⟩
          obtain ⟨y, hy⟩ : ∃ y, m.getD k 0 = y := ⟨_, rfl⟩
          rw [hx] at e1
          rw [hy] at e2
          have hx2 : l[k] = x := by rw [← hx, List.getD_eq_getElem?_getD, List.getElem?_eq_getElem hkl]; rfl
          have hy2 : m[k] = y := by rw [← hy, List.getD_eq_getElem?_getD, List.getElem?_eq_getElem hkm]; rfl
          clear hx hy
          by_cases hxy : x = y
          · subst hxy
            have HG := Lib.hid (show l.take (k + 1) = m.take (k + 1) by rw [List.take_succ_eq_append_getElem hkl, List.take_succ_eq_append_getElem hkm, hG.out, hx2, hy2])
            clear hx2 hy2 hG
            go_wp2_with fail
            go_quiet (fail)
            go_wp2_with fail
            go_roundw
            case rel => exact ⟨k + 1, by go_num, by omega, HG, _, rfl⟩
            case measure => simp [intOf]; omega
          · have g1 : decide (x = y) = false := by simpa using hxy
            have g2 : ((x : Int) == (y : Int)) = false := by rw [beq_eq_false_iff_ne]; omega
            clear hx2 hy2 hG hxy
            go_wp2_with fail
            go_quiet (fail)
            go_wp2_with fail
            go_ret
            exact ⟨rfl, _, by simp only [World.drewN_drewN]; rfl⟩
        · have h1 := hG.out
          rw [List.take_of_length_le (by have := HN.out.1; omega), List.take_of_length_le (by have := HN.out.2.1; omega)] at h1
          exact absurd h1 HN.out.2.2
    · obtain ⟨a1, c1, rfl⟩ := ha.shape
      obtain ⟨a2, c2, rfl⟩ := hb.shape
      obtain ⟨n1, hn1⟩ : ∃ n, l.length = n := ⟨_, rfl⟩
      obtain ⟨n2, hn2⟩ : ∃ n, m.length = n := ⟨_, rfl⟩
      rw [hn1, hn2] at hl ⊢
      have g1 : decide (n1 = n2) = false := by simpa using hl
      have g2 : ((n1 : Int) == (n2 : Int)) = false := by rw [beq_eq_false_iff_ne]; omega
      clear ha hb hn1 hn2 hl hlm hlen hlen2
      go_enter Tryd.func24, Tryd.ntmps24
      go_wp2_with fail
      go_ret
      exact ⟨rfl, 0, rfl⟩

end Go.Proofs.YtbgiiijdabpbcaaDoor
