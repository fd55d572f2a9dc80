/- made: the calls that numbers make; SameBytes, in general -/
import Derived.Test.YtbgiiijdabpbcaaDoorCallV
import Derived.Test.YtbgiiijdabpbcaaDoorKitB
namespace Go.Proofs.YtbgiiijdabpbcaaDoor
open Go.RowKit
set_option linter.unusedVariables false
set_option linter.unusedSimpArgs false
set_option maxRecDepth 100000
set_option maxHeartbeats 2000000

def madeL (l : List Nat) : List Nat := (l.take 319).map (· % 38)

theorem madeL_lt (l : List Nat) : ∀ c ∈ madeL l, c < 38 := by
  intro c hc
  unfold madeL at hc
  rw [List.mem_map] at hc
  obtain ⟨x, _, rfl⟩ := hc
  omega

theorem madeL_len (l : List Nat) : (madeL l).length ≤ 319 := by unfold madeL; simp; omega

theorem Rd.takeB {B : Nat} {w : World} {a : Option Addr} {c n m : Nat} {l : List Nat} (h : Rd B w 1 (.slice a n c) n (bys l)) (hm : m ≤ n) : Rd B w 1 (.slice a m c) m (bys (l.take m)) := by
  have hl : l.length = n := by simpa using h.1
  refine ⟨by simp; omega, ?_⟩
  rcases h.2 with ⟨rfl, a', c', hv, hz⟩ | ⟨h0, b, off, c', hv, h1, h2, h3, h4, h5⟩
  · cases hv
    obtain rfl : m = 0 := by omega
    exact .inl ⟨rfl, _, _, rfl, hz⟩
  · cases hv
    rcases Nat.eq_zero_or_pos m with rfl | hp
    · exact .inl ⟨rfl, _, _, rfl, fun h => by cases h⟩
    · refine .inr ⟨hp, b, off, c, rfl, h1, h2, by omega, h4, fun j hj => ?_⟩
      rw [h5 j (by omega)]
      simp only [bys, List.getElem?_map, List.getElem?_take]
      rw [if_pos (by omega)]

theorem Rd.cap {B : Nat} {w : World} {a : Option Addr} {c n : Nat} {xs : List Value} (h : Rd B w 1 (.slice a n c) n xs) : n ≤ c := by
  rcases h.2 with ⟨rfl, _⟩ | ⟨_, _, _, _, hv, _, _, h3, _⟩
  · omega
  · cases hv; exact h3

theorem made_any (v : Value) (l0 : List Nat) (w : World) (hrd : Rd w.heap.size w 1 v l0.length (bys l0)) (hl0 : ∀ c ∈ l0, c < 256) :
    Calls Tryd.prog 23 #[v] w fun e w' => (∃ v', e = .returned v' ∧ w'.ownsRow w.heap.size 5 1 v' (madeL l0).length (bys (madeL l0))) ∧ Below w.heap.size w w' := by
  have hlen := hrd.len
  unfold maxLen at hlen
  obtain ⟨al, cl, rfl⟩ := hrd.shape
  obtain ⟨m, hm⟩ : ∃ m, min l0.length 319 = m := ⟨_, rfl⟩
  have hcap := hrd.cap
  have rt := hrd.takeB (show m ≤ l0.length by omega)
  obtain ⟨l, hl⟩ : ∃ l, l0.take m = l := ⟨_, rfl⟩
  have hlm : l.length = m := by rw [← hl]; simp; omega
  have hmad : madeL l0 = l.map (· % 38) := by
    unfold madeL
    rw [← hl]
    congr 1
    rw [← hm]
    rcases Nat.le_total l0.length 319 with h | h
    · rw [Nat.min_eq_left h, List.take_of_length_le h, List.take_of_length_le (Nat.le_refl _)]
    · rw [Nat.min_eq_right h]
  have hlt : ∀ c ∈ l, c < 256 := by
    intro c hc
    rw [← hl] at hc
    exact hl0 c (List.mem_of_mem_take hc)
  rw [hmad, List.length_map]
  have m319 : m ≤ 319 := by omega
  have mcap : m ≤ cl := by omega
  rw [hl] at rt
  subst hlm
  have hmin : (if (319 : Int) < (l0.length : Int) then (319 : Int) else (l0.length : Int)) = (l.length : Int) := by split <;> omega
  obtain ⟨i0, hinf, hz0, hz1, hz2⟩ := info_parts info_u8
  have HT := Lib.hid (And.intro rt hlt)
  clear rt hlt hl hm hmad hl0 hrd
  obtain ⟨n, hn⟩ : ∃ n, l.length = n := ⟨_, rfl⟩
  have HN := Lib.hid hn
  rw [hn] at hmin m319 mcap ⊢
  clear hn
  have hsn : (n : Int).toNat = n := by omega
  go_enter Tryd.func23, Tryd.ntmps23
  go_wp2_with fail
  go_loopw [3, 12] (fun o i wr => ∃ k : Nat, i = .int .i64 k ∧ k ≤ n ∧ wr.ownsRow w.heap.size 5 1 o k (bys ((l.take k).map (· % 38))) ∧ Below w.heap.size w wr) (fun _ i _ => n - (intOf i).toNat)
  case atStart => exact ⟨0, rfl, by omega, ⟨rfl, .inl ⟨rfl, rfl⟩⟩, Below.refl _ _⟩
  case round =>
    obtain ⟨k, rfl, hk, hown, hB⟩ := hrel
    have hszr := hB.size
    by_cases hlt : k < n
    · have hkl : k < l.length := by have := HN.out; omega
      obtain ⟨b, off, cc, hvv, hbb, hc1, hc2, hcell⟩ := HT.out.1.bytes (by omega)
      cases hvv
      have hcx := hcell k hkl
      obtain ⟨x, hx⟩ : ∃ x, l.getD k 0 = x := ⟨_, rfl⟩
      have hx2 : l[k] = x := by rw [← hx, List.getD_eq_getElem?_getD, List.getElem?_eq_getElem hkl]; rfl
      have hx256 : x < 256 := by rw [← hx2]; exact HT.out.2 _ (List.getElem_mem hkl)
      rw [hx] at hcx
      have hcr : wr.cell? ⟨b, off + k, none⟩ = some (.int .u8 (x : Int)) := (hB.cell (p := ⟨b, off + k, none⟩) hbb).trans hcx
      obtain ⟨y, hy⟩ : ∃ y, x % 38 = y := ⟨_, rfl⟩
      have hm1 : (x : Int) % 38 = (y : Int) := by omega
      have hm2 : (x : Int).tmod 38 = (y : Int) := by rw [← hm1]; exact Int.tmod_eq_emod_of_nonneg (by omega)
      have HX := Lib.hid (And.intro hx2 (And.intro hy hown))
      have hy38 : y < 38 := by omega
      clear hx hx2 hy hcx hcell hown
      go_wp2_with (at_builtin; refine stop_of ?_)
      unfold Stop
      obtain ⟨hx2, hy, hown⟩ := HX.out
      have hown5 := own_below hown ((Below.refl wr.heap.size wr).alloc (Nat.le_refl _) (.cells #[.int .u8 (y : Int)] 5))
      have hB5 : Below w.heap.size w (wr.alloc (.cells #[.int .u8 (y : Int)] 5)) := hB.alloc hB.size _
      have hnew : ∀ j u, (bys [y])[j]? = some u → (wr.alloc (.cells #[.int .u8 (y : Int)] 5)).cell? ((⟨wr.heap.size, 0, none⟩ : Addr).add j) = some u := by
        intro j u hu
        rw [addr_add, (Row.new wr 5 #[.int .u8 (y : Int)]).cell (0 + j), Nat.zero_add]
        simpa [bys] using hu
      have hbs5 := hB5.size
      refine wpList_append_own _ rfl _ _ 24 rfl w.heap.size 5 i0 (.int .u8 0) 1 1 Tryd.underlying24 hinf hz0 hz1 hz2 rfl (by decide) _ k _ rfl hown5 ⟨wr.heap.size, 0, none⟩ 1 1 (bys [y]) rfl (by simp) hnew (bys_one [y]) (by unfold maxLen; omega) (by omega) (by omega) ?_
      intro v' w8 hown1 hgrow _
      have hB8 := below_append hB5 hgrow hown5 (Nat.le_refl _) hbs5
      have HY := Lib.hid (And.intro hown1 hB8)
      clear hown1 hgrow hown5 hB5 hnew hown
      go_wp2_with fail
      go_roundw
      case rel =>
        refine ⟨k + 1, by go_num, by omega, ?_, HY.out.2⟩
        have e : ((l.take (k + 1)).map (· % 38)) = (l.take k).map (· % 38) ++ [y] := by
          rw [List.take_succ_eq_append_getElem hkl, hx2, List.map_append, List.map_cons, List.map_nil, hy]
        rw [e, bys_append]
        exact HY.out.1
      case measure => simp [intOf]; omega
    · have hkn : l.take k = l := List.take_of_length_le (by have := HN.out; omega)
      obtain rfl : k = n := by omega
      rw [hkn] at hown
      clear hkn
      go_wp2_with fail
      go_ret
      exact ⟨⟨_, rfl, hown⟩, hB⟩

end Go.Proofs.YtbgiiijdabpbcaaDoor
