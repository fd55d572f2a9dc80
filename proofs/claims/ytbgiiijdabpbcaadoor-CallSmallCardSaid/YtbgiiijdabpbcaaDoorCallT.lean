/- call: the iterator texts, and TextAll -/
import Derived.Test.YtbgiiijdabpbcaaDoorProg
import Derived.Test.YtbgiiijdabpbcaaDoorCallB
import Derived.Test.YtbgiiijdabpbcaaDoorShelf
namespace Go.Proofs.YtbgiiijdabpbcaaDoor
open Go.RowKit Go.Shelf
attribute [local go_sem] Oper.semAt_some
set_option linter.unusedVariables false
set_option linter.unusedSimpArgs false
set_option maxRecDepth 100000
set_option maxHeartbeats 1000000

def encT (l : List UInt8) : Array Value := #[vS l]

theorem texts_any (a : Option Addr) (n c : Nat) (w : World) :
    Calls Tryd.prog 38 #[.slice a n c] w fun e w' => e = .returned (.func (.func 52) #[] #[.pointer (some ⟨w.heap.size, 0, none⟩)]) ∧ w.alloc (.cells #[.slice a n c] 24) = w' := by
  go_enter Tryd.func38, Tryd.ntmps38
  go_wp2
  go_ret
  exact ⟨rfl, rfl⟩

theorem texts_iter (bk B0 : Nat) (a : Option Addr) (c : Nat) (l : List Nat) (w : World) (hrd : Rd B0 w 1 (.slice a l.length c) l.length (bys l)) (hl : ∀ c ∈ l, c < 256) (hden : Den w) (h0 : 0 < B0) (hBw : B0 ≤ w.heap.size) (hll : l.length ≤ 1000)
    (hb : Boxed w bk 24 (.slice a l.length c)) :
    IterOK Tryd.prog 52 #[.pointer (some ⟨bk, 0, none⟩)] encT (fun A B => Below A.heap.size A B) (fun A B => Below B0 A B) (l.map txtC) w := by
  intro g J Jx W hW hJ hJx hY hJ0
  have hbW : Boxed W bk 24 (.slice a l.length c) := (hW.block bk hb.lt).trans hb
  have hcb := hbW.cell
  have hWB : Below B0 w W := hW.mono hBw
  obtain ⟨n, hn⟩ : ∃ n, l.length = n := ⟨_, rfl⟩
  have HN := Lib.hid hn
  have HR := Lib.hid hrd
  have HD := Lib.hid hden
  have HL := Lib.hid hl
  have HJ := Lib.hid hJ0
  rw [hn] at hcb hll
  clear hn hrd hbW hb hden hl hJ0
  have hBW : B0 ≤ W.heap.size := Nat.le_trans hBw hW.size
  refine callsIn_of_wp Tryd.func52 rfl trivial ?_ rfl
  simp only [Tryd.ntmps52, List.size_toArray, List.length_cons, List.length_nil, Nat.reduceAdd, Nat.reduceSub, Array.replicate_succ, Array.replicate_zero, List.push_toArray, List.append_toArray, List.nil_append, List.cons_append]
  have hfn : ∀ f, Fence.wide.fn f := fun _ => trivial
  have hdep : Fence.wide.depth = none := rfl
  gi_wp2
  gi_loopw [9] (fun i wr => ∃ k : Nat, i = .int .i64 k ∧ k ≤ n ∧ Below B0 w wr ∧ Hid (J ((l.take k).map txtC) wr)) (fun i _ => n - (intOf i).toNat)
  case atStart => exact ⟨0, rfl, by omega, hWB, HJ⟩
  case round =>
    obtain ⟨k, rfl, hk, hBr, hj⟩ := hrel
    by_cases hlt : k < n
    · have hkl : k < l.length := by have := HN.out; omega
      have hrw := HR.out.below hBr (Nat.le_refl _)
      obtain ⟨b, off, cp, hv, hb, -, -, -, hcells⟩ := hrw.pos (by omega)
      cases hv
      obtain ⟨x, hx⟩ : ∃ x, l[k] = x := ⟨_, rfl⟩
      have hx256 : x < 256 := by rw [← hx]; exact HL.out _ (List.getElem_mem hkl)
      have hc : wr.cell? ⟨b, off + k, none⟩ = some (.int .u8 (x : Int)) := by
        rw [hcells k (by omega)]
        exact bys_get (by rw [List.getElem?_eq_getElem hkl, hx])
      have hdr : Den wr := HD.out.below hBr h0
      have htk : (l.take (k + 1)).map txtC = (l.take k).map txtC ++ [txtC x] := by
        rw [List.take_succ_eq_append_getElem hkl, List.map_append, hx]
        rfl
      have hpre : (l.take k).map txtC ++ [txtC x] <+: l.map txtC := by
        rw [← htk]
        exact ⟨(l.drop (k + 1)).map txtC, by rw [← List.map_append, List.take_append_drop]⟩
      have HH := Lib.hid (And.intro htk (And.intro hpre hdr))
      clear hcells hrw htk hpre hdr hx
      gi_wp2_with (gi_at_call 17; refine (callsIn_wide.2 (Text_all x _ hx256 HH.out.2.2)).mono ?_; rintro e w3 ⟨rfl, hb3⟩; refine stop_of ?_)
      unfold Stop
      have hj3 := hJ _ _ _ hj.out hb3
      obtain ⟨fn, tmps, assign, body, hy, hR⟩ := hY _ _ w3 hj3 HH.out.2.1
      simp only [encT] at hy
      have hB3 : Below B0 w w3 := hBr.trans (hb3.mono (by have := hBr.size; omega))
      clear hj hc hfn hdep
      gi_wp2
      refine ⟨rfl, hR.mono ?_⟩
      rintro e W3 (⟨rfl, hJ3, hk3⟩ | ⟨rfl, hJx3⟩)
      · have HJ3 := Lib.hid hJ3
        clear hJ3 hy
        gi_wp2
        go_roundw
        case rel => exact ⟨k + 1, by go_num, by omega, hB3.trans hk3, Lib.hid (by rw [HH.out.1]; exact HJ3.out)⟩
        case measure => simp [intOf]; omega
      · have HJ3 := Lib.hid hJx3
        clear hJx3 hy
        gi_wp2
        refine bodyPost_ret (results_none rfl _ _ _) rfl ?_
        exact ⟨⟨_, rfl⟩, .inr ⟨_, HH.out.2.1, HJ3.out⟩⟩
    · have hfin : (l.take k).map txtC = l.map txtC := by rw [List.take_of_length_le (by have := HN.out; omega)]
      have HF := Lib.hid hfin
      clear hfin
      gi_wp2
      refine bodyPost_end (results_none rfl _ _ _) rfl ?_
      exact ⟨⟨_, rfl⟩, .inl (by have := hj.out; rw [HF.out] at this; exact this)⟩

end Go.Proofs.YtbgiiijdabpbcaaDoor
