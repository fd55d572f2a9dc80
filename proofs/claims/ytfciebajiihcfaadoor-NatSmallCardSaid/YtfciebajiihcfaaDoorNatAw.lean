/- the examples of the chapter hold -/
import Derived.Test.YtfciebajiihcfaaDoorNatAwP
namespace Go.Proofs.YtfciebajiihcfaaDoor
open Go.RowKit
set_option linter.unusedVariables false
set_option linter.unusedSimpArgs false
set_option maxRecDepth 100000
set_option maxHeartbeats 4000000

theorem call1 {w a b : World} {o : Obj} (h : Below w.heap.size w a) (hb : Below (a.alloc o).heap.size (a.alloc o) b) : Below w.heap.size w b :=
  (h.alloc h.size o).trans (hb.mono (h.alloc h.size o).size)
theorem call2 {w a b : World} {o o' : Obj} (h : Below w.heap.size w a) (hb : Below ((a.alloc o).alloc o').heap.size ((a.alloc o).alloc o') b) : Below w.heap.size w b :=
  call1 (h.alloc h.size o) hb
theorem row1 {a b : World} {o : Obj} {k : Nat} {t : TypeId} {vs : Array Value} (r : Row a k t vs) (hb : Below (a.alloc o).heap.size (a.alloc o) b) : Row b k t vs :=
  (r.alloc o).below hb (by have := r.lt; simp; omega)
theorem row2 {a b : World} {o o' : Obj} {k : Nat} {t : TypeId} {vs : Array Value} (r : Row a k t vs) (hb : Below ((a.alloc o).alloc o').heap.size ((a.alloc o).alloc o') b) : Row b k t vs :=
  row1 (r.alloc o) hb
theorem new1 {a b : World} {t : TypeId} {vs : Array Value} (hb : Below (a.alloc (.cells vs t)).heap.size (a.alloc (.cells vs t)) b) : Row b a.heap.size t vs :=
  (Row.new a t vs).below hb (by simp)
theorem new2 {a b : World} {t t' : TypeId} {vs vs' : Array Value} (hb : Below ((a.alloc (.cells vs t)).alloc (.cells vs' t')).heap.size ((a.alloc (.cells vs t)).alloc (.cells vs' t')) b) : Row b a.heap.size t vs ∧ Row b (a.heap.size + 1) t' vs' := by
  refine ⟨row1 (Row.new a t vs) hb, ?_⟩
  have h := new1 hb
  rw [World.size_alloc] at h
  exact h

abbrev c4 (a b c d : Int) : Array Value := #[vU a, vU b, vU c, vU d]

theorem nawake_true (w : World) : Calls Tryd.prog 13 #[] w fun e w' => e = .returned (.bool true) ∧ Below w.heap.size w w' := by
  have tok1 : True := trivial
  have tok2 : True := trivial
  have tok3 : True := trivial
  go_enter Tryd.func13, Tryd.ntmps13
  go_wp2_with (first
    | (go_at_call 17; have _t := tok1; clear tok1; refine (aw_mul1 _ _ (by simp only [World.size_alloc])).mono ?_; rintro e w1 ⟨rfl, hb1⟩; obtain ⟨r1, r2, r3, hB, z0, z1, z2⟩ := rows3 hb1; clear hb1; obtain ⟨a0, a1, a2, a3, f0, f1, f2, f3⟩ := row4 r1; obtain ⟨b0, b1, b2, b3, g0, g1, g2, g3⟩ := row4 r2)
    | (go_at_call 17; refine stop_of ?_))
  unfold Stop
  refine (aw_mul2 _ _ (by simp only [World.size_alloc])).mono ?_
  rintro e w2 ⟨rfl, hb2⟩
  replace hB := call2 hB hb2
  clear hb2 z0 r3 r1 r2 a0 a1 a2 a3 f0 f1 f2 f3 b0 b1 b2 b3 g0 g1 g2 g3 z1 z2
  go_wp2_with (first
    | (go_at_call 21; refine (aw_sub _).mono ?_; rintro e w3 ⟨rfl, hb3⟩; have r5 := new1 hb3; replace hB := call1 hB hb3; clear hb3)
    | (go_at_call 19; refine (aw_div _).mono ?_; rintro e w4 ⟨rfl, hb4⟩; replace r5 := row1 r5 hb4; replace hB := call1 hB hb4; clear hb4)
    | (go_at_call 22; refine stop_of ?_))
  unfold Stop
  refine (aw_ch1 _).mono ?_
  rintro e w5 ⟨rfl, hb5⟩
  replace r5 := row2 r5 hb5
  obtain ⟨r9, r10⟩ := new2 hb5
  replace hB := call2 hB hb5
  clear hb5
  go_wp2_with (go_at_call 22; refine stop_of ?_)
  unfold Stop
  refine (aw_ch2 _).mono ?_
  rintro e w6 ⟨rfl, hb6⟩
  replace r5 := row1 r5 hb6
  replace r9 := row1 r9 hb6
  replace r10 := row1 r10 hb6
  have r12 := new1 hb6
  replace hB := call1 hB hb6
  clear hb6
  go_wp2_with (go_at_call 22; refine stop_of ?_)
  unfold Stop
  refine (aw_ch3 _).mono ?_
  rintro e w7 ⟨rfl, hb7⟩
  replace r5 := row1 r5 hb7
  replace r9 := row1 r9 hb7
  replace r10 := row1 r10 hb7
  replace r12 := row1 r12 hb7
  have r14 := new1 hb7
  replace hB := call1 hB hb7
  clear hb7
  go_wp2_with (go_at_call 25; refine stop_of ?_)
  unfold Stop
  refine (aw_read1 _).mono ?_
  rintro e w8 ⟨rfl, hb8⟩
  replace r5 := row1 r5 hb8
  replace r9 := row1 r9 hb8
  replace r10 := row1 r10 hb8
  replace r12 := row1 r12 hb8
  replace r14 := row1 r14 hb8
  replace hB := call1 hB hb8
  clear hb8
  go_wp2_with (go_at_call 25; refine stop_of ?_)
  unfold Stop
  refine (aw_read2 _).mono ?_
  rintro e w9 ⟨rfl, hb9⟩
  replace r5 := row1 r5 hb9
  replace r9 := row1 r9 hb9
  replace r10 := row1 r10 hb9
  replace r12 := row1 r12 hb9
  replace r14 := row1 r14 hb9
  replace hB := call1 hB hb9
  clear hb9
  obtain ⟨a0, a1, a2, a3, -⟩ := row4 r5
  have z5 := r5.lt
  go_wp2_with (go_at_call 24; refine stop_of ?_)
  unfold Stop
  refine (aw_text1 _).mono ?_
  rintro e w10 ⟨rfl, hb10⟩
  replace r9 := row1 r9 hb10
  replace r10 := row1 r10 hb10
  replace r12 := row1 r12 hb10
  replace r14 := row1 r14 hb10
  replace hB := call1 hB hb10
  clear hb10 a0 a1 a2 a3 r5 z5
  obtain ⟨a0, a1, a2, a3, -⟩ := row4 r9
  go_wp2_with (go_at_call 24; refine stop_of ?_)
  unfold Stop
  refine (aw_text2 _).mono ?_
  rintro e w11 ⟨rfl, hb11⟩
  replace r10 := r10.below hb11 r10.lt
  replace r12 := r12.below hb11 r12.lt
  replace r14 := r14.below hb11 r14.lt
  replace hB := hB.trans (hb11.mono hB.size)
  clear hb11 a0 a1 a2 a3 r9
  obtain ⟨a0, a1, a2, a3, -⟩ := row4 r10
  go_wp2_with (go_at_call 18; refine stop_of ?_)
  unfold Stop
  refine (aw_gcd _).mono ?_
  rintro e w12 ⟨rfl, hb12⟩
  replace r12 := r12.below hb12 r12.lt
  replace r14 := r14.below hb12 r14.lt
  replace hB := hB.trans (hb12.mono hB.size)
  clear hb12 a0 a1 a2 a3 r10
  obtain ⟨a0, a1, a2, a3, -⟩ := row4 r12
  go_wp2_with (go_at_call 24; refine stop_of ?_)
  unfold Stop
  refine (aw_text3 _).mono ?_
  rintro e w13 ⟨rfl, hb13⟩
  replace r14 := r14.below hb13 r14.lt
  replace hB := hB.trans (hb13.mono hB.size)
  clear hb13 a0 a1 a2 a3 r12
  obtain ⟨a0, a1, a2, a3, -⟩ := row4 r14
  go_wp2_with fail
  go_ret
  exact ⟨rfl, hB⟩

end Go.Proofs.YtfciebajiihcfaaDoor
