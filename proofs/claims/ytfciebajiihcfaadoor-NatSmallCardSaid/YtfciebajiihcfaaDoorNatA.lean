/- nat: numbers of 128 bits: add, sub, Cmp, bit and what stands on them. -/
import Derived.Test.YtfciebajiihcfaaDoorProg
import Derived.Test.YtfciebajiihcfaaDoorBase
import Derived.LoopN
namespace Go.Proofs.YtfciebajiihcfaaDoor
open Go.RowKit
set_option linter.unusedVariables false
set_option maxRecDepth 100000

/-- part i of a number -/
def dg (i n : Nat) : Int := ((n / 4294967296 ^ i % 4294967296 : Nat) : Int)

theorem dg0 (n : Nat) : dg 0 n = ((n % 4294967296 : Nat) : Int) := by simp [dg]
theorem dg1 (n : Nat) : dg 1 n = ((n / 4294967296 % 4294967296 : Nat) : Int) := by simp [dg]
theorem dg2 (n : Nat) : dg 2 n = ((n / 18446744073709551616 % 4294967296 : Nat) : Int) := by simp [dg]
theorem dg3 (n : Nat) : dg 3 n = ((n / 79228162514264337593543950336 % 4294967296 : Nat) : Int) := by simp [dg]

/-- the value of a number of 128 bits -/
abbrev vN (n : Nat) : Value := .agg #[.int .u32 (dg 0 n), .int .u32 (dg 1 n), .int .u32 (dg 2 n), .int .u32 (dg 3 n)]

abbrev pN (n : Nat) : Array Value := #[.int .u32 (dg 0 n), .int .u32 (dg 1 n), .int .u32 (dg 2 n), .int .u32 (dg 3 n)]

theorem dg_bd (i n : Nat) : 0 ≤ dg i n ∧ dg i n ≤ 4294967295 := by unfold dg; omega

/-- 2^128 -/
def big : Nat := 340282366920938463463374607431768211456

/-- a number out of its four parts -/
def num4 (a0 a1 a2 a3 : Int) : Int := a0 + a1 * 4294967296 + a2 * 18446744073709551616 + a3 * 79228162514264337593543950336

theorem vN_open (n : Nat) (h : n < big) : ∃ a0 a1 a2 a3 : Int, vN n = .agg #[.int .u32 a0, .int .u32 a1, .int .u32 a2, .int .u32 a3] ∧ (0 ≤ a0 ∧ a0 ≤ 4294967295 ∧ 0 ≤ a1 ∧ a1 ≤ 4294967295 ∧ 0 ≤ a2 ∧ a2 ≤ 4294967295 ∧ 0 ≤ a3 ∧ a3 ≤ 4294967295) ∧ Hid ((n : Int) = num4 a0 a1 a2 a3) := by
  unfold big at h
  refine ⟨_, _, _, _, rfl, ?_, ?_⟩
  · exact ⟨(dg_bd 0 n).1, (dg_bd 0 n).2, (dg_bd 1 n).1, (dg_bd 1 n).2, (dg_bd 2 n).1, (dg_bd 2 n).2, (dg_bd 3 n).1, (dg_bd 3 n).2⟩
  · unfold Hid num4
    rw [dg0, dg1, dg2, dg3]
    omega

theorem vN_shut (r0 r1 r2 r3 : Int) (n : Nat) (h : 0 ≤ r0 ∧ r0 ≤ 4294967295 ∧ 0 ≤ r1 ∧ r1 ≤ 4294967295 ∧ 0 ≤ r2 ∧ r2 ≤ 4294967295 ∧ 0 ≤ r3 ∧ r3 ≤ 4294967295) (hn : (n : Int) = num4 r0 r1 r2 r3) :
    Value.agg #[.int .u32 r0, .int .u32 r1, .int .u32 r2, .int .u32 r3] = vN n := by
  unfold num4 at hn
  obtain ⟨h0, h1, h2, h3, h4, h5, h6, h7⟩ := h
  have e0 : ((n % 4294967296 : Nat) : Int) = r0 := by omega
  have e1 : ((n / 4294967296 % 4294967296 : Nat) : Int) = r1 := by omega
  have e2 : ((n / 18446744073709551616 % 4294967296 : Nat) : Int) = r2 := by omega
  have e3 : ((n / 79228162514264337593543950336 % 4294967296 : Nat) : Int) = r3 := by omega
  rw [vN, dg0, dg1, dg2, dg3, e0, e1, e2, e3]

/-- an array of four parts in a block -/
theorem row4 {w : World} {b : Nat} {t : TypeId} {x0 x1 x2 x3 : Value} (h : Row w b t #[x0, x1, x2, x3]) :
    w.cell? ⟨b, 0, none⟩ = some x0 ∧ w.cell? ⟨b, 1, none⟩ = some x1 ∧ w.cell? ⟨b, 2, none⟩ = some x2 ∧ w.cell? ⟨b, 3, none⟩ = some x3 ∧
    w.frozen? ⟨b, 0, none⟩ = false ∧ w.frozen? ⟨b, 1, none⟩ = false ∧ w.frozen? ⟨b, 2, none⟩ = false ∧ w.frozen? ⟨b, 3, none⟩ = false :=
  ⟨by rw [h.cell]; rfl, by rw [h.cell]; rfl, by rw [h.cell]; rfl, by rw [h.cell]; rfl, h.frozen 0, h.frozen 1, h.frozen 2, h.frozen 3⟩

theorem load4 {w : World} {b : Nat} {t : TypeId} {x0 x1 x2 x3 : Value} (h : Row w b t #[x0, x1, x2, x3]) : (loadVar 28 ⟨b, 0, none⟩).run Tryd.prog w = .ok (.agg #[x0, x1, x2, x3]) w := by
  obtain ⟨c0, c1, c2, c3, f0, f1, f2, f3⟩ := row4 h
  simp [go_sem, c0, c1, c2, c3]

abbrev vU (n : Int) : Value := .int .u32 n

/-- where add stands when k parts are done -/
def addR (a0 a1 a2 a3 b0 b1 b2 b3 : Int) (k : Nat) (r0 r1 r2 r3 c : Int) : Prop :=
  (k = 0 ∧ c = 0 ∧ r0 = a0 ∧ r1 = a1 ∧ r2 = a2 ∧ r3 = a3) ∨
  (k = 1 ∧ r0 + c * 4294967296 = a0 + b0 ∧ r1 = a1 ∧ r2 = a2 ∧ r3 = a3) ∨
  (k = 2 ∧ r0 + r1 * 4294967296 + c * 18446744073709551616 = a0 + b0 + (a1 + b1) * 4294967296 ∧ r2 = a2 ∧ r3 = a3) ∨
  (k = 3 ∧ r0 + r1 * 4294967296 + r2 * 18446744073709551616 + c * 79228162514264337593543950336 = a0 + b0 + (a1 + b1) * 4294967296 + (a2 + b2) * 18446744073709551616 ∧ r3 = a3) ∨
  (k = 4 ∧ num4 r0 r1 r2 r3 + c * 340282366920938463463374607431768211456 = num4 a0 a1 a2 a3 + num4 b0 b1 b2 b3)

theorem add_fin (x y : Nat) (A r0 r1 r2 r3 c : Int) (hc : 0 ≤ c) (hb : 0 ≤ r0 ∧ r0 ≤ 4294967295 ∧ 0 ≤ r1 ∧ r1 ≤ 4294967295 ∧ 0 ≤ r2 ∧ r2 ≤ 4294967295 ∧ 0 ≤ r3 ∧ r3 ≤ 4294967295) (hA : ((x + y : Nat) : Int) = A)
    (h : num4 r0 r1 r2 r3 + c * 340282366920938463463374607431768211456 = A) : Value.agg #[vU r0, vU r1, vU r2, vU r3] = vN ((x + y) % big) ∧ c = (((x + y) / big : Nat) : Int) := by
  have hn : 0 ≤ num4 r0 r1 r2 r3 ∧ num4 r0 r1 r2 r3 < 340282366920938463463374607431768211456 := by unfold num4; omega
  obtain ⟨z, hz⟩ : ∃ z, num4 r0 r1 r2 r3 = z := ⟨_, rfl⟩
  rw [hz] at h hn
  refine ⟨vN_shut _ _ _ _ _ hb ?_, ?_⟩
  · rw [hz]; unfold big; omega
  · unfold big; omega

/-- what is carried out of a sum -/
def cry (x y : Nat) : Int := (((x + y) / big : Nat) : Int)

theorem add_any (x y : Nat) (w : World) (hx : x < big) (hy : y < big) :
    Calls Tryd.prog 33 #[vN x, vN y] w fun e w' => e = .returned (.tuple #[vN ((x + y) % big), .int .u64 (cry x y)]) ∧ Below w.heap.size w w' := by
  obtain ⟨a0, a1, a2, a3, ha, ⟨p0, p0', p1, p1', p2, p2', p3, p3'⟩, hxa⟩ := vN_open x hx
  obtain ⟨b0, b1, b2, b3, hb, ⟨q0, q0', q1, q1', q2, q2', q3, q3'⟩, hyb⟩ := vN_open y hy
  rw [ha, hb]
  have HX := Lib.hid hx
  have HY := Lib.hid hy
  clear ha hb hx hy
  go_enter Tryd.func33, Tryd.ntmps33
  go_wp2_with fail
  go_loopw [6, 8] (fun c i wr => ∃ (k : Nat) (r0 r1 r2 r3 c' : Int), i = .int .i64 k ∧ c = .int .u64 c' ∧ 0 ≤ c' ∧ c' ≤ 1 ∧ 0 ≤ r0 ∧ r0 ≤ 4294967295 ∧ 0 ≤ r1 ∧ r1 ≤ 4294967295 ∧ 0 ≤ r2 ∧ r2 ≤ 4294967295 ∧ 0 ≤ r3 ∧ r3 ≤ 4294967295 ∧
      Row wr w.heap.size 28 #[vU r0, vU r1, vU r2, vU r3] ∧ Row wr (w.heap.size + 1) 28 #[vU b0, vU b1, vU b2, vU b3] ∧ Row wr (w.heap.size + 1 + 1) 28 #[vU 0, vU 0, vU 0, vU 0] ∧ Below w.heap.size w wr ∧
      Hid (addR a0 a1 a2 a3 b0 b1 b2 b3 k r0 r1 r2 r3 c')) (fun _ i _ => 4 - (intOf i).toNat)
  case atStart =>
    refine ⟨0, a0, a1, a2, a3, 0, rfl, rfl, by omega, by omega, by omega, by omega, by omega, by omega, by omega, by omega, by omega, by omega, ((Row.new _ _ _).alloc _).alloc _, ?_, ?_, ((((Below.refl _ _).alloc (Nat.le_refl _) _).alloc (by simp) _).alloc (by simp; omega) _), .inl ⟨rfl, rfl, rfl, rfl, rfl, rfl⟩⟩
    · have := (Row.new (w.alloc (.cells #[vU a0, vU a1, vU a2, vU a3] 28)) 28 #[vU b0, vU b1, vU b2, vU b3]).alloc (.cells #[vU 0, vU 0, vU 0, vU 0] 28)
      simpa using this
    · have := Row.new ((w.alloc (.cells #[vU a0, vU a1, vU a2, vU a3] 28)).alloc (.cells #[vU b0, vU b1, vU b2, vU b3] 28)) 28 #[vU 0, vU 0, vU 0, vU 0]
      simpa using this
  case round =>
    obtain ⟨k, r0, r1, r2, r3, c, rfl, rfl, c0, c1, t0, t0', t1, t1', t2, t2', t3, t3', rA, rB, rC, hB, hR⟩ := hrel
    obtain ⟨ca0, ca1, ca2, ca3, fa0, fa1, fa2, fa3⟩ := row4 rA
    obtain ⟨cb0, cb1, cb2, cb3, fb0, fb1, fb2, fb3⟩ := row4 rB
    obtain ⟨cc0, cc1, cc2, cc3, fc0, fc1, fc2, fc3⟩ := row4 rC
    rcases hR.out with ⟨rfl, rfl, rfl, rfl, rfl, rfl⟩ | ⟨rfl, h, rfl, rfl, rfl⟩ | ⟨rfl, h, rfl, rfl⟩ | ⟨rfl, h, rfl⟩ | ⟨rfl, h⟩
    · clear hR
      go_wp2_with fail
      go_quiet (fail)
      go_wp2_with fail
      go_roundw
      case rel =>
        refine ⟨1, (r0 + b0) % 4294967296, r1, r2, r3, (r0 + b0) / 4294967296, rfl, rfl, by omega, by omega, by omega, by omega, by omega, by omega, by omega, by omega, by omega, by omega, (rA.drewN _).set 0 _, (rB.drewN _).other (by omega) _, (rC.drewN _).other (by omega) _, (Below.drewN hB _).setCell (p := ⟨w.heap.size, 0, none⟩) (Nat.le_refl _) _, ?_⟩
        unfold Hid addR
        right; left
        refine ⟨rfl, ?_, rfl, rfl, rfl⟩
        omega
      case measure => simp [intOf]
    · clear hR
      go_wp2_with fail
      go_quiet (fail)
      go_wp2_with fail
      go_roundw
      case rel =>
        refine ⟨2, r0, (c + (r1 + b1)) % 4294967296, r2, r3, (c + (r1 + b1)) / 4294967296, rfl, rfl, by omega, by omega, by omega, by omega, by omega, by omega, by omega, by omega, by omega, by omega, (rA.drewN _).set 1 _, (rB.drewN _).other (by omega) _, (rC.drewN _).other (by omega) _, (Below.drewN hB _).setCell (p := ⟨w.heap.size, 1, none⟩) (Nat.le_refl _) _, ?_⟩
        unfold Hid addR
        right; right; left
        refine ⟨rfl, ?_, rfl, rfl⟩
        omega
      case measure => simp [intOf]
    · clear hR
      go_wp2_with fail
      go_quiet (fail)
      go_wp2_with fail
      go_roundw
      case rel =>
        refine ⟨3, r0, r1, (c + (r2 + b2)) % 4294967296, r3, (c + (r2 + b2)) / 4294967296, rfl, rfl, by omega, by omega, by omega, by omega, by omega, by omega, by omega, by omega, by omega, by omega, (rA.drewN _).set 2 _, (rB.drewN _).other (by omega) _, (rC.drewN _).other (by omega) _, (Below.drewN hB _).setCell (p := ⟨w.heap.size, 2, none⟩) (Nat.le_refl _) _, ?_⟩
        unfold Hid addR
        right; right; right; left
        refine ⟨rfl, ?_, rfl⟩
        omega
      case measure => simp [intOf]
    · clear hR
      go_wp2_with fail
      go_quiet (fail)
      go_wp2_with fail
      go_roundw
      case rel =>
        refine ⟨4, r0, r1, r2, (c + (r3 + b3)) % 4294967296, (c + (r3 + b3)) / 4294967296, rfl, rfl, by omega, by omega, by omega, by omega, by omega, by omega, by omega, by omega, by omega, by omega, (rA.drewN _).set 3 _, (rB.drewN _).other (by omega) _, (rC.drewN _).other (by omega) _, (Below.drewN hB _).setCell (p := ⟨w.heap.size, 3, none⟩) (Nat.le_refl _) _, ?_⟩
        unfold Hid addR
        right; right; right; right
        refine ⟨rfl, ?_⟩
        unfold num4
        omega
      case measure => simp [intOf]
    · clear hR
      go_wp2_with fail
      have rC4 := (((rC.set 0 (vU r0)).set 1 (vU r1)).set 2 (vU r2)).set 3 (vU r3)
      refine bodyPost_ret (res_ct rfl rfl (load4 rC4)) rfl ⟨?_, ?_⟩
      · obtain ⟨e1, e2⟩ := add_fin x y _ r0 r1 r2 r3 c c0 (by omega) (by rw [Int.natCast_add, hxa.out, hyb.out]) h
        rw [← e1]
        show _ = Ending.returned (.tuple #[_, .int .u64 (((x + y) / big : Nat) : Int)])
        rw [← e2]
        rfl
      · exact (((((hB.setCell (p := ⟨w.heap.size + 1 + 1, 0, none⟩) (by simp; omega) _).setCell (p := ⟨w.heap.size + 1 + 1, 1, none⟩) (by simp; omega) _).setCell (p := ⟨w.heap.size + 1 + 1, 2, none⟩) (by simp; omega) _).setCell (p := ⟨w.heap.size + 1 + 1, 3, none⟩) (by simp; omega) _))

/-- where sub stands when k parts are done; c is what is owed -/
def subR (a0 a1 a2 a3 b0 b1 b2 b3 : Int) (k : Nat) (r0 r1 r2 r3 c : Int) : Prop :=
  (k = 0 ∧ c = 0 ∧ r0 = a0 ∧ r1 = a1 ∧ r2 = a2 ∧ r3 = a3) ∨
  (k = 1 ∧ r0 + b0 = a0 + c * 4294967296 ∧ r1 = a1 ∧ r2 = a2 ∧ r3 = a3) ∨
  (k = 2 ∧ r0 + r1 * 4294967296 + b0 + b1 * 4294967296 = a0 + a1 * 4294967296 + c * 18446744073709551616 ∧ r2 = a2 ∧ r3 = a3) ∨
  (k = 3 ∧ r0 + r1 * 4294967296 + r2 * 18446744073709551616 + b0 + b1 * 4294967296 + b2 * 18446744073709551616 = a0 + a1 * 4294967296 + a2 * 18446744073709551616 + c * 79228162514264337593543950336 ∧ r3 = a3) ∨
  (k = 4 ∧ num4 r0 r1 r2 r3 + num4 b0 b1 b2 b3 = num4 a0 a1 a2 a3 + c * 340282366920938463463374607431768211456)

theorem sub_fin (x y : Nat) (A B r0 r1 r2 r3 c : Int) (hc : 0 ≤ c) (hc' : c ≤ 1) (hb : 0 ≤ r0 ∧ r0 ≤ 4294967295 ∧ 0 ≤ r1 ∧ r1 ≤ 4294967295 ∧ 0 ≤ r2 ∧ r2 ≤ 4294967295 ∧ 0 ≤ r3 ∧ r3 ≤ 4294967295) (hA : (x : Int) = A) (hB : (y : Int) = B) (hx : x < big) (hy : y < big)
    (h : num4 r0 r1 r2 r3 + B = A + c * 340282366920938463463374607431768211456) : Value.agg #[vU r0, vU r1, vU r2, vU r3] = vN ((x + big - y) % big) := by
  have hn : 0 ≤ num4 r0 r1 r2 r3 ∧ num4 r0 r1 r2 r3 < 340282366920938463463374607431768211456 := by unfold num4; omega
  unfold big at hx hy
  refine vN_shut _ _ _ _ _ hb ?_
  obtain ⟨z, hz⟩ : ∃ z, num4 r0 r1 r2 r3 = z := ⟨_, rfl⟩
  rw [hz] at h hn ⊢
  unfold big
  omega

theorem sub_step (r b c X : Int) (r0 : 0 ≤ r) (r1 : r ≤ 4294967295) (b0 : 0 ≤ b) (b1 : b ≤ 4294967295) (c0 : 0 ≤ c) (c1 : c ≤ 1) (hX : IntKind.u64.wrap (IntKind.u64.wrap (r - b) - c) = X) :
    0 ≤ X / 9223372036854775808 ∧ X / 9223372036854775808 ≤ 1 ∧ 0 ≤ X % 4294967296 ∧ X % 4294967296 ≤ 4294967295 ∧ X % 4294967296 + b + c = r + X / 9223372036854775808 * 4294967296 := by
  simp only [IntKind.wrap_u64] at hX
  omega

theorem sub_any (x y : Nat) (w : World) (hx : x < big) (hy : y < big) :
    Calls Tryd.prog 36 #[vN x, vN y] w fun e w' => e = .returned (vN ((x + big - y) % big)) ∧ Below w.heap.size w w' := by
  obtain ⟨a0, a1, a2, a3, ha, ⟨p0, p0', p1, p1', p2, p2', p3, p3'⟩, hxa⟩ := vN_open x hx
  obtain ⟨b0, b1, b2, b3, hb, ⟨q0, q0', q1, q1', q2, q2', q3, q3'⟩, hyb⟩ := vN_open y hy
  rw [ha, hb]
  have HX := Lib.hid hx
  have HY := Lib.hid hy
  clear ha hb hx hy
  go_enter Tryd.func36, Tryd.ntmps36
  go_wp2_with fail
  go_loopw [5, 8] (fun c i wr => ∃ (k : Nat) (r0 r1 r2 r3 c' : Int), i = .int .i64 k ∧ c = .int .u64 c' ∧ 0 ≤ c' ∧ c' ≤ 1 ∧ 0 ≤ r0 ∧ r0 ≤ 4294967295 ∧ 0 ≤ r1 ∧ r1 ≤ 4294967295 ∧ 0 ≤ r2 ∧ r2 ≤ 4294967295 ∧ 0 ≤ r3 ∧ r3 ≤ 4294967295 ∧
      Row wr w.heap.size 28 #[vU r0, vU r1, vU r2, vU r3] ∧ Row wr (w.heap.size + 1) 28 #[vU b0, vU b1, vU b2, vU b3] ∧ Row wr (w.heap.size + 1 + 1) 28 #[vU 0, vU 0, vU 0, vU 0] ∧ Below w.heap.size w wr ∧
      Hid (subR a0 a1 a2 a3 b0 b1 b2 b3 k r0 r1 r2 r3 c')) (fun _ i _ => 4 - (intOf i).toNat)
  case atStart =>
    refine ⟨0, a0, a1, a2, a3, 0, rfl, rfl, by omega, by omega, by omega, by omega, by omega, by omega, by omega, by omega, by omega, by omega, ((Row.new _ _ _).alloc _).alloc _, ?_, ?_, ((((Below.refl _ _).alloc (Nat.le_refl _) _).alloc (by simp) _).alloc (by simp; omega) _), .inl ⟨rfl, rfl, rfl, rfl, rfl, rfl⟩⟩
    · have := (Row.new (w.alloc (.cells #[vU a0, vU a1, vU a2, vU a3] 28)) 28 #[vU b0, vU b1, vU b2, vU b3]).alloc (.cells #[vU 0, vU 0, vU 0, vU 0] 28)
      simpa using this
    · have := Row.new ((w.alloc (.cells #[vU a0, vU a1, vU a2, vU a3] 28)).alloc (.cells #[vU b0, vU b1, vU b2, vU b3] 28)) 28 #[vU 0, vU 0, vU 0, vU 0]
      simpa using this
  case round =>
    obtain ⟨k, r0, r1, r2, r3, c, rfl, rfl, c0, c1, t0, t0', t1, t1', t2, t2', t3, t3', rA, rB, rC, hB, hR⟩ := hrel
    obtain ⟨ca0, ca1, ca2, ca3, fa0, fa1, fa2, fa3⟩ := row4 rA
    obtain ⟨cb0, cb1, cb2, cb3, fb0, fb1, fb2, fb3⟩ := row4 rB
    obtain ⟨cc0, cc1, cc2, cc3, fc0, fc1, fc2, fc3⟩ := row4 rC
    rcases hR.out with ⟨rfl, rfl, rfl, rfl, rfl, rfl⟩ | ⟨rfl, h, rfl, rfl, rfl⟩ | ⟨rfl, h, rfl, rfl⟩ | ⟨rfl, h, rfl⟩ | ⟨rfl, h⟩
    · clear hR
      obtain ⟨X, hX⟩ : ∃ X, IntKind.u64.wrap (IntKind.u64.wrap (r0 - b0)) = X := ⟨_, rfl⟩
      have hs := sub_step r0 b0 0 X (by omega) (by omega) (by omega) (by omega) (by omega) (by omega) (by rw [Int.sub_zero]; exact hX)
      obtain ⟨s0, s1, s2, s3, s4⟩ := hs
      have HX0 := Lib.hid hX
      have HS := Lib.hid s4
      clear hX s4
      go_wp2_with fail
      go_quiet (fail)
      go_wp2_with fail
      go_roundw
      case rel =>
        rw [HX0.out]
        refine ⟨1, X % 4294967296, r1, r2, r3, X / 9223372036854775808, rfl, rfl, by omega, by omega, by omega, by omega, by omega, by omega, by omega, by omega, by omega, by omega, (rA.drewN _).set 0 _, (rB.drewN _).other (by omega) _, (rC.drewN _).other (by omega) _, (Below.drewN hB _).setCell (p := ⟨w.heap.size, 0, none⟩) (Nat.le_refl _) _, ?_⟩
        have s4 := HS.out
        unfold Hid subR
        right; left
        refine ⟨rfl, ?_, rfl, rfl, rfl⟩
        omega
      case measure => simp [intOf]
    · clear hR
      obtain ⟨X, hX⟩ : ∃ X, IntKind.u64.wrap (IntKind.u64.wrap (r1 - b1) - c) = X := ⟨_, rfl⟩
      have hs := sub_step r1 b1 c X (by omega) (by omega) (by omega) (by omega) (by omega) (by omega) hX
      obtain ⟨s0, s1, s2, s3, s4⟩ := hs
      have HX0 := Lib.hid hX
      have HS := Lib.hid s4
      clear hX s4
      go_wp2_with fail
      go_quiet (fail)
      go_wp2_with fail
      go_roundw
      case rel =>
        rw [HX0.out]
        refine ⟨2, r0, X % 4294967296, r2, r3, X / 9223372036854775808, rfl, rfl, by omega, by omega, by omega, by omega, by omega, by omega, by omega, by omega, by omega, by omega, (rA.drewN _).set 1 _, (rB.drewN _).other (by omega) _, (rC.drewN _).other (by omega) _, (Below.drewN hB _).setCell (p := ⟨w.heap.size, 1, none⟩) (Nat.le_refl _) _, ?_⟩
        have s4 := HS.out
        unfold Hid subR
        right; right; left
        refine ⟨rfl, ?_, rfl, rfl⟩
        omega
      case measure => simp [intOf]
    · clear hR
      obtain ⟨X, hX⟩ : ∃ X, IntKind.u64.wrap (IntKind.u64.wrap (r2 - b2) - c) = X := ⟨_, rfl⟩
      have hs := sub_step r2 b2 c X (by omega) (by omega) (by omega) (by omega) (by omega) (by omega) hX
      obtain ⟨s0, s1, s2, s3, s4⟩ := hs
      have HX0 := Lib.hid hX
      have HS := Lib.hid s4
      clear hX s4
      go_wp2_with fail
      go_quiet (fail)
      go_wp2_with fail
      go_roundw
      case rel =>
        rw [HX0.out]
        refine ⟨3, r0, r1, X % 4294967296, r3, X / 9223372036854775808, rfl, rfl, by omega, by omega, by omega, by omega, by omega, by omega, by omega, by omega, by omega, by omega, (rA.drewN _).set 2 _, (rB.drewN _).other (by omega) _, (rC.drewN _).other (by omega) _, (Below.drewN hB _).setCell (p := ⟨w.heap.size, 2, none⟩) (Nat.le_refl _) _, ?_⟩
        have s4 := HS.out
        unfold Hid subR
        right; right; right; left
        refine ⟨rfl, ?_, rfl⟩
        omega
      case measure => simp [intOf]
    · clear hR
      obtain ⟨X, hX⟩ : ∃ X, IntKind.u64.wrap (IntKind.u64.wrap (r3 - b3) - c) = X := ⟨_, rfl⟩
      have hs := sub_step r3 b3 c X (by omega) (by omega) (by omega) (by omega) (by omega) (by omega) hX
      obtain ⟨s0, s1, s2, s3, s4⟩ := hs
      have HX0 := Lib.hid hX
      have HS := Lib.hid s4
      clear hX s4
      go_wp2_with fail
      go_quiet (fail)
      go_wp2_with fail
      go_roundw
      case rel =>
        rw [HX0.out]
        refine ⟨4, r0, r1, r2, X % 4294967296, X / 9223372036854775808, rfl, rfl, by omega, by omega, by omega, by omega, by omega, by omega, by omega, by omega, by omega, by omega, (rA.drewN _).set 3 _, (rB.drewN _).other (by omega) _, (rC.drewN _).other (by omega) _, (Below.drewN hB _).setCell (p := ⟨w.heap.size, 3, none⟩) (Nat.le_refl _) _, ?_⟩
        have s4 := HS.out
        unfold Hid subR
        right; right; right; right
        refine ⟨rfl, ?_⟩
        unfold num4
        omega
      case measure => simp [intOf]
    · clear hR
      go_wp2_with fail
      have rC4 := (((rC.set 0 (vU r0)).set 1 (vU r1)).set 2 (vU r2)).set 3 (vU r3)
      refine bodyPost_ret (res_c rfl rfl (load4 rC4)) rfl ⟨?_, ?_⟩
      · rw [← sub_fin x y _ _ r0 r1 r2 r3 c c0 c1 (by omega) hxa.out hyb.out HX.out HY.out h]
      · exact (((((hB.setCell (p := ⟨w.heap.size + 1 + 1, 0, none⟩) (by simp; omega) _).setCell (p := ⟨w.heap.size + 1 + 1, 1, none⟩) (by simp; omega) _).setCell (p := ⟨w.heap.size + 1 + 1, 2, none⟩) (by simp; omega) _).setCell (p := ⟨w.heap.size + 1 + 1, 3, none⟩) (by simp; omega) _))

end Go.Proofs.YtfciebajiihcfaaDoor
