/- boxes that live on behind calls -/
import Derived.Test.YtfciebajiihcfaaDoorNatAw
namespace Go.Proofs.YtfciebajiihcfaaDoor
open Go.RowKit
set_option linter.unusedVariables false

theorem vN_all (a0 a1 a2 a3 : Int) (h : (0 ≤ a0 ∧ a0 ≤ 4294967295) ∧ (0 ≤ a1 ∧ a1 ≤ 4294967295) ∧ (0 ≤ a2 ∧ a2 ≤ 4294967295) ∧ (0 ≤ a3 ∧ a3 ≤ 4294967295)) :
    ∃ n, n < big ∧ Value.agg #[.int .u32 a0, .int .u32 a1, .int .u32 a2, .int .u32 a3] = vN n := by
  obtain ⟨⟨h0, h1⟩, ⟨h2, h3⟩, ⟨h4, h5⟩, ⟨h6, h7⟩⟩ := h
  refine ⟨(num4 a0 a1 a2 a3).toNat, ?_, vN_shut a0 a1 a2 a3 _ ⟨h0, h1, h2, h3, h4, h5, h6, h7⟩ ?_⟩
  · unfold num4 big; omega
  · unfold num4; omega

theorem call0 {w a b : World} (h : Below w.heap.size w a) (hb : Below a.heap.size a b) : Below w.heap.size w b := h.trans (hb.mono h.size)
theorem call3 {w a b : World} {o o' o'' : Obj} (h : Below w.heap.size w a) (hb : Below (((a.alloc o).alloc o').alloc o'').heap.size (((a.alloc o).alloc o').alloc o'') b) : Below w.heap.size w b :=
  call2 (h.alloc h.size o) hb
theorem row0 {a b : World} {k : Nat} {t : TypeId} {vs : Array Value} (r : Row a k t vs) (hb : Below a.heap.size a b) : Row b k t vs := r.below hb r.lt
theorem row3 {a b : World} {o o' o'' : Obj} {k : Nat} {t : TypeId} {vs : Array Value} (r : Row a k t vs) (hb : Below (((a.alloc o).alloc o').alloc o'').heap.size (((a.alloc o).alloc o').alloc o'') b) : Row b k t vs :=
  row2 (r.alloc o) hb
theorem new3 {a b : World} {t t' t'' : TypeId} {vs vs' vs'' : Array Value} (hb : Below (((a.alloc (.cells vs t)).alloc (.cells vs' t')).alloc (.cells vs'' t'')).heap.size (((a.alloc (.cells vs t)).alloc (.cells vs' t')).alloc (.cells vs'' t'')) b) :
    Row b a.heap.size t vs ∧ Row b (a.heap.size + 1) t' vs' ∧ Row b (a.heap.size + 1 + 1) t'' vs'' := by
  obtain ⟨h1, h2⟩ := new2 hb
  rw [World.size_alloc] at h1 h2
  exact ⟨row2 (Row.new a t vs) hb, h1, h2⟩

theorem Mul2 (a : World) (b x y : Nat) (hb : a.heap.size = b) (hx : x < big) (hy : y < big) : Calls Tryd.prog 17 #[.slice (some ⟨b, 0, none⟩) 2 2]
    (a.alloc (.cells #[.int .u32 (dg 0 x), .int .u32 (dg 1 x), .int .u32 (dg 2 x), .int .u32 (dg 3 x), .int .u32 (dg 0 y), .int .u32 (dg 1 y), .int .u32 (dg 2 y), .int .u32 (dg 3 y)] 28)) fun e w' => e = .returned (vMul [x, y]) ∧
    Below (a.alloc (.cells #[.int .u32 (dg 0 x), .int .u32 (dg 1 x), .int .u32 (dg 2 x), .int .u32 (dg 3 x), .int .u32 (dg 0 y), .int .u32 (dg 1 y), .int .u32 (dg 2 y), .int .u32 (dg 3 y)] 28)).heap.size (a.alloc (.cells #[.int .u32 (dg 0 x), .int .u32 (dg 1 x), .int .u32 (dg 2 x), .int .u32 (dg 3 x), .int .u32 (dg 0 y), .int .u32 (dg 1 y), .int .u32 (dg 2 y), .int .u32 (dg 3 y)] 28)) w' := by
  subst hb
  exact Mul_any _ [x, y] _ (lit_rows a _ [x, y] 2 rfl (by show 2 ≤ 100; decide) rfl) (by intro z hz; simp at hz; rcases hz with rfl | rfl; exact hx; exact hy) (by show 2 ≤ 1000000; decide)

theorem Mul2_yes (a : World) (b x y : Nat) (hb : a.heap.size = b) (hx : x < big) (hy : y < big) (h : x * y < big) : Calls Tryd.prog 17 #[.slice (some ⟨b, 0, none⟩) 2 2]
    (a.alloc (.cells #[.int .u32 (dg 0 x), .int .u32 (dg 1 x), .int .u32 (dg 2 x), .int .u32 (dg 3 x), .int .u32 (dg 0 y), .int .u32 (dg 1 y), .int .u32 (dg 2 y), .int .u32 (dg 3 y)] 28)) fun e w' => e = .returned (.tuple #[vN (x * y), .int .i64 0]) ∧
    Below (a.alloc (.cells #[.int .u32 (dg 0 x), .int .u32 (dg 1 x), .int .u32 (dg 2 x), .int .u32 (dg 3 x), .int .u32 (dg 0 y), .int .u32 (dg 1 y), .int .u32 (dg 2 y), .int .u32 (dg 3 y)] 28)).heap.size (a.alloc (.cells #[.int .u32 (dg 0 x), .int .u32 (dg 1 x), .int .u32 (dg 2 x), .int .u32 (dg 3 x), .int .u32 (dg 0 y), .int .u32 (dg 1 y), .int .u32 (dg 2 y), .int .u32 (dg 3 y)] 28)) w' := by
  have e : vMul [x, y] = .tuple #[vN (x * y), .int .i64 0] := by
    unfold vMul
    have e2 : prd [x, y] = x * y := by simp [prd]
    rw [e2, if_pos h]
  rw [← e]
  exact Mul2 a b x y hb hx hy

theorem Mul2_no (a : World) (b x y : Nat) (hb : a.heap.size = b) (hx : x < big) (hy : y < big) (h : ¬ x * y < big) : Calls Tryd.prog 17 #[.slice (some ⟨b, 0, none⟩) 2 2]
    (a.alloc (.cells #[.int .u32 (dg 0 x), .int .u32 (dg 1 x), .int .u32 (dg 2 x), .int .u32 (dg 3 x), .int .u32 (dg 0 y), .int .u32 (dg 1 y), .int .u32 (dg 2 y), .int .u32 (dg 3 y)] 28)) fun e w' => e = .returned (.tuple #[vN 0, .int .i64 3]) ∧
    Below (a.alloc (.cells #[.int .u32 (dg 0 x), .int .u32 (dg 1 x), .int .u32 (dg 2 x), .int .u32 (dg 3 x), .int .u32 (dg 0 y), .int .u32 (dg 1 y), .int .u32 (dg 2 y), .int .u32 (dg 3 y)] 28)).heap.size (a.alloc (.cells #[.int .u32 (dg 0 x), .int .u32 (dg 1 x), .int .u32 (dg 2 x), .int .u32 (dg 3 x), .int .u32 (dg 0 y), .int .u32 (dg 1 y), .int .u32 (dg 2 y), .int .u32 (dg 3 y)] 28)) w' := by
  have e : vMul [x, y] = .tuple #[vN 0, .int .i64 3] := by
    unfold vMul
    have e2 : prd [x, y] = x * y := by simp [prd]
    rw [e2, if_neg h]
  rw [← e]
  exact Mul2 a b x y hb hx hy

end Go.Proofs.YtfciebajiihcfaaDoor
