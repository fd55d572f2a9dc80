/- NatRing: the walk as the closing wants it -/
import Derived.Test.YtfciebajiihcfaaDoorNatRing
namespace Go.Proofs.YtfciebajiihcfaaDoor
open Go.RowKit

theorem NatRing_walk (a0 a1 a2 a3 b0 b1 b2 b3 c0 c1 c2 c3 x y z : Int) (w : World) (ha : (0 ≤ a0 ∧ a0 ≤ 4294967295) ∧ (0 ≤ a1 ∧ a1 ≤ 4294967295) ∧ (0 ≤ a2 ∧ a2 ≤ 4294967295) ∧ (0 ≤ a3 ∧ a3 ≤ 4294967295)) (hb : (0 ≤ b0 ∧ b0 ≤ 4294967295) ∧ (0 ≤ b1 ∧ b1 ≤ 4294967295) ∧ (0 ≤ b2 ∧ b2 ≤ 4294967295) ∧ (0 ≤ b3 ∧ b3 ≤ 4294967295)) (hc : (0 ≤ c0 ∧ c0 ≤ 4294967295) ∧ (0 ≤ c1 ∧ c1 ≤ 4294967295) ∧ (0 ≤ c2 ∧ c2 ≤ 4294967295) ∧ (0 ≤ c3 ∧ c3 ≤ 4294967295)) (hx : 0 ≤ x ∧ x ≤ 4294967295) (hy : 0 ≤ y ∧ y ≤ 4294967295) (hz : 0 ≤ z ∧ z ≤ 4294967295) :
    Calls Tryd.prog 5 #[.agg #[.int .u32 a0, .int .u32 a1, .int .u32 a2, .int .u32 a3], .agg #[.int .u32 b0, .int .u32 b1, .int .u32 b2, .int .u32 b3], .agg #[.int .u32 c0, .int .u32 c1, .int .u32 c2, .int .u32 c3], .int .u32 x, .int .u32 y, .int .u32 z] w fun e w' => e = .returned (.bool true) ∧ Below w.heap.size w w' := by
  obtain ⟨a, hab, ea⟩ := vN_all a0 a1 a2 a3 ha
  obtain ⟨b, hbb, eb⟩ := vN_all b0 b1 b2 b3 hb
  obtain ⟨c, hcb, ec⟩ := vN_all c0 c1 c2 c3 hc
  obtain ⟨p, rfl⟩ : ∃ p : Nat, x = p := ⟨x.toNat, by omega⟩
  obtain ⟨q, rfl⟩ : ∃ q : Nat, y = q := ⟨y.toNat, by omega⟩
  obtain ⟨r, rfl⟩ : ∃ r : Nat, z = r := ⟨z.toNat, by omega⟩
  rw [ea, eb, ec]
  exact NatRing_nat a b c p q r w hab hbb hcb (by omega) (by omega) (by omega)

end Go.Proofs.YtfciebajiihcfaaDoor
