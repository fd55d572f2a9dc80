/- the parts of a number, one of them set anew: plain arithmetic -/
import Derived.Test.YtfciebajiihcfaaDoorNatA
namespace Go.Proofs.YtfciebajiihcfaaDoor

/-- part i, as a natural number -/
def dn (i n : Nat) : Nat := n / 4294967296 ^ i % 4294967296
theorem dg_dn (i n : Nat) : dg i n = (dn i n : Int) := rfl
theorem dn_lt (i n : Nat) : dn i n < 4294967296 := Nat.mod_lt _ (by decide)

def setp (V j r : Nat) : Nat := V % 4294967296 ^ j + 4294967296 ^ j * (r + 4294967296 * (V / 4294967296 ^ (j + 1)))

theorem split_at (V j : Nat) : V = V % 4294967296 ^ j + 4294967296 ^ j * (dn j V + 4294967296 * (V / 4294967296 ^ (j + 1))) := by
  have h1 : dn j V + 4294967296 * (V / 4294967296 ^ (j + 1)) = V / 4294967296 ^ j := by
    unfold dn
    rw [Nat.pow_succ, ← Nat.div_div_eq_div_mul]
    exact Nat.mod_add_div _ _
  rw [h1]
  exact (Nat.mod_add_div _ _).symm

theorem setp_eq (V j r : Nat) : setp V j r + dn j V * 4294967296 ^ j = V + r * 4294967296 ^ j := by
  have h := split_at V j
  unfold setp
  obtain ⟨z, hz⟩ : ∃ z, 4294967296 * (V / 4294967296 ^ (j + 1)) = z := ⟨_, rfl⟩
  rw [hz] at h ⊢
  rw [Nat.mul_add] at h ⊢
  rw [Nat.mul_comm (4294967296 ^ j) r, Nat.mul_comm (4294967296 ^ j) (dn j V)] at *
  omega

theorem pos_pow (j : Nat) : 0 < 4294967296 ^ j := Nat.pow_pos (by decide)

theorem setp_same (V j r : Nat) (hr : r < 4294967296) : dn j (setp V j r) = r := by
  unfold dn setp
  rw [Nat.add_mul_div_left _ _ (pos_pow j), Nat.div_eq_of_lt (Nat.mod_lt _ (pos_pow j)), Nat.zero_add, Nat.add_mul_mod_self_left, Nat.mod_eq_of_lt hr]

/-- a lower part hangs on the lower end alone -/
theorem dn_low (A z j m : Nat) (hm : m < j) : dn m (A + 4294967296 ^ j * z) = dn m A := by
  unfold dn
  obtain ⟨d, rfl⟩ : ∃ d, j = m + 1 + d := ⟨j - m - 1, by omega⟩
  rw [show (4294967296 : Nat) ^ (m + 1 + d) * z = 4294967296 ^ m * (4294967296 * (4294967296 ^ d * z)) by rw [Nat.pow_add, Nat.pow_succ]; simp only [Nat.mul_assoc],
    Nat.add_mul_div_left _ _ (pos_pow m), Nat.add_mul_mod_self_left]

theorem setp_low (V j r m : Nat) (hm : m < j) : dn m (setp V j r) = dn m V := by
  conv => rhs; rw [split_at V j]
  unfold setp
  rw [dn_low _ _ _ _ hm, dn_low _ _ _ _ hm]

theorem dn_high (A d H j m : Nat) (hA : A < 4294967296 ^ j) (hd : d < 4294967296) (hm : j < m) : dn m (A + 4294967296 ^ j * (d + 4294967296 * H)) = dn (m - j - 1) H := by
  unfold dn
  obtain ⟨e, rfl⟩ : ∃ e, m = j + 1 + e := ⟨m - j - 1, by omega⟩
  rw [show j + 1 + e - j - 1 = e from by omega, Nat.pow_add, Nat.pow_succ, ← Nat.div_div_eq_div_mul, ← Nat.div_div_eq_div_mul, Nat.add_mul_div_left _ _ (pos_pow j), Nat.div_eq_of_lt hA, Nat.zero_add,
    Nat.add_mul_div_left _ _ (by decide), Nat.div_eq_of_lt hd, Nat.zero_add]

theorem setp_high (V j r m : Nat) (hr : r < 4294967296) (hm : j < m) : dn m (setp V j r) = dn m V := by
  conv => rhs; rw [split_at V j]
  unfold setp
  rw [dn_high _ _ _ _ _ (Nat.mod_lt _ (pos_pow j)) hr hm, dn_high _ _ _ _ _ (Nat.mod_lt _ (pos_pow j)) (dn_lt j V) hm]

theorem dn_setp (V j r m : Nat) (hr : r < 4294967296) : dn m (setp V j r) = if m = j then r else dn m V := by
  split
  · rename_i h; subst h; exact setp_same V m r hr
  · rcases Nat.lt_or_ge m j with h | h
    · exact setp_low V j r m h
    · exact setp_high V j r m hr (by omega)

/-- eight parts -/
abbrev p8 (n : Nat) : Array Value := #[.int .u32 (dg 0 n), .int .u32 (dg 1 n), .int .u32 (dg 2 n), .int .u32 (dg 3 n), .int .u32 (dg 4 n), .int .u32 (dg 5 n), .int .u32 (dg 6 n), .int .u32 (dg 7 n)]

theorem p8_get (n j : Nat) (hj : j < 8) : (p8 n)[j]? = some (.int .u32 (dg j n)) := by
  match j, hj with
  | 0, _ => rfl
  | 1, _ => rfl
  | 2, _ => rfl
  | 3, _ => rfl
  | 4, _ => rfl
  | 5, _ => rfl
  | 6, _ => rfl
  | 7, _ => rfl

theorem p8_set (n j r : Nat) (hr : r < 4294967296) : (p8 n).setIfInBounds j (.int .u32 (r : Int)) = p8 (setp n j r) := by
  refine Array.ext (by simp) ?_
  intro i h1 h2
  have hi : i < 8 := by simpa using h2
  have e1 : (p8 (setp n j r))[i]? = some (.int .u32 (dg i (setp n j r))) := p8_get _ i hi
  have e2 : ((p8 n).setIfInBounds j (.int .u32 (r : Int)))[i]? = some (.int .u32 (dg i (setp n j r))) := by
    rw [dg_dn, dn_setp n j r i hr, Array.getElem?_setIfInBounds]
    by_cases e : j = i
    · subst e
      rw [if_pos rfl, if_pos (by simpa using hi), if_pos rfl]
    · rw [if_neg e, if_neg (by omega), p8_get n i hi, dg_dn]
  rw [Array.getElem?_eq_getElem h1] at e2
  rw [Array.getElem?_eq_getElem h2] at e1
  have := e2.trans e1.symm
  injection this

/-- the lower end of a number grows by a part -/
theorem mod_succ (y k : Nat) : y % 4294967296 ^ (k + 1) = y % 4294967296 ^ k + dn k y * 4294967296 ^ k := by
  unfold dn
  rw [Nat.pow_succ, Nat.mod_mul, Nat.mul_comm (y / _ % _)]

theorem setp_lt (V j r n : Nat) (hr : r < 4294967296) (hj : j < n) (hV : V < 4294967296 ^ n) : setp V j r < 4294967296 ^ n := by
  obtain ⟨e, rfl⟩ : ∃ e, n = j + 1 + e := ⟨n - j - 1, by omega⟩
  have hH : V / 4294967296 ^ (j + 1) < 4294967296 ^ e := Nat.div_lt_of_lt_mul (by rw [← Nat.pow_add]; exact hV)
  have hl : V % 4294967296 ^ j < 4294967296 ^ j := Nat.mod_lt _ (pos_pow j)
  have h1 : r + 4294967296 * (V / 4294967296 ^ (j + 1)) + 1 ≤ 4294967296 * 4294967296 ^ e := by
    have := Nat.mul_le_mul_left 4294967296 hH
    rw [Nat.succ_eq_add_one, Nat.mul_add] at this
    omega
  have h2 := Nat.mul_le_mul_left (4294967296 ^ j) h1
  rw [Nat.mul_add, Nat.mul_one] at h2
  have h3 : 4294967296 ^ j * (4294967296 * 4294967296 ^ e) = 4294967296 ^ (j + 1 + e) := by rw [Nat.pow_add, Nat.pow_succ, Nat.mul_assoc]
  rw [h3] at h2
  unfold setp
  omega

/-- one step of the inner loop of mul -/
theorem mul_step (P V c i k a y : Nat) (hk : k < 4) (hc : c < 4294967296) (ha : a < 4294967296) (hV : V < 4294967296 ^ (i + 4)) (h : V + c * 4294967296 ^ (i + k) = P + a * 4294967296 ^ i * (y % 4294967296 ^ k)) :
    ∃ t, t = c + (a * dn k y + dn (i + k) V) ∧ t / 4294967296 < 4294967296 ∧ setp V (i + k) (t % 4294967296) < 4294967296 ^ (i + 4) ∧
      setp V (i + k) (t % 4294967296) + t / 4294967296 * 4294967296 ^ (i + (k + 1)) = P + a * 4294967296 ^ i * (y % 4294967296 ^ (k + 1)) := by
  refine ⟨_, rfl, ?_, setp_lt _ _ _ _ (Nat.mod_lt _ (by decide)) (by omega) hV, ?_⟩
  · have h1 := dn_lt k y
    have h2 := dn_lt (i + k) V
    have h3 : a * dn k y ≤ 4294967295 * 4294967295 := Nat.mul_le_mul (by omega) (by omega)
    omega
  · obtain ⟨t, ht⟩ : ∃ t, c + (a * dn k y + dn (i + k) V) = t := ⟨_, rfl⟩
    rw [ht]
    have hs := setp_eq V (i + k) (t % 4294967296)
    have e1 : t / 4294967296 * 4294967296 ^ (i + (k + 1)) + t % 4294967296 * 4294967296 ^ (i + k) = t * 4294967296 ^ (i + k) := by
      rw [show i + (k + 1) = (i + k) + 1 from rfl, Nat.pow_succ, Nat.mul_comm (4294967296 ^ (i + k)) 4294967296, ← Nat.mul_assoc, ← Nat.add_mul, Nat.div_add_mod']
    have e2 : t * 4294967296 ^ (i + k) = c * 4294967296 ^ (i + k) + (a * dn k y) * 4294967296 ^ (i + k) + dn (i + k) V * 4294967296 ^ (i + k) := by
      rw [← ht, Nat.add_mul, Nat.add_mul, Nat.add_assoc]
    have e3 : a * 4294967296 ^ i * (y % 4294967296 ^ (k + 1)) = a * 4294967296 ^ i * (y % 4294967296 ^ k) + a * dn k y * 4294967296 ^ (i + k) := by
      rw [mod_succ, Nat.mul_add, Nat.pow_add]
      congr 1
      rw [Nat.mul_mul_mul_comm]
    omega

/-- the end of a round of mul -/
theorem mul_round (x y P V c i : Nat) (hy : y < 4294967296 ^ 4) (hV : V < 4294967296 ^ (i + 4)) (hP : P = x % 4294967296 ^ i * y) (h : V + c * 4294967296 ^ (i + 4) = P + dn i x * 4294967296 ^ i * (y % 4294967296 ^ 4)) :
    setp V (i + 4) c = x % 4294967296 ^ (i + 1) * y := by
  have hz : dn (i + 4) V = 0 := by unfold dn; rw [Nat.div_eq_of_lt hV]
  have hs := setp_eq V (i + 4) c
  rw [hz, Nat.zero_mul, Nat.add_zero] at hs
  rw [hs, h, hP, Nat.mod_eq_of_lt hy, mod_succ, Nat.add_mul]

end Go.Proofs.YtfciebajiihcfaaDoor
