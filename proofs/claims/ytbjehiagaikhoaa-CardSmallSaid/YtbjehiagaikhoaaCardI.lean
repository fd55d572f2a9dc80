/- card: cards and its iterator -/
import Derived.Test.YtbjehiagaikhoaaProg
import Derived.Test.YtbjehiagaikhoaaIter
import Derived.Laws.BitsAllLaws
namespace Go.Proofs.Ytbjehiagaikhoaa
open Go.RowKit Go.Shelf
attribute [local go_sem] Oper.semAt_some
set_option linter.unusedVariables false
set_option maxRecDepth 100000

/-- card c is in the set m -/
def bt (m c : Nat) : Bool := m / 2 ^ c % 2 == 1

/-- the cards of a set that are less than k, from high to low -/
def downs (m : Nat) : Nat → List Nat
  | 0 => []
  | k + 1 => (if bt m k then [k] else []) ++ downs m k

theorem downs_yes (m k : Nat) (h : bt m k = true) : downs m (k + 1) = k :: downs m k := by simp [downs, h]
theorem downs_no (m k : Nat) (h : bt m k = false) : downs m (k + 1) = downs m k := by simp [downs, h]

theorem downs_lt (m k : Nat) : ∀ c ∈ downs m k, c < k := by
  induction k with
  | zero => intro c hc; simp [downs] at hc
  | succ k ih =>
    intro c hc
    unfold downs at hc
    rw [List.mem_append] at hc
    rcases hc with hc | hc
    · split at hc
      · simp at hc; omega
      · simp at hc
    · have := ih c hc; omega

theorem downs_len (m k : Nat) : (downs m k).length ≤ k := by
  induction k with
  | zero => simp [downs]
  | succ k ih =>
    unfold downs
    rw [List.length_append]
    split <;> simp <;> omega

theorem bt_bits (m i : Nat) (hm : m < 18446744073709551616) : (bits BinOp.and IntKind.u64 ((m : Int) / 2 ^ i) 1 == 1) = bt m i := by
  have h1 : m / 2 ^ i < 18446744073709551616 := Nat.lt_of_le_of_lt (Nat.div_le_self _ _) hm
  have h2 : ((m : Int) / 2 ^ i) = ((m / 2 ^ i : Nat) : Int) := by simp
  rw [h2, show (1 : Int) = ((1 : Nat) : Int) from rfl, u64_and_nat _ _ h1 (by decide), Nat.and_one_is_mod]
  unfold bt
  rw [Bool.eq_iff_iff]
  simp only [beq_iff_eq]
  omega

def encC (c : Nat) : Array Value := #[.int .u8 (c : Int)]

theorem cards_any (m : Int) (w : World) :
    Calls Try.prog 29 #[.int .u64 m] w fun e w' => e = .returned (.func (.func 47) #[] #[.pointer (some ⟨w.heap.size, 0, none⟩)]) ∧ w.alloc (.cells #[.int .u64 m] 22) = w' := by
  go_enter Try.func29, Try.ntmps29
  go_wp2
  go_ret
  exact ⟨rfl, rfl⟩

theorem cards_iter (bk m : Nat) (w : World) (hm : m < 18446744073709551616) (hb : Boxed w bk 22 (.int .u64 m)) :
    IterOK Try.prog 47 #[.pointer (some ⟨bk, 0, none⟩)] encC (fun A B => Below A.heap.size A B) (fun A B => B.heap[bk]? = A.heap[bk]?) (downs m 52) w := by
  obtain ⟨L, hL⟩ : ∃ L, downs m 52 = L := ⟨_, rfl⟩
  rw [hL]
  intro l J Jx W hW hJ hJx hY h0
  have hbW : Boxed W bk 22 (.int .u64 m) := (hW.block bk hb.lt).trans hb
  refine callsIn_of_wp Try.func47 rfl trivial ?_ rfl
  simp only [Try.ntmps47, List.size_toArray, List.length_cons, List.length_nil, Nat.reduceAdd, Nat.reduceSub, Array.replicate_succ, Array.replicate_zero, List.push_toArray, List.append_toArray, List.nil_append, List.cons_append]
  gi_wp2
  gi_loopw [3] (fun c wr => ∃ (pre : List Nat) (k : Nat), c = .int .i64 ((k : Int) - 1) ∧ k ≤ 52 ∧ pre ++ downs m k = L ∧ Boxed wr bk 22 (.int .u64 m) ∧ J pre wr)
    (fun c wr => (intOf c + 1).toNat)
  case atStart => exact ⟨[], 52, rfl, by omega, hL, hbW, h0⟩
  case round =>
    obtain ⟨pre, k, rfl, hk, hpre, hbx, hj⟩ := hrel
    have hc := hbx.cell
    have hfz := hbx.frozen
    by_cases hz : k = 0
    · subst hz
      simp only [downs, List.append_nil] at hpre
      subst hpre
      gi_wp2
      refine bodyPost_end (results_none rfl _ _ _) rfl ?_
      exact ⟨⟨_, rfl⟩, .inl hj⟩
    · obtain ⟨i, rfl⟩ : ∃ i, k = i + 1 := ⟨k - 1, by omega⟩
      clear hz
      have hi : ((i + 1 : Nat) : Int) - 1 = (i : Int) := by omega
      have hnext : ((i : Nat) : Int) - 1 + 1 = (i : Int) := by omega
      rw [hi]
      by_cases ho : bt m i = true
      · have hbool : (bits BinOp.and IntKind.u64 ((m : Int) / 2 ^ i) 1 == 1) = true := (bt_bits m i hm).trans ho
        rw [downs_yes _ _ ho] at hpre
        obtain ⟨fn, tmps, assign, body, hy, hR⟩ := hY pre i wr hj ⟨downs m i, by rw [← hpre, List.append_assoc]; rfl⟩
        simp only [encC] at hy
        have HP := Lib.hid hpre
        clear hpre ho
        gi_wp2
        refine ⟨rfl, hR.mono ?_⟩
        rintro e W3 (⟨rfl, hJ3, hk3⟩ | ⟨rfl, hJx3⟩)
        · have hbx3 : Boxed W3 bk 22 (.int .u64 m) := hk3.trans hbx
          gi_wp2
          go_roundw
          case rel => exact ⟨pre ++ [i], i, rfl, by omega, by rw [List.append_assoc]; exact HP.out, hbx3, hJ3⟩
          case measure => simp [intOf]
        · gi_wp2
          refine bodyPost_ret (results_none rfl _ _ _) rfl ?_
          exact ⟨⟨_, rfl⟩, .inr ⟨pre ++ [i], ⟨downs m i, by rw [← HP.out, List.append_assoc]; rfl⟩, hJx3⟩⟩
      · have hbf : bt m i = false := by simpa using ho
        have hbool : (bits BinOp.and IntKind.u64 ((m : Int) / 2 ^ i) 1 == 1) = false := (bt_bits m i hm).trans hbf
        rw [downs_no _ _ hbf] at hpre
        have HP := Lib.hid hpre
        clear hpre ho hbf
        gi_wp2
        refine ⟨fun _ _ => trivial, ?_⟩
        gi_wp2
        go_roundw
        case rel => exact ⟨pre, i, rfl, by omega, HP.out, hbx, hj⟩
        case measure => simp [intOf]

end Go.Proofs.Ytbjehiagaikhoaa
