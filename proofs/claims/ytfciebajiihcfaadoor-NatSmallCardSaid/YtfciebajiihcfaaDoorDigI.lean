/- finesseref02: Mul, Gcd, Text -/
import Derived.Test.YtfciebajiihcfaaDoorDigH
import Derived.Test.YtfciebajiihcfaaDoorNatF
namespace Go.Proofs.YtfciebajiihcfaaDoor
open Go.RowKit
set_option linter.unusedVariables false
set_option linter.unusedSimpArgs false
set_option maxRecDepth 100000
set_option maxHeartbeats 2000000
attribute [local go_sem ↓] Go.wp_at_zero Go.wp_at_succ

theorem vMul_parts (l : List Nat) : vMul l = vParts (prd l) := rfl

theorem prd_len (l : List Nat) (hl : ∀ a ∈ l, a < big) : ∀ k, k ≤ l.length → (dgs (prd (l.take k))).length ≤ 39 * k + 1 := by
  intro k
  induction k with
  | zero => intro _; simp [prd]; exact dgs_len_le (by decide)
  | succ k ih =>
    intro hk
    rw [take_snoc (by omega), prd_append]
    have h1 := mul_lt_pow (prd (l.take k)) (l.getD k 0)
    have h2 := dgs_len_le h1
    have h3 := ih (by omega)
    have h4 := len_big (l.getD k 0) (by
      rw [List.getD_eq_getElem?_getD, List.getElem?_eq_getElem (by omega)]
      exact hl _ (List.getElem_mem _))
    omega

theorem rMul_any (v : Value) (l : List Nat) (w : World) (hrd : Rd w.heap.size w 4 v l.length (nls l)) (hl : ∀ a ∈ l, a < big) (hll : l.length ≤ 1000) :
    Calls Tryd.prog 30 #[v] w fun e w' => e = .returned (vMul l) ∧ Below w.heap.size w w' := by
  rw [vMul_parts]
  obtain ⟨P, hP⟩ : ∃ P, prd l = P := ⟨_, rfl⟩
  rw [hP]
  obtain ⟨p9, e9, hpv⟩ : ∃ (n : Nat) (e9 : Int), vParts P = .tuple #[vN n, .int .i64 e9] := by
    unfold vParts
    split
    · exact ⟨_, _, rfl⟩
    · exact ⟨_, _, rfl⟩
  rw [hpv]
  have HD := Lib.hid (And.intro hrd (And.intro hl (And.intro hP hpv)))
  obtain ⟨a, c, rfl⟩ := hrd.shape
  clear hrd hl hP hpv
  obtain ⟨n, hn⟩ : ∃ n, l.length = n := ⟨_, rfl⟩
  have HN := Lib.hid hn
  rw [hn] at hll ⊢
  clear hn
  go_enter Tryd.func30, Tryd.ntmps30
  go_wp2_with fail
  go_loopw [4, 5] (fun o i wr => ∃ (vo : Value) (k : Nat), o = vo ∧ i = .int .i64 (k : Int) ∧ k ≤ n ∧ Hid (Dg wr vo (prd (l.take k))) ∧ Row wr w.heap.size 27 (pN 0) ∧ Below w.heap.size w wr) (fun _ i _ => n - (intOf i).toNat)
  case atStart =>
    refine ⟨_, 0, rfl, rfl, by omega, Lib.hid ?_, (Row.new _ _ _).alloc _, ((Below.refl _ _).alloc (Nat.le_refl _) _).alloc (by simp) _⟩
    have h1 : dgs 1 = [1] := by rw [dgs_pos (by decide)]; show 1 % 10 :: dgs 0 = _; rw [dgs_zero]
    show Dg _ _ 1
    unfold Dg Ns
    rw [h1]
    refine ⟨rfl, .inr ⟨by decide, w.heap.size + 1, 0, 1, rfl, by simp, Nat.le_refl _, Nat.le_refl _, by simp [maxLen], fun j hj => ?_⟩⟩
    obtain rfl : j = 0 := by simpa using hj
    have hr := Row.new (w.alloc (.cells (pN 0) 27)) 3 #[.int .i64 1]
    rw [World.size_alloc] at hr
    exact hr.cell 0
  case round =>
    obtain ⟨vo, k, hvo, rfl, hk, hG, r2, hB⟩ := hrel
    subst hvo
    by_cases hlt : k < n
    · have hkl : k < l.length := by have := HN.out; omega
      obtain ⟨b, off, cc, hvv, hbb, hc1, hc2, hcell⟩ := HD.out.1.nat (by omega)
      cases hvv
      obtain ⟨x, hx⟩ : ∃ x, l.getD k 0 = x := ⟨_, rfl⟩
      obtain ⟨e0, e1, e2, e3⟩ := hcell k hkl x hx wr (fun o => hB.cell (p := ⟨b, o, none⟩) hbb)
      have hxb : x < big := by
        rw [← hx, List.getD_eq_getElem?_getD, List.getElem?_eq_getElem hkl]
        exact HD.out.2.1 _ (List.getElem_mem hkl)
      have hlen := prd_len l HD.out.2.1 k (by omega)
      have hnext : prd (l.take (k + 1)) = prd (l.take k) * x := by rw [take_snoc hkl, prd_append, hx]
      have HX := Lib.hid (And.intro hnext (And.intro r2 (And.intro hB hlen)))
      have hlx := len_big x hxb
      have zr := r2.lt
      have hc2' := HN.out
      unfold maxLen at hc2
      have hnc : n ≤ c := by omega
      clear hcell hx hnext hlen r2 hB hc1 hc2'
      go_wp2_with (go_at_call 50; refine stopD_of ?_)
      unfold StopD
      refine (digits_dg x _ hxb).mono ?_
      rintro e w3 ⟨v3, rfl, hv3, hb3⟩
      have H3 := Lib.hid (And.intro (hG.out.later hb3) (And.intro hv3 hb3))
      clear hv3 hb3
      go_wp2_with (go_at_call 49; refine stopD_of ?_)
      unfold StopD
      refine (mul_dg _ _ _ x _ H3.out.1 H3.out.2.1 (Nat.le_trans HX.out.2.2.2 (by omega)) (by omega)).mono ?_
      rintro e w4 ⟨v4, rfl, hv4, hb4⟩
      have hb04 := H3.out.2.2.trans (hb4.mono H3.out.2.2.size)
      rw [← HX.out.1] at hv4
      have H4 := Lib.hid (And.intro hv4 (And.intro (dr0 HX.out.2.1 hb04) (dc0 HX.out.2.2.1 hb04)))
      clear hv4 hb4 hb04 H3
      go_wp2_with fail
      go_roundw
      case rel => exact ⟨v4, k + 1, rfl, by go_num, by omega, Lib.hid H4.out.1, H4.out.2.1, H4.out.2.2⟩
      case measure => simp [intOf]; omega
    · obtain rfl : k = n := by omega
      have hfin : prd (l.take k) = P := by rw [List.take_of_length_le (by have := HN.out; omega)]; exact HD.out.2.2.1
      have hlen := prd_len l HD.out.2.1 k (by have := HN.out; omega)
      rw [hfin] at hG hlen
      have HE := Lib.hid (And.intro r2 (And.intro hB hlen))
      have hz := r2.lt
      clear hfin hlen r2 hB
      go_wp2_with (go_at_call 47; refine stopD_of ?_)
      unfold StopD
      refine (parts_dg _ P _ hG.out (Nat.le_trans HE.out.2.2 (by omega))).mono ?_
      rintro e w4 ⟨rfl, hb4⟩
      rw [HD.out.2.2.2]
      have r4 := dr0 HE.out.1 hb4
      have hB4 := dc0 HE.out.2.1 hb4
      clear hb4 HE
      obtain ⟨c20, c21, c22, c23, f20, f21, f22, f23⟩ := row4 r4
      go_wp2_with fail
      refine bodyPost_ret (res_ct rfl rfl (load4' (r4.stored4 _ _ _ _))) rfl ⟨rfl, Below.stored4 hB4 (Nat.le_refl _) _ _ _ _⟩

/-- the digits of a number, the highest one first, are its text -/
theorem txt_dgs (x : Nat) (h : 0 < x) : txt x = ((dgs x).map dgb).reverse := by
  induction x using Nat.strongRecOn with
  | _ x ih =>
    rw [dgs_pos h, List.map_cons, List.reverse_cons]
    rcases Nat.lt_or_ge x 10 with h10 | h10
    · rw [txt_small h10, Nat.div_eq_of_lt h10, dgs_zero, Nat.mod_eq_of_lt h10]
      rfl
    · rw [txt_step h10, ih (x / 10) (by omega) (by omega)]

theorem rText_any (x : Nat) (w : World) (hx : x < big) :
    Calls Tryd.prog 46 #[vN x] w fun e w' => e = .returned (.string ⟨(txt x).toArray⟩) ∧ Below w.heap.size w w' := by
  have hl := len_big x hx
  rcases Nat.eq_zero_or_pos x with rfl | hx0
  · have ht : txt 0 = [48] := by rw [txt_small (by decide)]; rfl
    rw [ht]
    clear ht hl
    go_enter Tryd.func46, Tryd.ntmps46
    go_wp2_with (go_at_call 50; refine stopD_of ?_)
    unfold StopD
    refine (digits_dg 0 _ hx).mono ?_
    rintro e w1 ⟨v1, rfl, hv1, hb1⟩
    obtain ⟨-, hB, z2⟩ := rows1 hb1
    obtain ⟨a1, c1, rfl⟩ := Rd.shape hv1
    have hl : (dgs 0).length = 0 := by rw [dgs_zero]; rfl
    rw [hl]
    clear hl hv1 hb1
    go_wp2_with fail
    go_ret
    exact ⟨rfl, hB⟩
  · obtain ⟨R, hR⟩ : ∃ R : ByteArray, (⟨(txt x).toArray⟩ : ByteArray) = R := ⟨_, rfl⟩
    have ht := txt_dgs x hx0
    have hlp := dgs_len_pos hx0
    rw [hR]
    have HR := Lib.hid (And.intro hR ht)
    clear hR ht
    go_enter Tryd.func46, Tryd.ntmps46
    go_wp2_with (go_at_call 50; refine stopD_of ?_)
    unfold StopD
    refine (digits_dg x _ hx).mono ?_
    rintro e w1 ⟨v1, rfl, hv1, hb1⟩
    obtain ⟨-, hB, z2⟩ := rows1 hb1
    obtain ⟨b, off, c, rfl, hbb, hlc, hcm, hcell⟩ := Ns.open hv1 hlp
    unfold maxLen at hcm
    obtain ⟨n, hn⟩ : ∃ n, (dgs x).length = n := ⟨_, rfl⟩
    have HC := Lib.hid (And.intro hcell (And.intro hn hB))
    rw [hn] at hl hlp hlc ⊢
    have hne : ((n : Int) == 0) = false := by rw [beq_eq_false_iff_ne]; omega
    clear hcell hn hB hv1 hb1
    go_wp2_with fail
    go_loop [4, 5] (fun s i => ∃ (k : Nat) (S0 : ByteArray), s = .string S0 ∧ i = .int .i64 (k : Int) ∧ k ≤ n ∧ S0.size ≤ k ∧ Hid (S0.data.toList = (((dgs x).take k).map dgb).reverse)) (fun _ i => n - (intOf i).toNat)
    case atStart => exact ⟨0, ⟨#[]⟩, rfl, rfl, by omega, by simp [ByteArray.size], Lib.hid (by simp)⟩
    case round =>
      obtain ⟨k, S0, rfl, rfl, hk, hS, hG⟩ := hrel
      by_cases hkn : k < n
      · have hcr := HC.out.1 k (by have := HC.out.2.1; omega)
        obtain ⟨d, hd⟩ : ∃ d, (dgs x).getD k 0 = d := ⟨_, rfl⟩
        rw [hd] at hcr
        have hd10 : d < 10 := by rw [← hd]; exact getD_lt (dgs_lt x) k
        have henc := dgb_encode d hd10
        have hw2 : IntKind.i32.wrap (48 + (d : Int)) = 48 + (d : Int) := by rw [IntKind.wrap_i32]; omega
        have hsum : ¬ (9223372036854775807 < 1 + S0.size) := by omega
        have hnext : (dgb d :: S0.data.toList) = (((dgs x).take (k + 1)).map dgb).reverse := by
          rw [take_snoc (by have := HC.out.2.1; omega), hd, List.map_append, List.reverse_append, hG.out]
          rfl
        have HX := Lib.hid hnext
        clear hd hnext hG
        go_wp2_with fail
        go_round
        case rel =>
          refine ⟨k + 1, ⟨#[dgb d]⟩ ++ S0, rfl, by go_num, by omega, ?_, Lib.hid ?_⟩
          · rw [ByteArray.size_append]
            show 1 + S0.size ≤ k + 1
            omega
          · rw [← HX.out]
            show ((⟨#[dgb d]⟩ : ByteArray) ++ S0).data.toList = dgb d :: S0.data.toList
            rw [ByteArray.data_append, Array.toList_append]
            rfl
        case measure => simp [intOf]; omega
      · obtain rfl : k = n := by omega
        have hv : S0 = R := by
          have h1 := hG.out
          rw [List.take_of_length_le (by have := HC.out.2.1; omega), ← HR.out.2] at h1
          rw [← HR.out.1, ← h1]
        have HV := Lib.hid hv
        clear hv hG
        go_wp2_with fail
        go_ret
        exact ⟨by rw [HV.out]; rfl, HC.out.2.2⟩

end Go.Proofs.YtfciebajiihcfaaDoor
