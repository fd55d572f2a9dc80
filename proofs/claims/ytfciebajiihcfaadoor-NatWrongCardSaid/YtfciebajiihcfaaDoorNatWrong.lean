/- NatWrong, walked -/
import Derived.Test.YtfciebajiihcfaaDoorSteps
namespace Go.Proofs.YtfciebajiihcfaaDoor
open Go.RowKit
set_option linter.unusedVariables false
set_option linter.unusedSimpArgs false
set_option maxRecDepth 100000
set_option maxHeartbeats 4000000

theorem txF_len (f n : Nat) : (txF f n).length ≤ f := by
  induction f generalizing n with
  | zero => simp [txF]
  | succ f ih =>
    unfold txF
    split
    · simp
    · rw [List.length_append]
      have := ih (n / 10)
      simp
      omega

theorem txt_len (n : Nat) (h : n < big) : (txt n).length ≤ 39 := by
  rw [← txF_dig 39 n (Nat.lt_of_lt_of_le h (by decide)) (by decide)]
  exact txF_len 39 n

theorem txt_ne (n : Nat) : txt n ≠ [] := by
  by_cases h : n < 10
  · rw [txt_small h]; simp
  · rw [txt_step (by omega)]; simp

theorem vNRead_gen (l : List UInt8) : ∃ (q E : Nat), q < big ∧ vNRead l = .tuple #[vN q, .int .i64 (E : Int)] ∧ ((∃ b ∈ l, isDg b = false) → E = 20) := by
  unfold vNRead
  split
  · exact ⟨0, 20, by decide, rfl, fun _ => rfl⟩
  · rename_i hb
    have hall : ¬ ∃ b ∈ l, isDg b = false := by
      rintro ⟨b, hm, hd⟩
      apply hb
      refine Or.inr (Or.inr (fun h => ?_))
      rw [h b hm] at hd
      cases hd
    split
    · rename_i hv
      exact ⟨_, 0, hv, rfl, fun h => absurd h hall⟩
    · exact ⟨0, 3, by decide, rfl, fun h => absurd h hall⟩

theorem str1 (w : World) (g : Nat) (b : UInt8) (h : w.cell? ⟨g, 0, none⟩ = some (.int .u8 (b.toNat : Int))) :
    (convert 47 9 (.slice (some ⟨g, 0, none⟩) 1 1)).run Tryd.prog w = .ok (.string ⟨#[b]⟩) w := by
  refine run_convert_bytes_back (P := Tryd.prog) w 47 9 5 ⟨g, 0, none⟩ 1 [b] Tryd.underlying47 Tryd.underlying5 Tryd.underlying9 ?_
  intro j hj
  have hj0 : j = 0 := by simpa using hj
  subst hj0
  rw [addr_add]
  exact h

theorem bel1' {w a : World} {o : Obj} (h : Below w.heap.size w a) : Below w.heap.size w (a.alloc o) := h.alloc h.size o
theorem call1d {w a b : World} {o : Obj} (h : Below w.heap.size w a) (hb : Below ((a.alloc o).drew).heap.size ((a.alloc o).drew) b) : Below w.heap.size w b :=
  (h.alloc h.size o).drew.trans (hb.mono (h.alloc h.size o).size)
theorem call2d {w a b : World} {o o' : Obj} (h : Below w.heap.size w a) (hb : Below (((a.alloc o).alloc o').drew).heap.size (((a.alloc o).alloc o').drew) b) : Below w.heap.size w b :=
  call1d (h.alloc h.size o) hb
theorem behind2 {a b : World} {t t' : TypeId} {vs vs' : Array Value} (hb : Below (((a.alloc (.cells vs t)).alloc (.cells vs' t')).drew).heap.size (((a.alloc (.cells vs t)).alloc (.cells vs' t')).drew) b) : Row b a.heap.size t vs ∧ Row b (a.heap.size + 1) t' vs' := by
  have h := row_behind hb
  rw [World.size_alloc] at h
  exact ⟨((Row.new a t vs).alloc _).drew.below hb (by simp; omega), h⟩

theorem NatWrong_nat (x : Nat) (n : Int) (c at0 : Nat) (w : World) (hx : x < big) (hn1 : -9223372036854775808 ≤ n) (hn2 : n ≤ 9223372036854775807) (hc : c < 256) (ha : at0 < 256) :
    Calls Tryd.prog 8 #[vN x, .int .i64 n, .int .u8 (c : Int), .int .u8 (at0 : Int)] w fun e w' => e = .returned (.bool true) ∧ Below w.heap.size w w' := by
  obtain ⟨S0, hS0⟩ : ∃ S0 : ByteArray, (⟨(txt x).toArray⟩ : ByteArray) = S0 := ⟨_, rfl⟩
  have hS1 : S0.data.toList = txt x := by rw [← hS0]
  have hSz : S0.size = (txt x).length := by rw [← hS0]; simp [ByteArray.size]
  have hSl : S0.size ≤ 39 := by rw [hSz]; exact txt_len x hx
  have hSp : 0 < S0.size := by
    rw [hSz]
    exact List.length_pos_iff.2 (txt_ne x)
  obtain ⟨mn, hmn⟩ : ∃ mn, min n (-1) = mn := ⟨_, rfl⟩
  have mn0 : mn < 0 := by omega
  have mn1 : -9223372036854775808 ≤ mn := by omega
  obtain ⟨mx, hmx⟩ : ∃ mx, max n 129 = mx := ⟨_, rfl⟩
  have mx0 : 128 < mx := by omega
  have mx1 : mx ≤ 9223372036854775807 := by omega
  have hv1 : vChoose mn 1 = .tuple #[vN 0, .int .i64 2] := by unfold vChoose; rw [if_pos mn0]
  have hv2 : vChoose mx 1 = .tuple #[vN 0, .int .i64 5] := by unfold vChoose; rw [if_neg (by omega), if_pos mx0]
  have hv3 : vNRead ((⟨#[48]⟩ : ByteArray) ++ S0).data.toList = .tuple #[vN 0, .int .i64 20] := by
    have e : ((⟨#[48]⟩ : ByteArray) ++ S0).data.toList = 48 :: txt x := by rw [ByteArray.data_append, Array.toList_append, hS1]; rfl
    rw [e]
    unfold vNRead
    rw [if_pos (show badS (48 :: txt x) from Or.inr (Or.inl ⟨by simp; exact List.length_pos_iff.2 (txt_ne x), rfl⟩))]
  have hv4 : vNRead (⟨#[]⟩ : ByteArray).data.toList = .tuple #[vN 0, .int .i64 20] := by
    unfold vNRead
    rw [if_pos (show badS (⟨#[]⟩ : ByteArray).data.toList from Or.inl rfl)]
  have h48 : ((⟨#[48]⟩ : ByteArray) ++ S0).size = 1 + S0.size := by rw [ByteArray.size_append]; rfl
  have q48 : ¬ (9223372036854775807 < 1 + S0.size) := by omega
  obtain ⟨i, hi⟩ : ∃ i, at0 % (S0.size + 1) = i := ⟨_, rfl⟩
  have hi1 : i ≤ S0.size := by
    have h := Nat.mod_lt at0 (show 0 < S0.size + 1 by omega)
    omega
  have hidx : (at0 : Int) % ((S0.size : Int) + 1) = (i : Int) := by rw [← hi]; rfl
  have hidt : (at0 : Int).tmod ((S0.size : Int) + 1) = (i : Int) := by rw [← hidx]; exact Int.tmod_eq_emod_of_nonneg (by omega)
  obtain ⟨P1, hP1⟩ : ∃ P1, S0.extract 0 i = P1 := ⟨_, rfl⟩
  obtain ⟨P2, hP2⟩ : ∃ P2, S0.extract i S0.size = P2 := ⟨_, rfl⟩
  have hz1 : P1.size ≤ 39 := by rw [← hP1, ByteArray.size_extract]; omega
  have hz2 : P2.size ≤ 39 := by rw [← hP2, ByteArray.size_extract]; omega
  have q1 : ¬ (9223372036854775807 < P1.size + 1) := by omega
  have q2 : ¬ (9223372036854775807 < P1.size + 1 + P2.size) := by omega
  obtain ⟨b, hb⟩ : ∃ b, UInt8.ofNat c = b := ⟨_, rfl⟩
  have hbc : b.toNat = c := by rw [← hb, UInt8.toNat_ofNat']; omega
  obtain ⟨Tq, TE, hTq, hv5, hv6⟩ := vNRead_gen (P1 ++ ⟨#[b]⟩ ++ P2).data.toList
  have hsz5 : (P1 ++ ⟨#[b]⟩ ++ P2).size ≤ 9223372036854775807 := by
    rw [ByteArray.size_append, ByteArray.size_append]
    show P1.size + 1 + P2.size ≤ _
    omega
  have hc5 : ∀ w9, Calls Tryd.prog 25 #[.string (P1 ++ ⟨#[b]⟩ ++ P2)] w9 fun e w' => e = .returned (.tuple #[vN Tq, .int .i64 (TE : Int)]) ∧ Below w9.heap.size w9 w' := fun w9 => by
    have h := NRead_any (P1 ++ ⟨#[b]⟩ ++ P2) w9 hsz5
    rw [hv5] at h
    exact h
  have HC5 := Lib.hid hc5
  clear hc5
  have hE : ¬ (48 ≤ c ∧ c ≤ 57) → TE = 20 := by
    intro h
    refine hv6 ⟨b, ?_, ?_⟩
    · rw [ByteArray.data_append, ByteArray.data_append, Array.toList_append, Array.toList_append]
      simp
    · unfold isDg
      rw [hbc, Bool.eq_false_iff]
      intro h2
      simp at h2
      exact h h2
  have hcv : ∀ (w : World) (g : Nat), w.cell? ⟨g, 0, none⟩ = some (.int .u8 (c : Int)) → (convert 47 9 (.slice (some ⟨g, 0, none⟩) 1 1)).run Tryd.prog w = .ok (.string ⟨#[b]⟩) w := fun w g h => str1 w g b (by rw [hbc]; exact h)
  have HV := Lib.hid (And.intro hv1 (And.intro hv2 (And.intro hv3 (And.intro hv4 (And.intro hv5 (And.intro hE (And.intro hS0 h48)))))))
  clear hv1 hv2 hv3 hv4 hv5 hv6 hE hS0 hS1 hi hb hbc hSz h48
  go_enter Tryd.func8, Tryd.ntmps8
  go_wp2_with (go_at_call 13; refine stop_of ?_)
  unfold Stop
  refine (nawake_true _).mono ?_
  rintro e w1 ⟨rfl, hb⟩
  have RX := new1 hb
  have hB := call1 (Below.refl _ w) hb
  clear hb
  go_wp2_with (go_at_call 23; refine stop_of ?_)
  unfold Stop
  refine (Of_no mn _ mn0).mono ?_
  rintro e w2 ⟨rfl, hb⟩
  replace RX := row0 RX hb
  replace hB := call0 hB hb
  clear hb
  go_wp2_with (go_at_call 22; refine stop_of ?_)
  unfold Stop
  refine (Choose_any mn 1 _ (by omega) (by decide)).mono ?_
  rintro e w3 ⟨rfl, hb⟩
  rw [HV.out.1]
  replace RX := row1 RX hb
  replace hB := call1 hB hb
  clear hb
  go_wp2_with (go_at_call 22; refine stop_of ?_)
  unfold Stop
  refine (Choose_any mx 1 _ (by omega) (by decide)).mono ?_
  rintro e w4 ⟨rfl, hb⟩
  rw [HV.out.2.1]
  replace RX := row1 RX hb
  replace hB := call1 hB hb
  clear hb
  obtain ⟨cX0, cX1, cX2, cX3, -⟩ := row4 RX
  have zX := RX.lt
  go_wp2_with (go_at_call 24; refine stop_of ?_)
  unfold Stop
  refine (NText_any x _ hx).mono ?_
  rintro e w5 ⟨rfl, hb⟩
  rw [HV.out.2.2.2.2.2.2.1]
  clear cX0 cX1 cX2 cX3 zX
  replace RX := row1 RX hb
  replace hB := call1 hB hb
  clear hb
  clear RX
  go_wp2_with (go_at_call 25; refine stop_of ?_)
  unfold Stop
  refine (NRead_any _ _ (by rw [HV.out.2.2.2.2.2.2.2]; omega)).mono ?_
  rintro e w6 ⟨rfl, hb⟩
  rw [HV.out.2.2.1]
  replace hB := call0 hB hb
  clear hb
  go_wp2_with (go_at_call 25; refine stop_of ?_)
  unfold Stop
  refine (NRead_any _ _ (by decide)).mono ?_
  rintro e w7 ⟨rfl, hb⟩
  rw [HV.out.2.2.2.1]
  replace hB := call1 hB hb
  clear hb
  go_wp2_with fail
  obtain ⟨Y, hY⟩ : ∃ Y, w7.alloc (.cells (pN 0) 28) = Y := ⟨_, rfl⟩
  replace hB : Below w.heap.size w Y := by rw [← hY]; exact hB.alloc hB.size _
  rw [hY]
  clear hY
  have hYs := hB.size
  go_region_with (go_at_call 25; refine (HC5.out _).mono ?_; rintro e w8 ⟨rfl, hb8⟩; (first | (have h8 : Below w.heap.size w w8 := (by with_reducible exact call2d hB hb8); obtain ⟨rA, rB⟩ := behind2 hb8; (first | (obtain ⟨p0, p1, p2, p3, p4, p5, p6, p7⟩ := row4 rA; have p8 := rA.lt) | (obtain ⟨p0, p1, p2, p3, p4, p5, p6, p7⟩ := row4 rB; have p8 := rB.lt))) | (have h8 : Below w.heap.size w w8 := (by with_reducible exact call1d hB hb8))))
  all_goals
    by_cases g1 : 48 ≤ c
    · have g1i : (48 : Int) ≤ (c : Int) := by omega
      by_cases g2 : c ≤ 57
      · have g2i : (c : Int) ≤ 57 := by omega
        go_wp2_with fail
        go_ret
        refine ⟨by simp, ?_⟩
        first
          | with_reducible exact bel1' h8
          | with_reducible exact Below.stored4 h8 hYs _ _ _ _
          | with_reducible exact Below.stored4 h8 (Nat.le_succ_of_le hYs) _ _ _ _
      · have g2i : ¬ (c : Int) ≤ 57 := by omega
        have hTE := HV.out.2.2.2.2.2.1 (by omega)
        subst hTE
        go_wp2_with fail
        go_ret
        refine ⟨by simp, ?_⟩
        first
          | with_reducible exact bel1' h8
          | with_reducible exact Below.stored4 h8 hYs _ _ _ _
          | with_reducible exact Below.stored4 h8 (Nat.le_succ_of_le hYs) _ _ _ _
    · have g1i : ¬ (48 : Int) ≤ (c : Int) := by omega
      have hTE := HV.out.2.2.2.2.2.1 (by omega)
      subst hTE
      go_wp2_with fail
      go_ret
      refine ⟨by simp, ?_⟩
      first
        | with_reducible exact bel1' h8
        | with_reducible exact Below.stored4 h8 hYs _ _ _ _
        | with_reducible exact Below.stored4 h8 (Nat.le_succ_of_le hYs) _ _ _ _

theorem NatWrong_walk (a0 a1 a2 a3 n c at0 : Int) (w : World) (ha : (0 ≤ a0 ∧ a0 ≤ 4294967295) ∧ (0 ≤ a1 ∧ a1 ≤ 4294967295) ∧ (0 ≤ a2 ∧ a2 ≤ 4294967295) ∧ (0 ≤ a3 ∧ a3 ≤ 4294967295)) (hn : -9223372036854775808 ≤ n ∧ n ≤ 9223372036854775807) (hc : 0 ≤ c ∧ c ≤ 255) (hat : 0 ≤ at0 ∧ at0 ≤ 255) :
    Calls Tryd.prog 8 #[.agg #[.int .u32 a0, .int .u32 a1, .int .u32 a2, .int .u32 a3], .int .i64 n, .int .u8 c, .int .u8 at0] w fun e w' => e = .returned (.bool true) ∧ Below w.heap.size w w' := by
  obtain ⟨x, hx, ex⟩ := vN_all a0 a1 a2 a3 ha
  obtain ⟨c', rfl⟩ : ∃ c' : Nat, c = c' := ⟨c.toNat, by omega⟩
  obtain ⟨t, rfl⟩ : ∃ t : Nat, at0 = t := ⟨at0.toNat, by omega⟩
  rw [ex]
  exact NatWrong_nat x n c' t w hx hn.1 hn.2 (by omega) (by omega)

end Go.Proofs.YtfciebajiihcfaaDoor
