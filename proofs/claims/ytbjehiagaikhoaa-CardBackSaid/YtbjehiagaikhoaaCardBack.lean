/- A set that is written is read back as the same set, its list leads back to it in any order, and two different sets have different texts. It holds of any two sets and any string. -/
import Derived.Test.YtbjehiagaikhoaaProg
import Derived.Test.YtbjehiagaikhoaaCardAwake
import Derived.Test.YtbjehiagaikhoaaCardH
namespace Go.Proofs.Ytbjehiagaikhoaa
open Go.RowKit
set_option linter.unusedVariables false
set_option linter.unusedSimpArgs false
set_option maxRecDepth 100000
set_option maxHeartbeats 2000000

theorem sz_of (T : List UInt8) (h : T.length ≤ 60) : (⟨T.toArray⟩ : ByteArray).size ≤ 9223372036854775807 := by
  show T.toArray.size ≤ _
  rw [List.size_toArray]
  omega

theorem bys_drop (l : List Nat) (n : Nat) : bys (l.drop n) = (bys l).drop n := by simp [bys]
theorem bys_take (l : List Nat) (n : Nat) : bys (l.take n) = (bys l).take n := by simp [bys]

theorem news_drop {w0 w' : World} {B g : Nat} (l : List Nat) (n : Nat) (hb : Below B w0 w') (hg : g < B) (hcell : ∀ j, j < l.length → w0.cell? ⟨g, j, none⟩ = (bys l)[j]?) :
    ∀ j u, (bys (l.drop n))[j]? = some u → w'.cell? ((⟨g, n, none⟩ : Addr).add j) = some u := by
  intro j u hu
  rw [bys_drop, List.getElem?_drop] at hu
  have hlt : n + j < l.length := by have := (List.getElem?_eq_some_iff.1 hu).1; simpa using this
  rw [addr_add, hb.cell (p := ⟨g, n + j, none⟩) hg, hcell _ hlt, hu]

theorem news_take {w0 w' : World} {B g : Nat} (l : List Nat) (n : Nat) (hb : Below B w0 w') (hg : g < B) (hcell : ∀ j, j < l.length → w0.cell? ⟨g, j, none⟩ = (bys l)[j]?) :
    ∀ j u, (bys (l.take n))[j]? = some u → w'.cell? ((⟨g, 0, none⟩ : Addr).add j) = some u := by
  intro j u hu
  have hj : j < n := by
    have := (List.getElem?_eq_some_iff.1 hu).1
    simp at this
    omega
  rw [bys_take, List.getElem?_take_of_lt hj] at hu
  have hlt : j < l.length := by have := (List.getElem?_eq_some_iff.1 hu).1; simpa using this
  rw [addr_add, Nat.zero_add, hb.cell (p := ⟨g, j, none⟩) hg, hcell _ hlt, hu]

theorem own_empty (w : World) (t : TypeId) : (w.alloc (.cells #[] t)).ownsRow w.heap.size t 1 (.slice (some ⟨w.heap.size, 0, none⟩) 0 0) 0 [] :=
  ⟨rfl, .inr ⟨w.heap.size, 0, #[], rfl, Nat.le_refl _, Row.new w t #[], by simp, by simp [maxLen], rfl, rfl⟩⟩

theorem CardBack_nat (a b k : Nat) (s : ByteArray) (w : World) (ha : a < 18446744073709551616) (hb : b < 18446744073709551616) (hk : k < 256) (hs : s.size ≤ 9223372036854775807) :
    Calls Try.prog 8 #[.int .u64 (a : Int), .int .u64 (b : Int), .string s, .int .u8 (k : Int)] w fun e w' => e = .returned (.bool true) ∧ Below w.heap.size w w' := by
  obtain ⟨A, hA⟩ : ∃ A, a % 4503599627370496 = A := ⟨_, rfl⟩
  have hAi : (a : Int) % 4503599627370496 = (A : Int) := by omega
  have hAt : (a : Int).tmod 4503599627370496 = (A : Int) := by rw [Int.tmod_eq_emod_of_nonneg (by omega)]; omega
  have hA52 : A < 4503599627370496 := by omega
  obtain ⟨B, hB⟩ : ∃ B, b % 4503599627370496 = B := ⟨_, rfl⟩
  have hBi : (b : Int) % 4503599627370496 = (B : Int) := by omega
  have hBt : (b : Int).tmod 4503599627370496 = (B : Int) := by rw [Int.tmod_eq_emod_of_nonneg (by omega)]; omega
  have hB52 : B < 4503599627370496 := by omega
  clear hA hB
  obtain ⟨T, hT⟩ : ∃ T, wtext A = T := ⟨_, rfl⟩
  obtain ⟨U, hU⟩ : ∃ U, wtext B = U := ⟨_, rfl⟩
  obtain ⟨l, hl⟩ : ∃ l, downs A 52 = l := ⟨_, rfl⟩
  have hTl : T.length = l.length + 3 := by rw [← hT, ← hl]; exact wtext_len A
  have hll : l.length ≤ 52 := by rw [← hl]; exact downs_len A 52
  have hpt : parseN T = some A := by rw [← hT]; exact parse_wtext A hA52
  have hall : ∀ c ∈ l, c < 52 := by rw [← hl]; exact downs_lt A 52
  have hnd : l.Nodup := by rw [← hl]; exact downs_nodup A 52
  have hor : ∀ r : List Nat, (∀ c, c ∈ r ↔ c ∈ l) → orAll 0 r = A := by rw [← hl]; exact orAll_downs A hA52
  have heq : (T == U) = ((A : Int) == (B : Int)) := by
    rw [Bool.eq_iff_iff]
    simp only [beq_iff_eq]
    constructor
    · intro h
      rw [← hT, ← hU] at h
      rw [wtext_inj A B hA52 hB52 h]
    · intro h
      have : A = B := by omega
      rw [← hT, ← hU, this]
  have hTz : (⟨T.toArray⟩ : ByteArray).size ≤ 9223372036854775807 := sz_of T (by omega)
  have HT := Lib.hid (And.intro hT (And.intro hU (And.intro hl (And.intro hpt (And.intro hall (And.intro hnd hor))))))
  clear hT hU hl hpt hall hnd hor
  have hBw : Below w.heap.size w w := Below.refl _ _
  obtain ⟨i0, hinf, hz0, hz1, hz2⟩ := info_parts info_u8
  go_enter Try.func8, Try.ntmps8
  go_wp2_with (first
    | (go_at_call_of 19 A; refine (Write_yes A _ hA52).mono ?_; rintro e w1 ⟨rfl, hb1⟩; rw [HT.out.1]; replace hBw := hBw.trans (hb1.mono hBw.size); clear hb1)
    | (go_at_call_of 19 B; refine (Write_yes B _ hB52).mono ?_; rintro e w2 ⟨rfl, hb1⟩; rw [HT.out.2.1]; replace hBw := hBw.trans (hb1.mono hBw.size); clear hb1)
    | (go_at_call_of 25 T; refine (Parse_any ⟨T.toArray⟩ _ hTz).mono ?_; rintro e w3 ⟨rfl, hb1⟩; rw [show parseN (⟨T.toArray⟩ : ByteArray).data.toList = some A from HT.out.2.2.2.1]; simp only [vParse]; replace hBw := hBw.trans (hb1.mono hBw.size); clear hb1)
    | (go_at_call 21; refine (List_yes A _ hA52).mono ?_; rintro e w4 ⟨v, rfl, hown, hb1⟩; rw [HT.out.2.2.1] at hown; obtain ⟨a1, c1, rfl⟩ := own_shape hown; replace hBw := hBw.trans (hb1.mono hBw.size); clear hb1)
    | (go_at_call 22; refine (count_any A _ hA52).mono ?_; rintro e w5 ⟨rfl, rfl⟩; rw [HT.out.2.2.1]))
  · have hl0 : 0 < l.length := by assumption
    obtain ⟨g, rfl, -, hg, -, hn2, hn3⟩ := own_some hown hl0
    have hcell : ∀ j, j < l.length → w4.cell? ⟨g, j, none⟩ = (bys l)[j]? := fun j hj => hown.cellAt j (by omega)
    have HC := Lib.hid hcell
    clear hcell hown
    obtain ⟨n, hn⟩ : ∃ n, k % l.length = n := ⟨_, rfl⟩
    have hni : (k : Int) % (l.length : Int) = (n : Int) := by rw [← hn]; simp
    have hnl : n < l.length := by have := Nat.mod_lt k hl0; omega
    clear hn
    rw [hni]
    clear hni
    have hj1 : (n : Int) ≤ (l.length : Int) := by omega
    have hj2 : (0 : Int) ≤ (n : Int) := by omega
    have hj3 : (n : Int) ≤ (c1 : Int) := by omega
    have hj4 : (l.length : Int) ≤ (c1 : Int) := by omega
    have hj5 : ¬ (n = c1) := by omega
    have hj6 : ¬ (c1 = n) := by omega
    have hj7 : ¬ (c1 - n = 0) := by omega
    refine wp_region_any (by kernel_rfl) ?_
    refine wpAny_take (i := 1) (v := ?_) rfl (by kernel_rfl) (by kernel_rfl) (by kernel_rfl) (fun _ _ _ h => h) (Or.inl ⟨by rfl, ?_⟩) ?_
    rotate_left
    · intro w; go_simp; first | with_reducible rfl | (simp only [if_true]; with_reducible rfl)
    refine wpAny_take (i := 2) (v := ?_) rfl (by kernel_rfl) (by kernel_rfl) (by kernel_rfl) (fun _ _ _ h => h) (Or.inl ⟨by rfl, ?_⟩) ?_
    rotate_left
    · intro w; go_simp; first | with_reducible rfl | (simp only [if_true]; with_reducible rfl)
    refine wpAny_take (i := 3) (v := ?_) rfl (by kernel_rfl) (by kernel_rfl) (by kernel_rfl) (fun _ _ _ h => h) (Or.inl ⟨by rfl, ?_⟩) ?_
    rotate_left
    · intro w; go_simp; first | with_reducible rfl | (simp only [if_true]; with_reducible rfl)
    refine wpAny_take (i := 5) (v := ?_) rfl (by kernel_rfl) (by kernel_rfl) (by kernel_rfl) (fun _ _ _ h => h) (Or.inl ⟨by rfl, ?_⟩) ?_
    rotate_left
    · intro w; go_simp; first | with_reducible rfl | (simp only [if_true]; with_reducible rfl)
    refine wpAny_take (i := 6) (v := ?_) rfl (by kernel_rfl) (by kernel_rfl) (by kernel_rfl) (fun _ _ _ h => h) (Or.inl ⟨by rfl, ?_⟩) ?_
    rotate_left
    · intro w; go_simp; first | with_reducible rfl | (simp only [if_true]; with_reducible rfl)
    refine wpAny_take (i := 7) (v := ?_) rfl (by kernel_rfl) (by kernel_rfl) (by kernel_rfl) (fun _ _ _ h => h) (Or.inl ⟨by rfl, ?_⟩) ?_
    rotate_left
    · intro w; go_simp; first | with_reducible rfl | (simp only [if_true]; with_reducible rfl)
    refine wpAny_ready (rs := [0]) (by kernel_rfl) (by simp) ?_
    refine AllReady.cons rfl (fun K hK => ?_) AllReady.nil
    go_simp
    first | refine hK _ _ ?_ | (simp only [if_true]; refine hK _ _ ?_)
    clear hK K
    have hb0 : Below w4.heap.size w4 ((w4.alloc (.cells #[] 5)).drew) := ((Below.refl _ _).alloc (Nat.le_refl _) _).drew
    have hown0 : ((w4.alloc (.cells #[] 5)).drew).ownsRow w4.heap.size 5 1 (.slice (some ⟨w4.heap.size, 0, none⟩) 0 0) 0 [] := (own_empty w4 5).drew
    refine wpAny_ready (rs := [4]) (by kernel_rfl) (by simp) ?_
    refine AllReady.cons rfl (fun K hK => ?_) AllReady.nil
    refine step_append_own (by rfl) _ _ 37 (by rfl) w4.heap.size 5 i0 (.int .u8 0) 1 1 Try.underlying37 hinf hz0 hz1 hz2 rfl (by decide) _ 0 [] (by rfl) hown0 _ _ _ (bys (l.drop n)) (by rfl)
      (by simp) (news_drop l n hb0 hg HC.out) (bys_one _) (by simp [maxLen]; omega) (by omega) hb0.size (fun v1 w5 hown1 hgrow1 => ?_)
    have hb5 := below_append hb0 hgrow1 hown0 (Nat.le_refl _) hb0.size
    refine hK _ _ ?_
    clear hK K hgrow1 hown0
    refine wpAny_ready (rs := [8]) (by kernel_rfl) (by simp) ?_
    refine AllReady.cons rfl (fun K hK => ?_) AllReady.nil
    refine step_append_own (by rfl) _ _ 37 (by rfl) w4.heap.size 5 i0 (.int .u8 0) 1 1 Try.underlying37 hinf hz0 hz1 hz2 rfl (by decide) _ _ _ (by rfl) hown1 _ _ _ (bys (l.take n)) (by rfl)
      (by simp; omega) (news_take l n hb5 hg HC.out) (bys_one _) (by simp [maxLen]; omega) (by omega) hb5.size (fun v2 w6 hown2 hgrow2 => ?_)
    have hb6 := below_append hb5 hgrow2 hown1 (Nat.le_refl _) hb5.size
    refine hK _ _ ?_
    clear hK K hgrow2 hown1 hb5 hb0
    refine wpAny_take (i := 9) (v := ?_) rfl (by kernel_rfl) (by kernel_rfl) (by kernel_rfl) (fun _ _ _ h => h) (Or.inl ⟨by rfl, ?_⟩) ?_
    rotate_left
    · intro w; go_simp; first | with_reducible rfl | (simp only [if_true]; with_reducible rfl)
    refine wpAny_done (by kernel_rfl) ?_ _
    obtain ⟨R, hR⟩ : ∃ R, l.drop n ++ l.take n = R := ⟨_, rfl⟩
    have hperm : R.Perm l := by rw [← hR]; exact List.perm_append_comm.trans (by rw [List.take_append_drop])
    have hRl : R.length = l.length := hperm.length_eq
    have hRb : ([] ++ bys (l.drop n)) ++ bys (l.take n) = bys R := by rw [← hR, bys_append, List.nil_append]
    rw [hRb, show 0 + (l.length - n) + n = R.length by omega] at hown2
    obtain ⟨a2, c2, rfl⟩ := own_shape hown2
    obtain ⟨-, -, -, -, hall, hnd, hor⟩ := HT.out
    have hRall : ∀ c ∈ R, c < 52 := fun c hc => hall c (hperm.mem_iff.1 hc)
    have hRnd : R.Nodup := hperm.nodup_iff.2 hnd
    have hm1 : vMask (mgo 0 R) = .tuple #[.int .u64 A, .int .i64 0] := by rw [mgo_ok R hRall hRnd, hor R (fun c => hperm.mem_iff)]; rfl
    obtain ⟨x, hx⟩ : ∃ x, l[n] = x := ⟨_, rfl⟩
    have hxR : x ∈ R := hperm.mem_iff.2 (by rw [← hx]; exact List.getElem_mem hnl)
    have hx52 : x < 52 := hRall x hxR
    have hm2 : vMask (mgo 0 (R ++ [x])) = .tuple #[.int .u64 0, .int .i64 42] := by rw [mgo_twice R x hRall hRnd hxR]; rfl
    have hcn : w6.cell? ⟨g, n, none⟩ = some (.int .u8 (x : Int)) := by
      rw [hb6.cell (p := ⟨g, n, none⟩) hg, HC.out n hnl]
      exact bys_get (by rw [List.getElem?_eq_getElem hnl, hx])
    obtain ⟨W7, hW7⟩ : ∃ W7, w6.alloc (.cells #[.int .u8 (x : Int)] 5) = W7 := ⟨_, rfl⟩
    have hown7 : W7.ownsRow w4.heap.size 5 1 (.slice a2 R.length c2) R.length (bys R) := by rw [← hW7]; exact own_below hown2 ((Below.refl _ _).alloc (Nat.le_refl _) _)
    have hb7 : Below w4.heap.size w4 W7 := by rw [← hW7]; exact hb6.alloc hb6.size _
    have hnew : ∀ j u, (bys [x])[j]? = some u → W7.cell? ((⟨w6.heap.size, 0, none⟩ : Addr).add j) = some u := by
      intro j u hu
      rw [addr_add, ← hW7, (Row.new w6 5 #[.int .u8 (x : Int)]).cell (0 + j), Nat.zero_add]
      simpa [bys] using hu
    have hrd2 := Rd.of_own hown2
    have hM1 : ∀ c ∈ R, c < 256 := fun c hc => by have := hRall c hc; omega
    have hM2 : ∀ c ∈ R ++ [x], c < 256 := fun c hc => by
      rw [List.mem_append] at hc
      rcases hc with hc | hc
      · exact hM1 c hc
      · simp at hc; omega
    have HO := Lib.hid (And.intro hm1 (And.intro hm2 (And.intro hown7 (And.intro hb7 (And.intro hnew (And.intro hrd2 (And.intro hM1 hM2)))))))
    have hRl52 : R.length ≤ 52 := by omega
    clear hm1 hm2 hown7 hb7 hnew hrd2 hM1 hM2 hR hRb hown2 hall hnd hor hRall hRnd hxR hx HC hperm hRl
    go_wp2_with (first
      | (go_at_call_of 26 a2; refine (Mask_any (.slice a2 R.length c2) R w6 HO.out.2.2.2.2.2.1 HO.out.2.2.2.2.2.2.1).mono ?_; rintro e w9 ⟨rfl, rfl⟩; rw [HO.out.1])
      | (at_builtin; go_must (try rw [hW7]); go_must (refine wpList_append_own _ rfl _ _ 37 rfl w4.heap.size 5 i0 (.int .u8 0) 1 1 Try.underlying37 hinf hz0 hz1 hz2 rfl (by decide) (.slice a2 R.length c2) R.length (bys R) rfl HO.out.2.2.1 ⟨w6.heap.size, 0, none⟩ 1 1 (bys [x]) rfl (by simp) HO.out.2.2.2.2.1 (bys_one [x]) (by simp [maxLen]; omega) (by omega) HO.out.2.2.2.1.size ?_); intro v8 w8 hown8 hgrow8 _; have hb8 := below_append HO.out.2.2.2.1 hgrow8 HO.out.2.2.1 (Nat.le_refl _) HO.out.2.2.2.1.size; have hrd8 := Rd.of_own hown8; rw [← bys_append] at hrd8; obtain ⟨a8, c8, rfl⟩ := own_shape hown8; clear hgrow8 hown8; have HD8 := Lib.hid hrd8; clear hrd8)
      | (go_at_call_of 26 a8; refine (Mask_any (.slice a8 (R.length + 1) c8) (R ++ [x]) w8 (by have h8 := HD8.out; simpa using h8) HO.out.2.2.2.2.2.2.2).mono ?_; rintro e w9 ⟨rfl, rfl⟩; rw [HO.out.2.1]))
    have hBw8 := hBw.trans (hb8.mono hBw.size)
    cases hP : parseN s.data.toList with
    | none =>
      refine (Parse_any s _ hs).mono ?_
      rintro e w9 ⟨rfl, hb9⟩
      rw [hP]
      simp only [vParse]
      have hB9 := hBw8.trans (hb9.mono hBw8.size)
      clear hP
      go_wp2_with (go_at_call 13; refine (awake_true _).mono ?_; rintro e w10 ⟨rfl, hb10⟩)
      go_ret
      exact ⟨rfl, hB9.trans (hb10.mono hB9.size)⟩
    | some m =>
      have hm52 := parse_lt _ _ hP
      obtain rfl : s = ⟨(wtext m).toArray⟩ := by
        have h := parse_some _ _ hP
        rw [h]
      refine (Parse_any _ _ hs).mono ?_
      rintro e w9 ⟨rfl, hb9⟩
      rw [hP]
      simp only [vParse]
      have hB9 := hBw8.trans (hb9.mono hBw8.size)
      clear hP hs
      go_wp2_with (first
        | (go_at_call_of 19 m; refine (Write_yes m _ hm52).mono ?_; rintro e w10 ⟨rfl, hb10⟩; replace hB9 := hB9.trans (hb10.mono hB9.size); clear hb10)
        | (go_at_call 13; refine (awake_true _).mono ?_; rintro e w11 ⟨rfl, hb11⟩))
      go_ret
      exact ⟨rfl, hB9.trans (hb11.mono hB9.size)⟩
  · clear hown
    cases hP : parseN s.data.toList with
    | none =>
      refine (Parse_any s _ hs).mono ?_
      rintro e w9 ⟨rfl, hb9⟩
      rw [hP]
      simp only [vParse]
      have hB9 := hBw.trans (hb9.mono hBw.size)
      clear hP
      go_wp2_with (go_at_call 13; refine (awake_true _).mono ?_; rintro e w10 ⟨rfl, hb10⟩)
      go_ret
      exact ⟨rfl, hB9.trans (hb10.mono hB9.size)⟩
    | some m =>
      have hm52 := parse_lt _ _ hP
      obtain rfl : s = ⟨(wtext m).toArray⟩ := by
        have h := parse_some _ _ hP
        rw [h]
      refine (Parse_any _ _ hs).mono ?_
      rintro e w9 ⟨rfl, hb9⟩
      rw [hP]
      simp only [vParse]
      have hB9 := hBw.trans (hb9.mono hBw.size)
      clear hP hs
      go_wp2_with (first
        | (go_at_call_of 19 m; refine (Write_yes m _ hm52).mono ?_; rintro e w10 ⟨rfl, hb10⟩; replace hB9 := hB9.trans (hb10.mono hB9.size); clear hb10)
        | (go_at_call 13; refine (awake_true _).mono ?_; rintro e w11 ⟨rfl, hb11⟩))
      go_ret
      exact ⟨rfl, hB9.trans (hb11.mono hB9.size)⟩

theorem CardBack_walk (a b : Int) (s : ByteArray) (k : Int) (w : World) (ha : 0 ≤ a ∧ a ≤ 18446744073709551615) (hb : 0 ≤ b ∧ b ≤ 18446744073709551615) (hs : s.size ≤ maxLen) (hk : 0 ≤ k ∧ k ≤ 255) :
    Calls Try.prog 8 #[.int .u64 a, .int .u64 b, .string s, .int .u8 k] w fun e w' => e = .returned (.bool true) ∧ Below w.heap.size w w' := by
  obtain ⟨a', rfl⟩ : ∃ a' : Nat, a = a' := ⟨a.toNat, by omega⟩
  obtain ⟨b', rfl⟩ : ∃ b' : Nat, b = b' := ⟨b.toNat, by omega⟩
  obtain ⟨k', rfl⟩ : ∃ k' : Nat, k = k' := ⟨k.toNat, by omega⟩
  exact CardBack_nat a' b' k' s w (by omega) (by omega) (by omega) (by unfold maxLen at hs; omega)

end Go.Proofs.Ytbjehiagaikhoaa
