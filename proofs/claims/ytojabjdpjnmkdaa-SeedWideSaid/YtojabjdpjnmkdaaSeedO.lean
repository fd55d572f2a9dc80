/- seed: BelowNat of right arguments -/
import Derived.Test.YtojabjdpjnmkdaaSeedN
import Derived.Deep.DeepCutAuto
import Derived.Deep.LoopGhost
namespace Go.Proofs.Ytojabjdpjnmkdaa
open Go.RowKit
set_option linter.unusedVariables false
set_option linter.unusedSimpArgs false
set_option maxRecDepth 100000
set_option maxHeartbeats 4000000

theorem new1' {a b : World} {t : TypeId} {vs : Array Value} (hb : Below (a.alloc (.cells vs t)).heap.size (a.alloc (.cells vs t)) b) : Row b a.heap.size t vs :=
  (Row.new a t vs).below hb (by simp)
theorem new2' {a b : World} {t t' : TypeId} {vs vs' : Array Value} (hb : Below ((a.alloc (.cells vs t)).alloc (.cells vs' t')).heap.size ((a.alloc (.cells vs t)).alloc (.cells vs' t')) b) : Row b a.heap.size t vs ∧ Row b (a.heap.size + 1) t' vs' := by
  refine ⟨sr1 (Row.new a t vs) hb, ?_⟩
  have h := new1' hb
  rw [World.size_alloc] at h
  exact h

theorem ord3 (W : World) (V : Nat) (hV : W.heap.size = V) (v0 v1 v2 : Array Value) (t0 t1 t2 : TypeId) :
    Row (((W.alloc (.cells v0 t0)).alloc (.cells v1 t1)).alloc (.cells v2 t2)).drew V t0 v0 ∧ Row (((W.alloc (.cells v0 t0)).alloc (.cells v1 t1)).alloc (.cells v2 t2)).drew (V + 1) t1 v1 ∧ Row (((W.alloc (.cells v0 t0)).alloc (.cells v1 t1)).alloc (.cells v2 t2)).drew (V + 1 + 1) t2 v2 := by
  subst hV
  obtain ⟨h0, h1, h2, -⟩ := rows3 (w := W) (v0 := v0) (v1 := v1) (v2 := v2) (t0 := t0) (t1 := t1) (t2 := t2) (Below.refl _ _)
  exact ⟨h0.drew, h1.drew, h2.drew⟩

theorem Cmp_lim (x : Nat) (w : World) (hx : x < big) (h : x ≤ 1329227995784915872903807060280344576) :
    Calls Try.prog 21 #[vN x, lit4 0 0 0 16777216] w fun e w' => (∃ c : Int, e = .returned (.int .i64 c) ∧ c ≤ 0) ∧ Below w.heap.size w w' := by
  have hc := Cmp_any x 1329227995784915872903807060280344576 w hx (by decide)
  have e1 : cmpN x 1329227995784915872903807060280344576 ≤ 0 := by unfold cmpN; split; omega; rw [if_neg (by omega)]; omega
  rw [show vN 1329227995784915872903807060280344576 = lit4 0 0 0 16777216 by kernel_rfl] at hc
  exact hc.mono fun e w' h => ⟨⟨_, h.1, e1⟩, h.2⟩

theorem belowN_right (s : Int) (n : Nat) (h0 : 1 ≤ s) (h1 : s ≤ 2147483646) (hn : 0 < n) : 1 ≤ (belowN s n).1 ∧ (belowN s n).1 ≤ 2147483646 ∧ (belowN s n).2 < n :=
  drN_right _ n _ hn 101 s 0 h0 h1 hn

theorem BN_yes (s : Int) (n : Nat) (w : World) (h0 : 1 ≤ s) (h1 : s ≤ 2147483646) (hn0 : 0 < n) (hn : n ≤ 1329227995784915872903807060280344576) :
    Calls Try.prog 20 #[.int .i64 s, vN n] w fun e w' => e = .returned (.tuple #[.int .i64 (belowN s n).1, vN (belowN s n).2, .int .i64 0]) ∧ Below w.heap.size w w' := by
  have hnb : n < big := by unfold big; omega
  have hz := dg_zero n hnb hn0
  obtain ⟨S9, hS9⟩ : ∃ S, (belowN s n).1 = S := ⟨_, rfl⟩
  obtain ⟨R9, hR9⟩ : ∃ S, (belowN s n).2 = S := ⟨_, rfl⟩
  rw [hS9, hR9]
  have H9 := Lib.hid (And.intro hS9 hR9)
  obtain ⟨hk1, hk4⟩ := kOf_le n
  obtain ⟨hs1, hs2⟩ := kOf_spec n hn
  obtain ⟨k, hk⟩ : ∃ k, kOf n = k := ⟨_, rfl⟩
  rw [hk] at hk1 hk4 hs1 hs2
  have HK := Lib.hid (And.intro hk (And.intro hs1 hs2))
  clear hS9 hR9 hk hs1 hs2
  go_enter Try.func20, Try.ntmps20
  go_wp2_with (first
    | (go_at_call 15; refine (Right_yes _ _ h0 h1).mono ?_; rintro e w' ⟨rfl, rfl⟩)
    | (go_at_call 21; refine (Cmp_lim n _ hnb hn).mono ?_; rintro e w1 ⟨⟨c, rfl, hc0⟩, hb1⟩; have r3 := (new2' hb1).1; have r5 := (new2' hb1).2; have hB := sc2 (Below.refl _ w) hb1; clear hb1)
    | (go_at_call 22; refine stopN_of ?_))
  unfold StopN
  refine (Of_yes 2147483646 _ (by decide) (by decide)).mono ?_
  rintro e w2 ⟨rfl, hb⟩
  have hVb : VV < big := by decide
  rw [show (2147483646 : Int).toNat = VV from rfl]
  replace r3 := sr0 r3 hb
  replace r5 := sr0 r5 hb
  replace hB := hB.trans (hb.mono hB.size)
  clear hb hc0
  obtain ⟨V, hVe⟩ : ∃ V, w2.heap.size = V := ⟨_, rfl⟩
  have HV := Lib.hid hVe
  have z35 : w.heap.size + 1 < V := by rw [← hVe]; exact r5.lt
  go_upto_region 4 with fail
  go_cut [9, 10] (fun s9 s10 wx => ∃ K A : Nat, s9 = .pointer (some ⟨K, 0, none⟩) ∧ s10 = .pointer (some ⟨A, 0, none⟩) ∧ V < K ∧ V < A ∧ K ≠ A ∧ Row wx K 3 #[.int .i64 1] ∧ Row wx A 42 (pN VV) ∧ Row wx V 42 (pN VV) ∧ Row wx w.heap.size 42 (pN n) ∧ Row wx (w.heap.size + 1) 42 (pN 0) ∧ Below w.heap.size w wx)
  case first =>
    go_region_with (fail)
    all_goals
      go_wp2_with fail
      go_meet
      refine ⟨_, _, rfl, rfl, by omega, by omega, by omega, by first | exact (ord3 w2 V HV.out _ _ _ _ _ _).2.1 | exact (ord3 w2 V HV.out _ _ _ _ _ _).2.2, by first | exact (ord3 w2 V HV.out _ _ _ _ _ _).2.1 | exact (ord3 w2 V HV.out _ _ _ _ _ _).2.2, (ord3 w2 V HV.out _ _ _ _ _ _).1, (((r3.alloc _).alloc _).alloc _).drew, (((r5.alloc _).alloc _).alloc _).drew, ?_⟩
      exact ((((hB.alloc hB.size _).alloc (by simp; have := hB.size; omega) _).alloc (by simp; have := hB.size; omega) _)).drew
  case rest =>
    clear r3 r5 hB hVe HV
    obtain ⟨K, A, rfl, rfl, hK, hA, hKA, rK, rA, rV, r3, r5, hB⟩ := hcut
    go_wp2_with fail
    go_loopg [] (k - 1) (fun g wr => ∃ j : Nat, g = k - j ∧ 1 ≤ j ∧ j ≤ k ∧ Row wr K 3 #[.int .i64 (j : Int)] ∧ Row wr A 42 (pN (VV ^ j)) ∧ Row wr V 42 (pN VV) ∧ Row wr w.heap.size 42 (pN n) ∧ Row wr (w.heap.size + 1) 42 (pN 0) ∧ Below w.heap.size w wr)
    case atStart => exact ⟨1, rfl, by omega, hk1, rK, by rw [Nat.pow_one]; exact rA, rV, r3, r5, hB⟩
    case round =>
      clear rK rA rV r3 r5 hB
      obtain ⟨j, rfl, hj1, hjk, rK, rA, rV, r3, r5, hB⟩ := hrel
      have hAb : VV ^ j < big := VV_pow j (by omega)
      by_cases hlt : j < k
      · have hc : cmpN (VV ^ j) n < 0 := by
          unfold cmpN
          rw [if_pos (HK.out.2.2 j hj1 hlt)]
          omega
        obtain ⟨c, hce⟩ : ∃ c, cmpN (VV ^ j) n = c := ⟨_, rfl⟩
        rw [hce] at hc
        have HC := Lib.hid hce
        clear hce
        obtain ⟨U, hU⟩ : ∃ U, VV ^ j = U := ⟨_, rfl⟩
        have hZb := VV_pow (j + 1) (by omega)
        rw [Nat.pow_succ] at hZb
        rw [hU] at rA hAb hZb
        obtain ⟨Z, hZ⟩ : ∃ Z, U * VV = Z := ⟨_, rfl⟩
        have HU := Lib.hid (And.intro hU hZ)
        clear hU
        obtain ⟨ea0, ea1, ea2, ea3, -⟩ := row4 rA
        obtain ⟨en0, en1, en2, en3, -⟩ := row4 r3
        go_wp2_with (go_at_call 21; refine stopN_of ?_)
        unfold StopN
        refine (Cmp_any U n _ hAb hnb).mono ?_
        rintro e v1 ⟨rfl, hb⟩
        rw [show cmpN U n = c by rw [← HU.out.1]; exact HC.out]
        clear ea0 ea1 ea2 ea3 en0 en1 en2 en3
        replace rK := sr0 rK hb
        replace rA := sr0 rA hb
        replace rV := sr0 rV hb
        replace r3 := sr0 r3 hb
        replace r5 := sr0 r5 hb
        replace hB := hB.trans (hb.mono hB.size)
        clear hb
        obtain ⟨ea0, ea1, ea2, ea3, -⟩ := row4 rA
        obtain ⟨ev0, ev1, ev2, ev3, -⟩ := row4 rV
        go_wp2_with (go_at_call 23; refine stopN_of ?_)
        unfold StopN
        refine (sMul2_yes _ _ U VV rfl hAb hVb hZb).mono ?_
        rintro e v2 ⟨rfl, hb⟩
        rw [HU.out.2]
        clear ea0 ea1 ea2 ea3 ev0 ev1 ev2 ev3
        replace rK := sr1 rK hb
        replace rA := sr1 rA hb
        replace rV := sr1 rV hb
        replace r3 := sr1 r3 hb
        replace r5 := sr1 r5 hb
        replace hB := sc1 hB hb
        clear hb
        obtain ⟨ea0, ea1, ea2, ea3, fa0, fa1, fa2, fa3⟩ := row4 rA
        have zA := rA.lt
        have zK := rK.lt
        have ck : v2.cell? ⟨K, 0, none⟩ = some (.int .i64 (j : Int)) := by rw [rK.cell]; rfl
        have fk := rK.frozen 0
        have hAK : A ≠ K := Ne.symm hKA
        go_wp2_with fail
        go_roundg (k - (j + 1))
        case measure => omega
        case rel =>
          refine ⟨j + 1, rfl, by omega, by omega, ?_, ?_, (rV.other4 (by omega) _ _ _ _).other (by omega) _, (r3.other4 (by omega) _ _ _ _).other (by omega) _, (r5.other4 (by omega) _ _ _ _).other (by omega) _, (Below.stored4 hB (by omega) _ _ _ _).setCell (by show w.heap.size ≤ K; omega) _⟩
          · have h := (rK.other4 hKA (.int .u32 (dg 0 Z)) (.int .u32 (dg 1 Z)) (.int .u32 (dg 2 Z)) (.int .u32 (dg 3 Z))).set 0 (.int .i64 ((j : Int) + 1))
            exact h
          · rw [Nat.pow_succ, HU.out.1, HU.out.2]
            exact (rA.stored4 _ _ _ _).other hAK _
      · obtain rfl : j = k := by omega
        have hle := HK.out.2.1
        have hc : 0 ≤ cmpN (VV ^ j) n := by
          unfold cmpN
          rw [if_neg (by omega)]
          split <;> omega
        obtain ⟨c, hce⟩ : ∃ c, cmpN (VV ^ j) n = c := ⟨_, rfl⟩
        rw [hce] at hc
        have HC := Lib.hid hce
        clear hce
        obtain ⟨U, hU⟩ : ∃ U, VV ^ j = U := ⟨_, rfl⟩
        rw [hU] at rA hAb hle
        obtain ⟨O, hO⟩ : ∃ O, U % n = O := ⟨_, rfl⟩
        have hOn : O < n := by rw [← hO]; exact Nat.mod_lt _ hn0
        have hOU : O ≤ U := by rw [← hO]; exact Nat.mod_le _ _
        obtain ⟨E, hE⟩ : ∃ E, U - O = E := ⟨_, rfl⟩
        have hEb : E < big := by omega
        have hres : drN j n E 101 s 0 = (S9, R9) := by
          obtain ⟨h1, h2⟩ := H9.out
          rw [← h1, ← h2]
          unfold belowN
          rw [HK.out.1, hU, hO, hE]
        have HU := Lib.hid (And.intro hU (And.intro hO (And.intro hE hres)))
        clear hU hO hE hres hle
        obtain ⟨ea0, ea1, ea2, ea3, -⟩ := row4 rA
        obtain ⟨en0, en1, en2, en3, -⟩ := row4 r3
        go_wp2_with (go_at_call 21; refine stopN_of ?_)
        unfold StopN
        refine (Cmp_any U n _ hAb hnb).mono ?_
        rintro e v1 ⟨rfl, hb⟩
        rw [show cmpN U n = c by rw [← HU.out.1]; exact HC.out]
        clear ea0 ea1 ea2 ea3 en0 en1 en2 en3
        replace rK := sr0 rK hb
        replace rA := sr0 rA hb
        replace rV := sr0 rV hb
        replace r3 := sr0 r3 hb
        replace r5 := sr0 r5 hb
        replace hB := hB.trans (hb.mono hB.size)
        clear hb
        obtain ⟨ea0, ea1, ea2, ea3, -⟩ := row4 rA
        obtain ⟨en0, en1, en2, en3, -⟩ := row4 r3
        go_wp2_with (go_at_call 24; refine stopN_of ?_)
        unfold StopN
        refine (Div_yes U n _ hAb hnb hn0).mono ?_
        rintro e v2 ⟨rfl, hb⟩
        rw [HU.out.2.1]
        clear ea0 ea1 ea2 ea3 en0 en1 en2 en3
        replace rK := sr0 rK hb
        replace rA := sr0 rA hb
        replace rV := sr0 rV hb
        replace r3 := sr0 r3 hb
        replace r5 := sr0 r5 hb
        replace hB := hB.trans (hb.mono hB.size)
        clear hb
        obtain ⟨ea0, ea1, ea2, ea3, -⟩ := row4 rA
        have zA := rA.lt
        go_wp2_with (go_at_call 42; refine stopN_of ?_)
        unfold StopN
        refine (Sub_yes U O _ hAb (by omega) hOU).mono ?_
        rintro e v3 ⟨rfl, hb⟩
        rw [HU.out.2.2.1]
        clear ea0 ea1 ea2 ea3 zA
        replace rK := sr2 rK hb
        replace rV := sr2 rV hb
        replace r3 := sr2 r3 hb
        replace r5 := sr2 r5 hb
        replace hB := sc2 hB hb
        clear hb rA
        go_wp2_with (go_at_call 43; refine stopN_of ?_)
        unfold StopN
        refine (drawN_any s j n E K V w.heap.size v3.heap.size _ h0 h1 hj1 hk4 hn0 hnb hEb (rK.alloc _) (rV.alloc _) (r3.alloc _) (Row.new _ _ _)).mono ?_
        rintro e v4 ⟨rfl, hb⟩
        rw [HU.out.2.2.2]
        replace r5 := sr1 r5 hb
        replace hB := sc1 hB hb
        clear hb rK rV r3
        obtain ⟨e50, e51, e52, e53, f50, f51, f52, f53⟩ := row4 r5
        have z5 := r5.lt
        have d1 : w.heap.size + 1 ≠ v4.heap.size := by omega
        have d2 : v4.heap.size ≠ w.heap.size + 1 := by omega
        go_wp2_with fail
        go_region_with (fail)
        all_goals
          go_wp2_with fail
          refine bodyPost_ret (res_tct rfl rfl (load4 ((r5.stored4 _ _ _ _).alloc _).drew)) rfl ⟨rfl, ((Below.stored4 hB (by omega) _ _ _ _).alloc (by simp; have := hB.size; omega) _).drew⟩

end Go.Proofs.Ytojabjdpjnmkdaa
