/- seed: BelowNat draws -/
import Derived.Test.YtojabjdpjnmkdaaSeedNP
import Derived.Test.YtojabjdpjnmkdaaSeedBN
import Derived.Test.YtojabjdpjnmkdaaNatE
import Derived.Deep.RegionHeld3
import Derived.Deep.DrawnRows
namespace Go.Proofs.Ytojabjdpjnmkdaa
open Go.RowKit
set_option linter.unusedVariables false
set_option linter.unusedSimpArgs false
set_option maxRecDepth 100000
set_option maxHeartbeats 4000000

/-- a walk stands here -/
def StopN (p : Prop) : Prop := p
theorem stopN_of {p : Prop} (h : StopN p) : p := h

theorem keep_cell {W w' : World} {b o : Nat} {v : Value} (hb : Below W.heap.size W w') (h : W.cell? ⟨b, o, none⟩ = some v) : w'.cell? ⟨b, o, none⟩ = some v :=
  (hb.cell (p := ⟨b, o, none⟩) (World.block_lt_of_cell? W _ h)).trans h

theorem sc1 {w a b : World} {o : Obj} (h : Below w.heap.size w a) (hb : Below (a.alloc o).heap.size (a.alloc o) b) : Below w.heap.size w b :=
  (h.alloc h.size o).trans (hb.mono (h.alloc h.size o).size)
theorem sc2 {w a b : World} {o o' : Obj} (h : Below w.heap.size w a) (hb : Below ((a.alloc o).alloc o').heap.size ((a.alloc o).alloc o') b) : Below w.heap.size w b :=
  sc1 (h.alloc h.size o) hb
theorem sr0 {a b : World} {k : Nat} {t : TypeId} {vs : Array Value} (r : Row a k t vs) (hb : Below a.heap.size a b) : Row b k t vs := r.below hb r.lt
theorem sr1 {a b : World} {o : Obj} {k : Nat} {t : TypeId} {vs : Array Value} (r : Row a k t vs) (hb : Below (a.alloc o).heap.size (a.alloc o) b) : Row b k t vs :=
  (r.alloc o).below hb (by have := r.lt; simp; omega)
theorem sr2 {a b : World} {o o' : Obj} {k : Nat} {t : TypeId} {vs : Array Value} (r : Row a k t vs) (hb : Below ((a.alloc o).alloc o').heap.size ((a.alloc o).alloc o') b) : Row b k t vs :=
  sr1 (r.alloc o) hb

theorem sown_lit4 (w : World) (B : Nat) (hB : B ≤ w.heap.size) (l : List Nat) (hl : l.length ≤ 100) (c : Array Value) (hc : c = (nls l).toArray) : (w.alloc (.cells c 42)).ownsRow B 42 4 (.slice (some ⟨w.heap.size, 0, none⟩) l.length l.length) l.length (nls l) := by
  subst hc
  refine ⟨by simp, .inr ⟨w.heap.size, l.length, (nls l).toArray, rfl, hB, Row.new w _ _, Nat.le_refl _, by unfold maxLen; omega, by simp, ?_⟩⟩
  simp
  exact List.take_of_length_le (by simp)

theorem slit_rows (w : World) (c : Array Value) (l : List Nat) (n : Nat) (hn : l.length = n) (hl : l.length ≤ 100) (hc : c = (nls l).toArray) : Rd (w.alloc (.cells c 42)).heap.size (w.alloc (.cells c 42)) 4 (.slice (some ⟨w.heap.size, 0, none⟩) n n) l.length (nls l) := by
  subst hn
  exact Rd.of_own (sown_lit4 w w.heap.size (Nat.le_refl _) l hl c hc)

theorem sMul2_yes (a : World) (b x y : Nat) (hb : a.heap.size = b) (hx : x < big) (hy : y < big) (h : x * y < big) : Calls Try.prog 23 #[.slice (some ⟨b, 0, none⟩) 2 2]
    (a.alloc (.cells #[.int .u32 (dg 0 x), .int .u32 (dg 1 x), .int .u32 (dg 2 x), .int .u32 (dg 3 x), .int .u32 (dg 0 y), .int .u32 (dg 1 y), .int .u32 (dg 2 y), .int .u32 (dg 3 y)] 42)) fun e w' => e = .returned (.tuple #[vN (x * y), .int .i64 0]) ∧
    Below (a.alloc (.cells #[.int .u32 (dg 0 x), .int .u32 (dg 1 x), .int .u32 (dg 2 x), .int .u32 (dg 3 x), .int .u32 (dg 0 y), .int .u32 (dg 1 y), .int .u32 (dg 2 y), .int .u32 (dg 3 y)] 42)).heap.size (a.alloc (.cells #[.int .u32 (dg 0 x), .int .u32 (dg 1 x), .int .u32 (dg 2 x), .int .u32 (dg 3 x), .int .u32 (dg 0 y), .int .u32 (dg 1 y), .int .u32 (dg 2 y), .int .u32 (dg 3 y)] 42)) w' := by
  subst hb
  have e : vMul [x, y] = .tuple #[vN (x * y), .int .i64 0] := by
    unfold vMul
    have e2 : prd [x, y] = x * y := by simp [prd]
    rw [e2, if_pos h]
  rw [← e]
  exact Mul_any _ [x, y] _ (slit_rows a _ [x, y] 2 rfl (by show 2 ≤ 100; decide) rfl) (by intro z hz; simp at hz; rcases hz with rfl | rfl; exact hx; exact hy) (by show 2 ≤ 1000000; decide)

theorem res_ct_n {P : Program} {fn : Func} {t u : Tmp} {T : TypeId} {tmps : Array Value} {w : World} {a : Addr} {v : Value} (h : fn.results = #[.tmp u, .cell t T]) (ha : tmps.getD t undef = .pointer (some a)) (hl : (loadVar T a).run P w = .ok v w) :
    (results fn tmps).run P w = .ok (.tuple #[tmps.getD u undef, v]) w := by
  simp only [results, h]
  simp only [Array.getD_eq_getD_getElem?] at ha ⊢
  simp [Sem.run_bind, Result.andThen, ha, run_asAddr, hl]

theorem oneN_any (s : Int) (k n E : Nat) (K V N F : Nat) (w : World) (h0 : 1 ≤ s) (h1 : s ≤ 2147483646) (hk0 : 1 ≤ k) (hk : k ≤ 4) (hn0 : 0 < n) (hn : n < big) (hE : E < big)
    (rK : Row w K 3 #[.int .i64 (k : Int)]) (rV : Row w V 42 (pN VV)) (rN : Row w N 42 (pN n)) (rF : Row w F 42 (pN E)) :
    Calls Try.prog 44 #[.int .i64 s, .pointer (some ⟨K, 0, none⟩), .pointer (some ⟨V, 0, none⟩), .pointer (some ⟨N, 0, none⟩), .pointer (some ⟨F, 0, none⟩)] w fun e w' => e = .returned (.tuple #[.int .i64 (stN k s), vN (smN k s % n), .bool (decide (smN k s < E))]) ∧ Below w.heap.size w w' := by
  have cK : ∀ o1 o2 o3, (((w.alloc o1).alloc o2).alloc o3).cell? ⟨K, 0, none⟩ = some (.int .i64 (k : Int)) := fun o1 o2 o3 => by rw [(((rK.alloc o1).alloc o2).alloc o3).cell]; rfl
  have zK := rK.lt
  have zV := rV.lt
  have zN := rN.lt
  have zF := rF.lt
  have HR := Lib.hid (And.intro rV (And.intro rN rF))
  clear rK rV rN rF
  obtain ⟨S9, hS9⟩ : ∃ S, smN k s = S := ⟨_, rfl⟩
  obtain ⟨T9, hT9⟩ : ∃ T, stN k s = T := ⟨_, rfl⟩
  obtain ⟨R9, hR9⟩ : ∃ R, S9 % n = R := ⟨_, rfl⟩
  obtain ⟨D9, hD9⟩ : ∃ D, decide (S9 < E) = D := ⟨_, rfl⟩
  rw [hS9, hT9, hR9, hD9]
  have hcmp : decide (cmpN S9 E < 0) = D9 := by
    rw [← hD9]
    unfold cmpN
    split
    · simp [*]
    · split <;> simp <;> omega
  have H9 := Lib.hid (And.intro hS9 (And.intro hT9 (And.intro hR9 hcmp)))
  clear hS9 hT9 hR9 hD9 hcmp
  go_enter Try.func44, Try.ntmps44
  go_wp2_with fail
  go_loopw [0, 20] (fun st i wr => ∃ (j : Nat) (t : Int), i = .int .i64 j ∧ st = .int .i64 t ∧ j ≤ k ∧ 1 ≤ t ∧ t ≤ 2147483646 ∧ Hid (t = stN j s) ∧ Row wr w.heap.size 42 (pN 0) ∧ Row wr (w.heap.size + 1) 42 (pN (smN j s)) ∧ Row wr (w.heap.size + 1 + 1) 42 (pN (VV ^ j)) ∧ Below w.heap.size w wr) (fun _ i _ => k - (intOf i).toNat)
  case atStart =>
    refine ⟨0, s, rfl, rfl, by omega, h0, h1, Lib.hid rfl, ((Row.new _ _ _).alloc _).alloc _, ?_, ?_, (((Below.refl _ _).alloc (Nat.le_refl _) _).alloc (by simp) _).alloc (by simp; omega) _⟩
    · exact (rows3 (w := w) (v0 := pN 0) (v1 := pN 0) (v2 := pN 1) (t0 := 42) (t1 := 42) (t2 := 42) (Below.refl _ _)).2.1
    · exact (rows3 (w := w) (v0 := pN 0) (v1 := pN 0) (v2 := pN 1) (t0 := 42) (t1 := 42) (t2 := 42) (Below.refl _ _)).2.2.1
  case round =>
    obtain ⟨j, t, rfl, rfl, hj, ht0, ht1, HT, r9, rS, rU, hB⟩ := hrel
    clear cK
    have hs0 := smN_lt s h0 h1 j
    have hp1 := nxt_pos t ht0 ht1
    have hp2 := nxt_lt t
    by_cases hjk : j < k
    · obtain ⟨u, hu⟩ : ∃ u, nxt t = u := ⟨_, rfl⟩
      rw [hu] at hp1 hp2
      obtain ⟨v, hv⟩ : ∃ v : Nat, u - 1 = v := ⟨(u - 1).toNat, by omega⟩
      have hvb : v < VV := by unfold VV; omega
      have hvbig : v < big := by unfold big; unfold VV at hvb; omega
      obtain ⟨S, hS⟩ : ∃ S, smN j s = S := ⟨_, rfl⟩
      obtain ⟨U, hU⟩ : ∃ U, VV ^ j = U := ⟨_, rfl⟩
      rw [hS] at rS hs0
      rw [hU] at rU hs0
      have hUb : U < big := by rw [← hU]; exact VV_pow j (by omega)
      have hV4 := VV_pow (j + 1) (by omega)
      rw [Nat.pow_succ, hU] at hV4
      obtain ⟨Z, hZ⟩ : ∃ Z, U * VV = Z := ⟨_, rfl⟩
      rw [hZ] at hV4
      obtain ⟨P, hP⟩ : ∃ P, v * U = P := ⟨_, rfl⟩
      have hPS : S + P < Z := by
        have h2 : (v + 1) * U ≤ VV * U := Nat.mul_le_mul_right _ hvb
        rw [Nat.add_mul, Nat.one_mul, hP, Nat.mul_comm VV U, hZ] at h2
        omega
      have hSb : S < big := by omega
      have hPb : P < big := by omega
      have hSP : S + P < big := by omega
      have hSn : smN (j + 1) s = S + P := by
        have e1 : stN (j + 1) s = u := by rw [← hu, HT.out]; rfl
        have e2 : (u - 1).toNat = v := by omega
        unfold smN
        rw [e1, e2, hU, hS, hP]
      have hUn : VV ^ (j + 1) = Z := by rw [Nat.pow_succ, hU, hZ]
      have hTn : u = stN (j + 1) s := by rw [← hu, HT.out]; rfl
      have H := Lib.hid (And.intro hu (And.intro hv (And.intro hZ (And.intro hP (And.intro hSn (And.intro hUn hTn))))))
      clear hu hv hZ hP hSn hUn hTn hS hU hs0
      obtain ⟨eu0, eu1, eu2, eu3, -⟩ := row4 rU
      have z9 := r9.lt
      have zS := rS.lt
      have zU := rU.lt
      go_wp2_with (first
        | (go_at_call 32; refine (next_nxt _ _ (by omega) (by omega)).mono ?_; rintro e w' ⟨rfl, rfl⟩; rw [H.out.1])
        | (go_at_call 22; refine stopN_of ?_))
      unfold StopN
      rw [H.out.2.1]
      refine (Of_yes _ _ (by omega) (by unfold VV at hvb; omega)).mono ?_
      rintro e v1 ⟨rfl, hb⟩
      rw [Int.toNat_natCast]
      clear eu0 eu1 eu2 eu3 z9 zS zU
      replace r9 := sr0 r9 hb
      replace rS := sr0 rS hb
      replace rU := sr0 rU hb
      replace hB := hB.trans (hb.mono hB.size)
      clear hb
      obtain ⟨eu0, eu1, eu2, eu3, -⟩ := row4 rU
      have zU := rU.lt
      go_wp2_with (go_at_call 23; refine stopN_of ?_)
      unfold StopN
      refine (sMul2_yes _ _ v U (by simp only [World.size_alloc]) hvbig hUb (by rw [H.out.2.2.2.1]; exact hPb)).mono ?_
      rintro e v2 ⟨rfl, hb⟩
      rw [H.out.2.2.2.1]
      clear eu0 eu1 eu2 eu3 zU
      replace r9 := sr2 r9 hb
      replace rS := sr2 rS hb
      replace rU := sr2 rU hb
      replace hB := sc2 hB hb
      clear hb
      obtain ⟨es0, es1, es2, es3, -⟩ := row4 rS
      have zS := rS.lt
      go_wp2_with (go_at_call 45; refine stopN_of ?_)
      unfold StopN
      refine (Add_yes S P _ hSb hPb hSP).mono ?_
      rintro e v3 ⟨rfl, hb⟩
      clear es0 es1 es2 es3 zS
      replace r9 := sr1 r9 hb
      replace rS := sr1 rS hb
      replace rU := sr1 rU hb
      replace hB := sc1 hB hb
      clear hb
      obtain ⟨es0, es1, es2, es3, fs0, fs1, fs2, fs3⟩ := row4 rS
      obtain ⟨eu0, eu1, eu2, eu3, -⟩ := row4 rU
      have rV := HR.out.1.below hB zV
      obtain ⟨ev0, ev1, ev2, ev3, -⟩ := row4 rV
      have zS := rS.lt
      have zU := rU.lt
      have zV3 := rV.lt
      have n1 : V ≠ w.heap.size + 1 := by omega
      go_wp2_with (go_at_call 23; refine stopN_of ?_)
      unfold StopN
      have hVb : VV < big := by decide
      refine (sMul2_yes _ _ U VV (by simp only [World.size_setCell]) hUb hVb (by rw [H.out.2.2.1]; exact hV4)).mono ?_
      rintro e v4 ⟨rfl, hb⟩
      rw [H.out.2.2.1]
      clear es0 es1 es2 es3 fs0 fs1 fs2 fs3 eu0 eu1 eu2 eu3 ev0 ev1 ev2 ev3 zS zU zV3 rV
      replace r9 := sr1 (r9.other4 (by omega) _ _ _ _) hb
      replace rS := sr1 (rS.stored4 _ _ _ _) hb
      replace rU := sr1 (rU.other4 (by omega) _ _ _ _) hb
      replace hB := sc1 (Below.stored4 hB (Nat.le_succ _) _ _ _ _) hb
      clear hb
      obtain ⟨eu0, eu1, eu2, eu3, fu0, fu1, fu2, fu3⟩ := row4 rU
      have zU := rU.lt
      go_wp2_with fail
      go_roundw
      case rel =>
        obtain ⟨x1, x2, x3, x4, x5, x6, x7⟩ := H.out
        refine ⟨j + 1, u, by go_num, rfl, by omega, hp1, by omega, Lib.hid x7, r9.other4 (by omega) _ _ _ _, ?_, ?_, Below.stored4 hB (by omega) _ _ _ _⟩
        · rw [x5]; exact rS.other4 (by omega) _ _ _ _
        · rw [x6]; exact rU.stored4 _ _ _ _
      case measure => simp [intOf]; omega
    · obtain rfl : j = k := by omega
      have hSb : S9 < big := by rw [← H9.out.1]; exact Nat.lt_trans hs0 (VV_pow j hk)
      rw [H9.out.1] at rS
      obtain rfl : t = T9 := by rw [HT.out, H9.out.2.1]
      clear hs0
      obtain ⟨es0, es1, es2, es3, -⟩ := row4 rS
      have rN := HR.out.2.1.below hB zN
      obtain ⟨en0, en1, en2, en3, -⟩ := row4 rN
      go_wp2_with (go_at_call 24; refine stopN_of ?_)
      unfold StopN
      refine (Div_yes S9 n _ hSb hn hn0).mono ?_
      rintro e v1 ⟨rfl, hb⟩
      rw [H9.out.2.2.1]
      clear es0 es1 es2 es3 en0 en1 en2 en3 rN
      replace r9 := sr0 r9 hb
      replace rS := sr0 rS hb
      replace hB := hB.trans (hb.mono hB.size)
      clear hb
      obtain ⟨es0, es1, es2, es3, -⟩ := row4 rS
      have rF := HR.out.2.2.below hB zF
      obtain ⟨ef0, ef1, ef2, ef3, -⟩ := row4 rF
      have zS := rS.lt
      have zF1 := rF.lt
      obtain ⟨e90, e91, e92, e93, f90, f91, f92, f93⟩ := row4 r9
      have z9 := r9.lt
      go_wp2_with fail
      have y9 : w.heap.size < v1.heap.size + 1 + 1 := by omega
      have d1 : w.heap.size ≠ v1.heap.size + 1 := by omega
      have d2 : v1.heap.size + 1 ≠ w.heap.size := by omega
      have d3 : F ≠ w.heap.size := by omega
      have d4 : w.heap.size ≠ F := by omega
      go_region_held3 (fun w' => w'.cell? ⟨v1.heap.size + 1, 0, none⟩ = some (.int .u32 (dg 0 R9)) ∧ w'.cell? ⟨v1.heap.size + 1, 1, none⟩ = some (.int .u32 (dg 1 R9)) ∧ w'.cell? ⟨v1.heap.size + 1, 2, none⟩ = some (.int .u32 (dg 2 R9)) ∧ w'.cell? ⟨v1.heap.size + 1, 3, none⟩ = some (.int .u32 (dg 3 R9)) ∧ w'.cell? ⟨w.heap.size + 1, 0, none⟩ = some (.int .u32 (dg 0 S9)) ∧ w'.cell? ⟨w.heap.size + 1, 1, none⟩ = some (.int .u32 (dg 1 S9)) ∧ w'.cell? ⟨w.heap.size + 1, 2, none⟩ = some (.int .u32 (dg 2 S9)) ∧ w'.cell? ⟨w.heap.size + 1, 3, none⟩ = some (.int .u32 (dg 3 S9)) ∧ w'.cell? ⟨F, 0, none⟩ = some (.int .u32 (dg 0 E)) ∧ w'.cell? ⟨F, 1, none⟩ = some (.int .u32 (dg 1 E)) ∧ w'.cell? ⟨F, 2, none⟩ = some (.int .u32 (dg 2 E)) ∧ w'.cell? ⟨F, 3, none⟩ = some (.int .u32 (dg 3 E))) (((try dsimp only); ((repeat' apply And.intro) <;> (first | (go_keep; done) | (refine keep_cell hb2 ?_; go_keep; done))))) ((go_at_call 21; refine (Cmp_any S9 E _ hSb hE).mono ?_; rintro e v2 ⟨rfl, hb2⟩; have hc2 := (bcell hb2).1; have hf2 := (bcell hb2).2; have hz2 := hb2.size; simp only [World.size_alloc, World.size_drew, World.size_setCell] at hz2))
      all_goals
        clear hc2 hf2
        rw [H9.out.2.2.2]
        go_wp2_with fail
        have r92 := sr0 ((r9.alloc _).alloc _).drew hb2
        refine bodyPost_ret (res_tct rfl rfl (load4 (r92.stored4 _ _ _ _))) rfl ⟨rfl, ?_⟩
        exact Below.stored4 (((hB.alloc hB.size _).alloc (by simp; have := hB.size; omega) _).drew.trans (hb2.mono (by simp; have := hB.size; omega))) (Nat.le_refl _) _ _ _ _

theorem drawN_any (s0 : Int) (k n E : Nat) (K V N F : Nat) (w : World) (h0 : 1 ≤ s0) (h1 : s0 ≤ 2147483646) (hk0 : 1 ≤ k) (hk : k ≤ 4) (hn0 : 0 < n) (hn : n < big) (hE : E < big)
    (rK : Row w K 3 #[.int .i64 (k : Int)]) (rV : Row w V 42 (pN VV)) (rN : Row w N 42 (pN n)) (rF : Row w F 42 (pN E)) :
    Calls Try.prog 43 #[.int .i64 s0, .func (.func 44) #[] #[.pointer (some ⟨K, 0, none⟩), .pointer (some ⟨V, 0, none⟩), .pointer (some ⟨N, 0, none⟩), .pointer (some ⟨F, 0, none⟩)]] w fun e w' => e = .returned (.tuple #[.int .i64 (drN k n E 101 s0 0).1, vN (drN k n E 101 s0 0).2]) ∧ Below w.heap.size w w' := by
  have HR := Lib.hid (And.intro rK (And.intro rV (And.intro rN rF)))
  have zK := rK.lt
  have zV := rV.lt
  have zN := rN.lt
  have zF := rF.lt
  obtain ⟨S9, hS9⟩ : ∃ S, (drN k n E 101 s0 0).1 = S := ⟨_, rfl⟩
  obtain ⟨R9, hR9⟩ : ∃ S, (drN k n E 101 s0 0).2 = S := ⟨_, rfl⟩
  have hpair : drN k n E 101 s0 0 = (S9, R9) := by rw [← hS9, ← hR9]
  rw [hS9, hR9]
  have HP := Lib.hid hpair
  clear rK rV rN rF hS9 hR9 hpair
  go_enter Try.func43, Try.ntmps43
  go_wp2_with fail
  go_loopw [0, 7, 8] (fun st ok i wr => ∃ (s' : Int) (x' : Nat) (b : Bool) (j : Nat), st = .int .i64 s' ∧ ok = .bool b ∧ i = .int .i64 j ∧ j ≤ 101 ∧ 1 ≤ s' ∧ s' ≤ 2147483646 ∧ x' < big ∧ Row wr w.heap.size 42 (pN 0) ∧ Row wr (w.heap.size + 1) 42 (pN x') ∧ Below w.heap.size w wr ∧ Hid ((bif b then (s', x') else drN k n E (101 - j) s' x') = (S9, R9))) (fun _ _ i _ => 101 - (intOf i).toNat)
  case atStart =>
    refine ⟨s0, 0, false, 0, rfl, rfl, rfl, by omega, h0, h1, by decide, ?_, ?_, ((Below.refl _ _).alloc (Nat.le_refl _) _).alloc (by simp) _, Lib.hid HP.out⟩
    · exact (rows2 (w := w) (v0 := pN 0) (v1 := pN 0) (t0 := 42) (t1 := 42) (Below.refl _ _)).1
    · exact (rows2 (w := w) (v0 := pN 0) (v1 := pN 0) (t0 := 42) (t1 := 42) (Below.refl _ _)).2.1
  case round =>
    obtain ⟨s', x', b, j, rfl, rfl, rfl, hj, hs0, hs1, hx', r9, rX, hB, hd⟩ := hrel
    have hfin : b = true ∨ (b = false ∧ j = 101) ∨ (b = false ∧ j ≤ 100) := by
      cases b
      · right
        by_cases h : j = 101
        · exact .inl ⟨rfl, h⟩
        · exact .inr ⟨rfl, by omega⟩
      · exact .inl rfl
    rcases hfin with rfl | ⟨rfl, rfl⟩ | ⟨rfl, hlt⟩
    · by_cases hj100 : j ≤ 100
      · have hd9 := hd
        obtain ⟨ex0, ex1, ex2, ex3, -⟩ := row4 rX
        obtain ⟨e90, e91, e92, e93, f90, f91, f92, f93⟩ := row4 r9
        have z9 := r9.lt
        have d1 : w.heap.size + 1 ≠ w.heap.size := by omega
        go_wp2_with fail
        go_region_held3 (fun w' => w'.cell? ⟨w.heap.size + 1, 0, none⟩ = some (.int .u32 (dg 0 x')) ∧ w'.cell? ⟨w.heap.size + 1, 1, none⟩ = some (.int .u32 (dg 1 x')) ∧ w'.cell? ⟨w.heap.size + 1, 2, none⟩ = some (.int .u32 (dg 2 x')) ∧ w'.cell? ⟨w.heap.size + 1, 3, none⟩ = some (.int .u32 (dg 3 x'))) (go_keep) (fail)
        all_goals
          go_wp2_with fail
          refine bodyPost_ret (res_ct_n rfl rfl (load4 (r9.drew.stored4 _ _ _ _))) rfl ⟨?_, Below.stored4 hB.drew (Nat.le_refl _) _ _ _ _⟩
          have e : (s', x') = (S9, R9) := hd
          simp only [Prod.mk.injEq] at e
          obtain ⟨rfl, rfl⟩ := e
          rfl
      · have hd9 := hd
        obtain ⟨ex0, ex1, ex2, ex3, -⟩ := row4 rX
        obtain ⟨e90, e91, e92, e93, f90, f91, f92, f93⟩ := row4 r9
        have z9 := r9.lt
        have d1 : w.heap.size + 1 ≠ w.heap.size := by omega
        go_wp2_with fail
        go_region_held3 (fun w' => w'.cell? ⟨w.heap.size + 1, 0, none⟩ = some (.int .u32 (dg 0 x')) ∧ w'.cell? ⟨w.heap.size + 1, 1, none⟩ = some (.int .u32 (dg 1 x')) ∧ w'.cell? ⟨w.heap.size + 1, 2, none⟩ = some (.int .u32 (dg 2 x')) ∧ w'.cell? ⟨w.heap.size + 1, 3, none⟩ = some (.int .u32 (dg 3 x'))) (go_keep) (fail)
        all_goals
          go_wp2_with fail
          refine bodyPost_ret (res_ct_n rfl rfl (load4 (r9.drew.stored4 _ _ _ _))) rfl ⟨?_, Below.stored4 hB.drew (Nat.le_refl _) _ _ _ _⟩
          have e : (s', x') = (S9, R9) := hd
          simp only [Prod.mk.injEq] at e
          obtain ⟨rfl, rfl⟩ := e
          rfl
    · replace hd : Hid ((s', x') = (S9, R9)) := hd
      skip
      obtain ⟨ex0, ex1, ex2, ex3, -⟩ := row4 rX
      obtain ⟨e90, e91, e92, e93, f90, f91, f92, f93⟩ := row4 r9
      have z9 := r9.lt
      have d1 : w.heap.size + 1 ≠ w.heap.size := by omega
      go_wp2_with fail
      go_region_held3 (fun w' => w'.cell? ⟨w.heap.size + 1, 0, none⟩ = some (.int .u32 (dg 0 x')) ∧ w'.cell? ⟨w.heap.size + 1, 1, none⟩ = some (.int .u32 (dg 1 x')) ∧ w'.cell? ⟨w.heap.size + 1, 2, none⟩ = some (.int .u32 (dg 2 x')) ∧ w'.cell? ⟨w.heap.size + 1, 3, none⟩ = some (.int .u32 (dg 3 x'))) (go_keep) (fail)
      all_goals
        go_wp2_with fail
        refine bodyPost_ret (res_ct_n rfl rfl (load4 (r9.drew.stored4 _ _ _ _))) rfl ⟨?_, Below.stored4 hB.drew (Nat.le_refl _) _ _ _ _⟩
        have e : (s', x') = (S9, R9) := hd
        simp only [Prod.mk.injEq] at e
        obtain ⟨rfl, rfl⟩ := e
        rfl
    · obtain ⟨t9, ht9⟩ : ∃ t, stN k s' = t := ⟨_, rfl⟩
      obtain ⟨R, hR⟩ : ∃ R, smN k s' % n = R := ⟨_, rfl⟩
      obtain ⟨D, hD⟩ : ∃ D, decide (smN k s' < E) = D := ⟨_, rfl⟩
      have hst := stN_right s' hs0 hs1 k
      rw [ht9] at hst
      obtain ⟨hst0, hst1⟩ := hst
      have hRb : R < big := by rw [← hR]; exact Nat.lt_trans (Nat.mod_lt _ hn0) hn
      have hnext : (bif D then (t9, R) else drN k n E (101 - (j + 1)) t9 R) = (S9, R9) := by
        have hd' := hd.out
        obtain ⟨r, hr⟩ : ∃ r, 101 - j = r + 1 := ⟨100 - j, by omega⟩
        rw [show 101 - (j + 1) = r by omega]
        rw [hr, cond_false, drN_succ, ht9, hR] at hd'
        rw [← hd', ← hD]
        by_cases hc : smN k s' < E
        · rw [if_pos hc, decide_eq_true hc, cond_true]
        · rw [if_neg hc, decide_eq_false hc, cond_false]
      have H := Lib.hid (And.intro ht9 (And.intro hR (And.intro hD hnext)))
      clear ht9 hR hD hnext
      go_wp2_with (go_at_call 44; refine stopN_of ?_)
      unfold StopN
      refine (oneN_any s' k n E K V N F _ hs0 hs1 hk0 hk hn0 hn hE (HR.out.1.below hB zK) (HR.out.2.1.below hB zV) (HR.out.2.2.1.below hB zN) (HR.out.2.2.2.below hB zF)).mono ?_
      rintro e v1 ⟨rfl, hb⟩
      rw [H.out.1, H.out.2.1, H.out.2.2.1]
      replace r9 := sr0 r9 hb
      replace rX := sr0 rX hb
      replace hB := hB.trans (hb.mono hB.size)
      clear hb
      obtain ⟨ex0, ex1, ex2, ex3, fx0, fx1, fx2, fx3⟩ := row4 rX
      have zX := rX.lt
      go_wp2_with fail
      go_roundw
      case rel => exact ⟨t9, R, D, j + 1, rfl, rfl, by go_num, by omega, hst0, hst1, hRb, r9.other4 (by omega) _ _ _ _, rX.stored4 _ _ _ _, Below.stored4 hB (by omega) _ _ _ _, Lib.hid H.out.2.2.2⟩
      case measure => simp [intOf]; omega

end Go.Proofs.Ytojabjdpjnmkdaa
