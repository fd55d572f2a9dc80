/- A range over a function that yields values which are not known ahead: y is what comes with x (an address); E says what holds of both. No program in sight. -/
import Derived.Test.YtfciebajiihcfaaDoorIter
namespace Go.Proofs.YtfciebajiihcfaaDoor
open Go.RowKit

variable {P : Program}

/-- all that lay there lies there still, but block n -/
def KeepsBut (n : Nat) (A B : World) : Prop := A.heap.size ≤ B.heap.size ∧ ∀ k, k < A.heap.size → k ≠ n → B.heap[k]? = A.heap[k]?

theorem KeepsBut.trans {n : Nat} {A B C : World} (h : KeepsBut n A B) (k : KeepsBut n B C) : KeepsBut n A C :=
  ⟨Nat.le_trans h.1 k.1, fun j hj hn => (k.2 j (by have := h.1; omega) hn).trans (h.2 j hj hn)⟩
theorem KeepsBut.put {n : Nat} (W : World) (o : Obj) : KeepsBut n W (W.putObj n o) := ⟨by simp, fun k _ hn => World.putObj_heap_other hn⟩
theorem KeepsBut.below {n : Nat} {A B : World} (h : Below A.heap.size A B) : KeepsBut n A B := ⟨h.size, fun k hk _ => h.block k hk⟩
theorem KeepsBut.refl {n : Nat} (A : World) : KeepsBut n A A := ⟨Nat.le_refl _, fun _ _ _ => rfl⟩
theorem KeepsBut.cell {n b o : Nat} {A B : World} (h : KeepsBut n A B) (hp : b < A.heap.size) (hn : b ≠ n) : B.cell? ⟨b, o, none⟩ = A.cell? ⟨b, o, none⟩ := by
  unfold World.cell?
  rw [h.2 b hp hn]

/-- what an iterator owes that yields xs, with each x a value y of which E holds -/
def IterV {α β : Type} (P : Program) (gf : Nat) (lb : Array Value) (encs : α → β → Array Value) (E : Nat → α → β → World → Prop) (xs : List α) (w : World) : Prop :=
  ∀ (l : Nat) (J Jx : List α → World → Prop) (W : World), Below w.heap.size w W → l < W.heap.size →
    (∀ s A B, J s A → Below A.heap.size A B → J s B) → (∀ s A B, Jx s A → Below A.heap.size A B → Jx s B) →
    (∀ pre x y W1, J pre W1 → pre ++ [x] <+: xs → E l x y W1 → YieldAt Fence.wide 0 P l (encs x y) W1 fun e W' =>
      (e = .returned (.bool true) ∧ J (pre ++ [x]) W' ∧ KeepsBut l W1 W') ∨ (e = .returned (.bool false) ∧ Jx (pre ++ [x]) W')) →
    J [] W →
    CallsIn Fence.wide 0 P gf (#[.func (.yield l) #[] #[]] ++ lb) W fun e W' => (∃ v, e = .returned v) ∧ (J xs W' ∨ ∃ pre, pre <+: xs ∧ Jx pre W')

theorem wp_rangeIterV {α β : Type} {g : Operand} {ps : Array Tmp} {assign body : Code} {Q : Exit → Act → World → Prop} {a : Act} {w : World}
    {gf : Nat} {lb : Array Value} (hg : a.eval g = .func (.func gf) #[] lb) (eg : ∀ args w, (callFunc gf args).run P w = .ok (.enter gf args) w)
    {encs : α → β → Array Value} {E : Nat → α → β → World → Prop} {xs : List α} {w0 : World} (hseq : IterV P gf lb encs E xs w0)
    (hb0 : Below w0.heap.size w0 w) (hps : ∀ x y, (encs x y).size = ps.size)
    (I : List α → World → Prop) (Ix : Code → List α → World → Prop)
    (hE : ∀ x y (W : World) o, E (w.heap.size + 1) x y W → E (w.heap.size + 1) x y (W.putObj (w.heap.size + 1) o))
    (hI : ∀ s A B, I s A → Below A.heap.size A B → I s B) (hIx : ∀ c s A B, Ix c s A → Below A.heap.size A B → Ix c s B)
    (hIp : ∀ s (W : World) o, I s W → I s (W.putObj (w.heap.size + 1) o)) (hIxp : ∀ c s (W : World) o, Ix c s W → Ix c s (W.putObj (w.heap.size + 1) o))
    (h0 : ∀ o o', I [] ((w.alloc o).alloc o')) (a₁ : α → β → Act)
    (hassign : ∀ (l : Nat) (x : α) (y : β) (W : World) (K : Act → World → Prop), K (a₁ x y) W →
      assign.wpIn (Fence.wide.inRound l) 0 P (Exit.then K (fun _ _ _ => False)) { tmps := (ps.zip (encs x y)).foldl (fun t (p, v) => t.setIfInBounds p v) a.tmps, defers := [] } W)
    (hbody : ∀ (pre : List α) (x : α) (y : β) (W : World), I pre W → pre ++ [x] <+: xs → E (w.heap.size + 1) x y W → w.heap.size + 1 < W.heap.size → body.wpIn (Fence.wide.inRound (w.heap.size + 1)) 0 P (bodyEnds w.heap.size (KeepsBut (w.heap.size + 1)) I Ix (pre ++ [x]) W) (a₁ x y) W)
    (hdone : ∀ (W : World), I xs W → W.heap[w.heap.size]? = some (.deferred (some [])) → Q .normal { a with defers := { target := .collected w.heap.size, args := #[] } :: a.defers } W)
    (hstop : ∀ (c : Code) (pre : List α) (W : World), pre <+: xs → Ix c pre W → W.heap[w.heap.size]? = some (.deferred (some [])) → c.wpIn Fence.wide 0 P Q { a with defers := { target := .collected w.heap.size, args := #[] } :: a.defers } W) :
    (Code.rangeFunc g ps assign body).wpIn Fence.wide 0 P Q a w := by
  refine wpIn_rangeFunc ?_
  intro fn hfn
  obtain ⟨rec, hrec⟩ : ∃ rec : LoopState → Option Code → Loop, rec = fun st pe => { state := st, pending := pe, fn, tmps := a.tmps, params := ps, assign, body, defers := w.heap.size } := ⟨_, rfl⟩
  obtain ⟨W1, hW1⟩ : ∃ W1, (w.alloc (.deferred (some []))).alloc (.loop (rec .ready none)) = W1 := ⟨_, rfl⟩
  have hL1 : W1.heap[w.heap.size + 1]? = some (.loop (rec .ready none)) := by
    rw [← hW1]; have := World.alloc_heap_new (w.alloc (.deferred (some []))) (.loop (rec .ready none)); rwa [World.size_alloc] at this
  have hK1 : W1.heap[w.heap.size]? = some (.deferred (some [])) := by
    rw [← hW1]; exact (Below.heap_alloc _ _ _ (by simp)).trans (World.alloc_heap_new w _)
  have hI1 : I [] W1 := by rw [← hW1]; exact h0 _ _
  have hb1 : Below w0.heap.size w0 W1 := by
    rw [← hW1]; exact hb0.trans ((((Below.refl _ w).alloc (Nat.le_refl _) _).alloc (by simp) _).mono hb0.size)
  refine ⟨w.heap.size + 1, [{ target := .collected w.heap.size, args := #[] }], W1, { target := .fn (.func gf) lb, args := #[.func (.yield (w.heap.size + 1)) #[] #[]] }, W1, gf,
    #[.func (.yield (w.heap.size + 1)) #[] #[]] ++ lb, W1, ?_, ?_, ?_, ?_, fun h => by simp [Fence.wide] at h, ?_⟩
  · rw [← hW1, hrec]; exact run_enterLoop_outer _ _ _ _ _
  · simp only [resolve, hg]
    simp [go_sem]
  · intro f' _; exact trivial
  · simp [invoke, go_sem, eg]
  · refine (hseq (w.heap.size + 1)
      (fun pre W => I pre W ∧ W.heap[w.heap.size + 1]? = some (.loop (rec .ready none)) ∧ W.heap[w.heap.size]? = some (.deferred (some [])))
      (fun pre W => ∃ c, Ix c pre W ∧ W.heap[w.heap.size + 1]? = some (.loop (rec .done (some c))) ∧ W.heap[w.heap.size]? = some (.deferred (some [])))
      W1 hb1 (by rw [← hW1]; simp) ?_ ?_ ?_ ⟨hI1, hL1, hK1⟩).mono ?_
    · rintro s A B ⟨hi, hl, hk⟩ hab
      have hkp := KeepsAt.below (n := w.heap.size) hab (Array.getElem?_eq_some_iff.1 hl).1
      exact ⟨hI s A B hi hab, hkp.2.trans hl, hkp.1.trans hk⟩
    · rintro s A B ⟨c, hi, hl, hk⟩ hab
      have hkp := KeepsAt.below (n := w.heap.size) hab (Array.getElem?_eq_some_iff.1 hl).1
      exact ⟨c, hIx c s A B hi hab, hkp.2.trans hl, hkp.1.trans hk⟩
    · rintro pre x y W ⟨hi, hl, hk⟩ hpre hE1
      have hlt : w.heap.size + 1 < W.heap.size := (Array.getElem?_eq_some_iff.1 hl).1
      have hy := run_yield (P := P) (args := encs x y) hl (by rw [hrec]; exact hps x y)
      rw [hrec] at hy
      refine ⟨fn, _, assign, body, hy, roundIn_of_wpIn hfn (hassign _ x y W _ ⟨_, run_beginRound hl (by rw [hrec]), ?_⟩)⟩
      have hl2 : (W.putObj (w.heap.size + 1) (.loop { rec .ready none with state := .busy })).heap[w.heap.size + 1]? = some (.loop { rec .ready none with state := .busy }) := World.putObj_heap_same hlt
      have hk2 : (W.putObj (w.heap.size + 1) (.loop { rec .ready none with state := .busy })).heap[w.heap.size]? = some (.deferred (some [])) := (World.putObj_heap_other (by omega)).trans hk
      have hw2 : KeepsBut (w.heap.size + 1) W (W.putObj (w.heap.size + 1) (.loop { rec .ready none with state := .busy })) := KeepsBut.put _ _
      refine wpIn_mono (hbody pre x y _ (hIp _ _ _ hi) hpre (hE _ _ _ _ hE1) (by simpa using hlt)) ?_
      have fin : ∀ (jump : Option Code) (W3 : World), KeepsAt w.heap.size (W.putObj (w.heap.size + 1) (.loop { rec .ready none with state := .busy })) W3 →
          (Instr.endRound (w.heap.size + 1) jump).run P W3 = .ok (.bool jump.isNone) (W3.putObj (w.heap.size + 1) (.loop (rec (if jump.isNone then .ready else .done) jump))) ∧
          (W3.putObj (w.heap.size + 1) (.loop (rec (if jump.isNone then .ready else .done) jump))).heap[w.heap.size + 1]? = some (.loop (rec (if jump.isNone then .ready else .done) jump)) ∧
          (W3.putObj (w.heap.size + 1) (.loop (rec (if jump.isNone then .ready else .done) jump))).heap[w.heap.size]? = some (.deferred (some [])) := fun jump W3 hk3 => by
        have hl3 := hk3.2.trans hl2
        have := run_endRound (P := P) jump hl3
        rw [hrec] at this ⊢
        exact ⟨this, World.putObj_heap_same (Array.getElem?_eq_some_iff.1 hl3).1, (World.putObj_heap_other (by omega)).trans (hk3.1.trans hk2)⟩
      rintro e a3 W3 hp
      cases e with
      | normal =>
        obtain ⟨hk3, hkp3, hi3⟩ := hp
        obtain ⟨hr, hl4, hk4⟩ := fin none W3 hk3
        exact ⟨_, _, hr, .inl ⟨rfl, ⟨hIp _ _ _ hi3, hl4, hk4⟩, (hw2.trans hkp3).trans (KeepsBut.put _ _)⟩⟩
      | ret =>
        obtain ⟨hk3, hi3⟩ := hp
        obtain ⟨hr, hl4, hk4⟩ := fin (some .ret) W3 hk3
        exact ⟨_, _, hr, .inr ⟨rfl, .ret, hIxp _ _ _ _ hi3, hl4, hk4⟩⟩
      | exit id =>
        obtain ⟨hk3, hi3⟩ := hp
        obtain ⟨hr, hl4, hk4⟩ := fin (some (.exit id)) W3 hk3
        exact ⟨_, _, hr, .inr ⟨rfl, .exit id, hIxp _ _ _ _ hi3, hl4, hk4⟩⟩
      | goto t =>
        obtain ⟨hk3, hi3⟩ := hp
        obtain ⟨hr, hl4, hk4⟩ := fin (some (.goto t)) W3 hk3
        exact ⟨_, _, hr, .inr ⟨rfl, .goto t, hIxp _ _ _ _ hi3, hl4, hk4⟩⟩
      | panic ch => exact hp.elim
      | outgrown => exact hp.elim
    · rintro e W2 ⟨⟨v, rfl⟩, (⟨hi, hl, hk⟩ | ⟨pre, hpre, c, hi, hl, hk⟩)⟩
      · exact ⟨none, _, by have := run_endLoop (P := P) hl (by rw [hrec]; simp); rw [hrec] at this; exact this, hdone _ (hIp _ _ _ hi) ((World.putObj_heap_other (by omega)).trans hk)⟩
      · exact ⟨some c, _, by have := run_endLoop (P := P) hl (by rw [hrec]; simp); rw [hrec] at this; exact this, hstop c pre _ hpre (hIxp _ _ _ _ hi) ((World.putObj_heap_other (by omega)).trans hk)⟩


end Go.Proofs.YtfciebajiihcfaaDoor
