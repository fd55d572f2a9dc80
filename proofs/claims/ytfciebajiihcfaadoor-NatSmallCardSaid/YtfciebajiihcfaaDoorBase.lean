/- What all walks of this seat share: no program in sight. -/
import Derived.WalkKit
import Derived.WalkSpells
import Derived.WalkLawsBesides
import Derived.Deep.QuietTactic
import Derived.BigQuiet
import Derived.Lib.Hide
import Derived.Laws.ResultCell
namespace Go.Proofs.YtfciebajiihcfaaDoor
open Go.RowKit

theorem tdiv_bd (a b : Int) (hb : 0 < b) : b * a.tdiv b + a.tmod b = a ∧ -b < a.tmod b ∧ a.tmod b < b := by
  refine ⟨Int.mul_tdiv_add_tmod a b, Int.lt_tmod_of_pos a hb, Int.tmod_lt_of_pos a hb⟩

theorem ret_int {k : IntKind} {a b : Int} (h : a = b) : Ending.returned (.int k a) = .returned (.int k b) := by rw [h]

theorem tmod_lit (n b : Int) (hb : 0 < b) : -b < n.tmod b ∧ n.tmod b < b ∧ (n % b = n.tmod b ∧ 0 ≤ n.tmod b ∨ n % b = n.tmod b + b ∧ n.tmod b < 0) ∧ 0 ≤ n % b ∧ n % b < b := by
  have h1 := Int.emod_nonneg n (Int.ne_of_gt hb)
  have h2 := Int.emod_lt_of_pos n hb
  have h3 : ((b.natAbs : Nat) : Int) = b := by omega
  rw [Int.tmod_eq_emod]
  split <;> omega

/-- old cells and marks read as they did -/
theorem bcell {W w1 : World} {B : Nat} (hb : Below B W w1) : (∀ b o, b < B → w1.cell? ⟨b, o, none⟩ = W.cell? ⟨b, o, none⟩) ∧ (∀ b o, b < B → w1.frozen? ⟨b, o, none⟩ = W.frozen? ⟨b, o, none⟩) :=
  ⟨fun b o h => hb.cell (p := ⟨b, o, none⟩) h, fun b o h => hb.frozen (p := ⟨b, o, none⟩) h⟩

theorem Below.drewN {B : Nat} {a w : World} (h : Below B a w) (n : Nat) : Below B a (w.drewN n) := ⟨h.os, h.tape, h.output, h.size, h.block⟩

/-- the slice value v reads in w as n elements of size cells each, all in blocks below B -/
def Rd (B : Nat) (w : World) (size : Nat) (v : Value) (n : Nat) (xs : List Value) : Prop :=
  xs.length = n * size ∧ ((n = 0 ∧ ∃ a c, v = .slice a 0 c ∧ (a = none → c = 0)) ∨
    (0 < n ∧ ∃ b off c, v = .slice (some ⟨b, off, none⟩) n c ∧ b < B ∧ B ≤ w.heap.size ∧ n ≤ c ∧ c ≤ maxLen ∧ ∀ j, j < n * size → w.cell? ⟨b, off + j, none⟩ = xs[j]?))

theorem Rd.len {B : Nat} {w : World} {size : Nat} {v : Value} {n : Nat} {xs : List Value} (h : Rd B w size v n xs) : n ≤ maxLen := by
  rcases h.2 with ⟨rfl, _⟩ | ⟨_, b, off, c, _, _, _, h1, h2, _⟩
  · simp [maxLen]
  · omega

theorem Rd.shape {B : Nat} {w : World} {size : Nat} {v : Value} {n : Nat} {xs : List Value} (h : Rd B w size v n xs) : ∃ a c, v = .slice a n c := by
  rcases h.2 with ⟨rfl, a, c, rfl, _⟩ | ⟨_, b, off, c, rfl, _⟩
  · exact ⟨_, _, rfl⟩
  · exact ⟨_, _, rfl⟩

theorem Rd.below {B B' : Nat} {w w' : World} {size : Nat} {v : Value} {n : Nat} {xs : List Value} (h : Rd B w size v n xs) (hb : Below B' w w') (hB : B ≤ B') : Rd B w' size v n xs := by
  refine ⟨h.1, ?_⟩
  rcases h.2 with h | ⟨h0, b, off, c, rfl, hlt, hB2, h1, h2, h3⟩
  · exact .inl h
  · exact .inr ⟨h0, b, off, c, rfl, hlt, Nat.le_trans hB2 hb.size, h1, h2, fun j hj => (hb.cell (p := ⟨b, off + j, none⟩) (by show b < B'; omega)).trans (h3 j hj)⟩

theorem Rd.mono {B B' : Nat} {w : World} {size : Nat} {v : Value} {n : Nat} {xs : List Value} (h : Rd B w size v n xs) (hB : B ≤ B') (hB' : B' ≤ w.heap.size) : Rd B' w size v n xs := by
  refine ⟨h.1, ?_⟩
  rcases h.2 with h | ⟨h0, b, off, c, rfl, hlt, hB2, h1, h2, h3⟩
  · exact .inl h
  · exact .inr ⟨h0, b, off, c, rfl, by omega, hB', h1, h2, h3⟩

/-- a reading in a later world -/
theorem Rd.later {B : Nat} {w w' : World} {size : Nat} {v : Value} {n : Nat} {xs : List Value} (h : Rd w.heap.size w size v n xs) (hb : Below B w w') (hB : w.heap.size ≤ B) : Rd w'.heap.size w' size v n xs :=
  (h.below hb hB).mono hb.size (Nat.le_refl _)

theorem Rd.of_own {w : World} {base : Nat} {e : TypeId} {size : Nat} {v : Value} {n : Nat} {xs : List Value} (h : w.ownsRow base e size v n xs) : Rd w.heap.size w size v n xs := by
  refine ⟨h.1, ?_⟩
  rcases h.2 with ⟨rfl, rfl⟩ | ⟨g, cap, cur, rfl, hb, hg, hn, hc, hcs, htake⟩
  · exact .inl ⟨rfl, _, _, rfl, fun _ => rfl⟩
  · rcases Nat.eq_zero_or_pos n with rfl | h0
    · exact .inl ⟨rfl, _, _, rfl, fun h => by cases h⟩
    · refine .inr ⟨h0, g, 0, cap, rfl, (Array.getElem?_eq_some_iff.1 hg).1, Nat.le_refl _, hn, hc, fun j hj => ?_⟩
      rw [Nat.zero_add]
      exact h.cellAt j hj

/-- a reading with an element -/
theorem Rd.pos {B : Nat} {w : World} {size : Nat} {v : Value} {n : Nat} {xs : List Value} (h : Rd B w size v n xs) (hn : 0 < n) :
    ∃ b off c, v = .slice (some ⟨b, off, none⟩) n c ∧ b < B ∧ B ≤ w.heap.size ∧ n ≤ c ∧ c ≤ maxLen ∧ ∀ j, j < n * size → w.cell? ⟨b, off + j, none⟩ = xs[j]? := by
  rcases h.2 with ⟨rfl, _⟩ | ⟨_, h⟩
  · omega
  · exact h

theorem own_mono {w : World} {base base' : Nat} {e : TypeId} {size : Nat} {v : Value} {n : Nat} {xs : List Value} (h : w.ownsRow base e size v n xs) (hb : base' ≤ base) : w.ownsRow base' e size v n xs := by
  refine ⟨h.1, ?_⟩
  rcases h.2 with h | ⟨g, cap, cur, rfl, hb', r⟩
  · exact .inl h
  · exact .inr ⟨g, cap, cur, rfl, by omega, r⟩

/-- an owned row stays owned behind a call that leaves all that was there -/
theorem own_below {w w' : World} {base : Nat} {e : TypeId} {size : Nat} {v : Value} {n : Nat} {xs : List Value} (h : w.ownsRow base e size v n xs) (hb : Below w.heap.size w w') : w'.ownsRow base e size v n xs := by
  refine ⟨h.1, ?_⟩
  rcases h.2 with h | ⟨g, cap, cur, rfl, hb', hg, r⟩
  · exact .inl h
  · exact .inr ⟨g, cap, cur, rfl, hb', (hb.block g (Array.getElem?_eq_some_iff.1 hg).1).trans hg, r⟩

theorem below_append {B : Nat} {a w w' : World} {base : Nat} {e : TypeId} {size : Nat} {v : Value} {n : Nat} {xs : List Value} (h : Below B a w) (hg : w.grownBy w' v.ownBlock) (ho : w.ownsRow base e size v n xs) (hB : B ≤ base) (hB' : B ≤ w.heap.size) : Below B a w' :=
  h.grown hg hB' (fun k e => Nat.le_trans hB (ho.lt k e).1)

theorem own_shape {w : World} {base : Nat} {e : TypeId} {size : Nat} {v : Value} {n : Nat} {xs : List Value} (h : w.ownsRow base e size v n xs) : ∃ a c, v = .slice a n c := by
  rcases h.2 with ⟨rfl, rfl⟩ | ⟨g, cap, cur, rfl, _⟩
  · exact ⟨_, _, rfl⟩
  · exact ⟨_, _, rfl⟩

/-- an owned row with an element is a block of its own -/
theorem own_some {w : World} {base : Nat} {e : TypeId} {size : Nat} {a : Option Addr} {n m c : Nat} {xs : List Value} (h : w.ownsRow base e size (.slice a m c) n xs) (hn : 0 < n) : ∃ g, a = some ⟨g, 0, none⟩ ∧ base ≤ g ∧ g < w.heap.size ∧ m = n ∧ n ≤ c ∧ c ≤ maxLen := by
  rcases h.2 with ⟨_, rfl⟩ | ⟨g, cap, cur, hv, hb, hg, h1, h2, _⟩
  · omega
  · cases hv
    exact ⟨g, rfl, hb, (Array.getElem?_eq_some_iff.1 hg).1, rfl, h1, h2⟩

theorem cell?_setCell_some {w : World} {p q : Addr} {x v : Value} (h : w.cell? q = some v) : ∃ v', (w.setCell p x).cell? q = some v' := by
  by_cases e : p = q
  · subst e; exact ⟨x, World.cell?_setCell_same w p x h⟩
  · exact ⟨v, (World.cell?_setCell_other w p q x e).trans h⟩

theorem cell_on {B : Nat} {w w' : World} {b o : Nat} {v : Value} (hb : Below B w w') (hlt : b < B) (h : w.cell? ⟨b, o, none⟩ = some v) : w'.cell? ⟨b, o, none⟩ = some v := (hb.cell (p := ⟨b, o, none⟩) hlt).trans h

theorem addr_add (b off j : Nat) : (⟨b, off, none⟩ : Addr).add j = ⟨b, off + j, none⟩ := by
  unfold Addr.add
  split
  · rename_i h; subst h; rfl
  · rfl

/-- the cells of an old slice in a later world, as the laws on append ask for them -/
theorem news_of {w w' : World} {B b off : Nat} {xs : List Value} (hb : Below B w w') (hlt : b < B) (hc : ∀ j, j < xs.length → w.cell? ⟨b, off + j, none⟩ = xs[j]?) :
    ∀ j u, xs[j]? = some u → w'.cell? ((⟨b, off, none⟩ : Addr).add j) = some u := by
  intro j u hu
  have hj : j < xs.length := (List.getElem?_eq_some_iff.1 hu).1
  rw [addr_add, hb.cell (p := ⟨b, off + j, none⟩) hlt, hc j hj, hu]

/-- block b holds these cells, none of them frozen -/
def Row (w : World) (b : Nat) (t : TypeId) (vs : Array Value) : Prop := w.heap[b]? = some (.cells vs t (0, 0))
theorem Row.lt {w : World} {b : Nat} {t : TypeId} {vs : Array Value} (h : Row w b t vs) : b < w.heap.size := (Array.getElem?_eq_some_iff.1 h).1
theorem Row.cell {w : World} {b : Nat} {t : TypeId} {vs : Array Value} (h : Row w b t vs) (j : Nat) : w.cell? ⟨b, j, none⟩ = vs[j]? := by simp [World.cell?, show w.heap[b]? = _ from h]
theorem Row.frozen {w : World} {b : Nat} {t : TypeId} {vs : Array Value} (h : Row w b t vs) (j : Nat) : w.frozen? ⟨b, j, none⟩ = false := by simp [World.frozen?, show w.heap[b]? = _ from h]
theorem Row.set {w : World} {b : Nat} {t : TypeId} {vs : Array Value} (h : Row w b t vs) (j : Nat) (v : Value) : Row (w.setCell ⟨b, j, none⟩ v) b t (vs.setIfInBounds j v) :=
  heap_setCell_same w b j vs t v h
theorem Row.other {w : World} {b b' j : Nat} {t : TypeId} {vs : Array Value} (h : Row w b t vs) (hne : b ≠ b') (v : Value) : Row (w.setCell ⟨b', j, none⟩ v) b t vs :=
  (Below.heap_setCell w ⟨b', j, none⟩ v b hne).trans h
theorem Row.drewN {w : World} {b : Nat} {t : TypeId} {vs : Array Value} (h : Row w b t vs) (k : Nat) : Row (w.drewN k) b t vs := h
theorem Row.drew {w : World} {b : Nat} {t : TypeId} {vs : Array Value} (h : Row w b t vs) : Row w.drew b t vs := h
theorem Row.alloc {w : World} {b : Nat} {t : TypeId} {vs : Array Value} (h : Row w b t vs) (o : Obj) : Row (w.alloc o) b t vs :=
  (Below.heap_alloc w o b h.lt).trans h
theorem Row.new (w : World) (t : TypeId) (vs : Array Value) : Row (w.alloc (.cells vs t)) w.heap.size t vs := by
  show (w.heap.push _)[w.heap.size]? = _
  simp
theorem Row.below {w w' : World} {B b : Nat} {t : TypeId} {vs : Array Value} (h : Row w b t vs) (hb : Below B w w') (hlt : b < B) : Row w' b t vs := (hb.block b hlt).trans h

theorem Row.stored4 {w : World} {b : Nat} {t : TypeId} {o0 o1 o2 o3 : Value} (h : Row w b t #[o0, o1, o2, o3]) (x0 x1 x2 x3 : Value) :
    Row ((((w.setCell ⟨b, 0, none⟩ x0).setCell ⟨b, 1, none⟩ x1).setCell ⟨b, 2, none⟩ x2).setCell ⟨b, 3, none⟩ x3) b t #[x0, x1, x2, x3] := (((h.set 0 x0).set 1 x1).set 2 x2).set 3 x3
theorem Row.other4 {w : World} {b b' : Nat} {t : TypeId} {vs : Array Value} (h : Row w b t vs) (hne : b ≠ b') (x0 x1 x2 x3 : Value) :
    Row ((((w.setCell ⟨b', 0, none⟩ x0).setCell ⟨b', 1, none⟩ x1).setCell ⟨b', 2, none⟩ x2).setCell ⟨b', 3, none⟩ x3) b t vs := (((h.other hne _).other hne _).other hne _).other hne _
theorem Below.stored4 {B : Nat} {a w : World} (h : Below B a w) {b : Nat} (hb : B ≤ b) (x0 x1 x2 x3 : Value) :
    Below B a ((((w.setCell ⟨b, 0, none⟩ x0).setCell ⟨b, 1, none⟩ x1).setCell ⟨b, 2, none⟩ x2).setCell ⟨b, 3, none⟩ x3) :=
  (((h.setCell (p := ⟨b, 0, none⟩) hb _).setCell (p := ⟨b, 1, none⟩) hb _).setCell (p := ⟨b, 2, none⟩) hb _).setCell (p := ⟨b, 3, none⟩) hb _

theorem rows1 {w w2 : World} {v0 : Array Value} {t0 : TypeId} (hb : Below (w.alloc (.cells v0 t0)).heap.size (w.alloc (.cells v0 t0)) w2) :
    Row w2 w.heap.size t0 v0 ∧ Below w.heap.size w w2 ∧ w.heap.size < w2.heap.size := by
  have hz := hb.size
  simp only [World.size_alloc] at hz
  refine ⟨by simpa using (Row.new w t0 v0).below hb (by simp; try omega), ?_, by omega⟩
  exact ((Below.refl _ _).alloc (by simp; try omega) _).trans (hb.mono (by simp; try omega))
theorem rows2 {w w2 : World} {v0 v1 : Array Value} {t0 t1 : TypeId} (hb : Below ((w.alloc (.cells v0 t0)).alloc (.cells v1 t1)).heap.size ((w.alloc (.cells v0 t0)).alloc (.cells v1 t1)) w2) :
    Row w2 w.heap.size t0 v0 ∧ Row w2 (w.heap.size + 1) t1 v1 ∧ Below w.heap.size w w2 ∧ w.heap.size < w2.heap.size ∧ w.heap.size + 1 < w2.heap.size := by
  have hz := hb.size
  simp only [World.size_alloc] at hz
  refine ⟨by simpa using ((Row.new w t0 v0).alloc (.cells v1 t1)).below hb (by simp; try omega), by simpa using (Row.new (w.alloc (.cells v0 t0)) t1 v1).below hb (by simp; try omega), ?_, by omega, by omega⟩
  exact (((Below.refl _ _).alloc (by simp; try omega) _).alloc (by simp; try omega) _).trans (hb.mono (by simp; try omega))
theorem rows3 {w w2 : World} {v0 v1 v2 : Array Value} {t0 t1 t2 : TypeId} (hb : Below (((w.alloc (.cells v0 t0)).alloc (.cells v1 t1)).alloc (.cells v2 t2)).heap.size (((w.alloc (.cells v0 t0)).alloc (.cells v1 t1)).alloc (.cells v2 t2)) w2) :
    Row w2 w.heap.size t0 v0 ∧ Row w2 (w.heap.size + 1) t1 v1 ∧ Row w2 (w.heap.size + 1 + 1) t2 v2 ∧ Below w.heap.size w w2 ∧ w.heap.size < w2.heap.size ∧ w.heap.size + 1 < w2.heap.size ∧ w.heap.size + 1 + 1 < w2.heap.size := by
  have hz := hb.size
  simp only [World.size_alloc] at hz
  refine ⟨by simpa using (((Row.new w t0 v0).alloc (.cells v1 t1)).alloc (.cells v2 t2)).below hb (by simp; try omega), by simpa using ((Row.new (w.alloc (.cells v0 t0)) t1 v1).alloc (.cells v2 t2)).below hb (by simp; try omega), by simpa using (Row.new ((w.alloc (.cells v0 t0)).alloc (.cells v1 t1)) t2 v2).below hb (by simp; try omega), ?_, by omega, by omega, by omega⟩
  exact ((((Below.refl _ _).alloc (by simp; try omega) _).alloc (by simp; try omega) _).alloc (by simp; try omega) _).trans (hb.mono (by simp; try omega))
theorem rows4 {w w2 : World} {v0 v1 v2 v3 : Array Value} {t0 t1 t2 t3 : TypeId} (hb : Below ((((w.alloc (.cells v0 t0)).alloc (.cells v1 t1)).alloc (.cells v2 t2)).alloc (.cells v3 t3)).heap.size ((((w.alloc (.cells v0 t0)).alloc (.cells v1 t1)).alloc (.cells v2 t2)).alloc (.cells v3 t3)) w2) :
    Row w2 w.heap.size t0 v0 ∧ Row w2 (w.heap.size + 1) t1 v1 ∧ Row w2 (w.heap.size + 1 + 1) t2 v2 ∧ Row w2 (w.heap.size + 1 + 1 + 1) t3 v3 ∧ Below w.heap.size w w2 ∧ w.heap.size < w2.heap.size ∧ w.heap.size + 1 < w2.heap.size ∧ w.heap.size + 1 + 1 < w2.heap.size ∧ w.heap.size + 1 + 1 + 1 < w2.heap.size := by
  have hz := hb.size
  simp only [World.size_alloc] at hz
  refine ⟨by simpa using ((((Row.new w t0 v0).alloc (.cells v1 t1)).alloc (.cells v2 t2)).alloc (.cells v3 t3)).below hb (by simp; try omega), by simpa using (((Row.new (w.alloc (.cells v0 t0)) t1 v1).alloc (.cells v2 t2)).alloc (.cells v3 t3)).below hb (by simp; try omega), by simpa using ((Row.new ((w.alloc (.cells v0 t0)).alloc (.cells v1 t1)) t2 v2).alloc (.cells v3 t3)).below hb (by simp; try omega), by simpa using (Row.new (((w.alloc (.cells v0 t0)).alloc (.cells v1 t1)).alloc (.cells v2 t2)) t3 v3).below hb (by simp; try omega), ?_, by omega, by omega, by omega, by omega⟩
  exact (((((Below.refl _ _).alloc (by simp; try omega) _).alloc (by simp; try omega) _).alloc (by simp; try omega) _).alloc (by simp; try omega) _).trans (hb.mono (by simp; try omega))
theorem rows5 {w w2 : World} {v0 v1 v2 v3 v4 : Array Value} {t0 t1 t2 t3 t4 : TypeId} (hb : Below (((((w.alloc (.cells v0 t0)).alloc (.cells v1 t1)).alloc (.cells v2 t2)).alloc (.cells v3 t3)).alloc (.cells v4 t4)).heap.size (((((w.alloc (.cells v0 t0)).alloc (.cells v1 t1)).alloc (.cells v2 t2)).alloc (.cells v3 t3)).alloc (.cells v4 t4)) w2) :
    Row w2 w.heap.size t0 v0 ∧ Row w2 (w.heap.size + 1) t1 v1 ∧ Row w2 (w.heap.size + 1 + 1) t2 v2 ∧ Row w2 (w.heap.size + 1 + 1 + 1) t3 v3 ∧ Row w2 (w.heap.size + 1 + 1 + 1 + 1) t4 v4 ∧ Below w.heap.size w w2 ∧ w.heap.size < w2.heap.size ∧ w.heap.size + 1 < w2.heap.size ∧ w.heap.size + 1 + 1 < w2.heap.size ∧ w.heap.size + 1 + 1 + 1 < w2.heap.size ∧ w.heap.size + 1 + 1 + 1 + 1 < w2.heap.size := by
  have hz := hb.size
  simp only [World.size_alloc] at hz
  refine ⟨by simpa using (((((Row.new w t0 v0).alloc (.cells v1 t1)).alloc (.cells v2 t2)).alloc (.cells v3 t3)).alloc (.cells v4 t4)).below hb (by simp; try omega), by simpa using ((((Row.new (w.alloc (.cells v0 t0)) t1 v1).alloc (.cells v2 t2)).alloc (.cells v3 t3)).alloc (.cells v4 t4)).below hb (by simp; try omega), by simpa using (((Row.new ((w.alloc (.cells v0 t0)).alloc (.cells v1 t1)) t2 v2).alloc (.cells v3 t3)).alloc (.cells v4 t4)).below hb (by simp; try omega), by simpa using ((Row.new (((w.alloc (.cells v0 t0)).alloc (.cells v1 t1)).alloc (.cells v2 t2)) t3 v3).alloc (.cells v4 t4)).below hb (by simp; try omega), by simpa using (Row.new ((((w.alloc (.cells v0 t0)).alloc (.cells v1 t1)).alloc (.cells v2 t2)).alloc (.cells v3 t3)) t4 v4).below hb (by simp; try omega), ?_, by omega, by omega, by omega, by omega, by omega⟩
  exact ((((((Below.refl _ _).alloc (by simp; try omega) _).alloc (by simp; try omega) _).alloc (by simp; try omega) _).alloc (by simp; try omega) _).alloc (by simp; try omega) _).trans (hb.mono (by simp; try omega))
theorem rows6 {w w2 : World} {v0 v1 v2 v3 v4 v5 : Array Value} {t0 t1 t2 t3 t4 t5 : TypeId} (hb : Below ((((((w.alloc (.cells v0 t0)).alloc (.cells v1 t1)).alloc (.cells v2 t2)).alloc (.cells v3 t3)).alloc (.cells v4 t4)).alloc (.cells v5 t5)).heap.size ((((((w.alloc (.cells v0 t0)).alloc (.cells v1 t1)).alloc (.cells v2 t2)).alloc (.cells v3 t3)).alloc (.cells v4 t4)).alloc (.cells v5 t5)) w2) :
    Row w2 w.heap.size t0 v0 ∧ Row w2 (w.heap.size + 1) t1 v1 ∧ Row w2 (w.heap.size + 1 + 1) t2 v2 ∧ Row w2 (w.heap.size + 1 + 1 + 1) t3 v3 ∧ Row w2 (w.heap.size + 1 + 1 + 1 + 1) t4 v4 ∧ Row w2 (w.heap.size + 1 + 1 + 1 + 1 + 1) t5 v5 ∧ Below w.heap.size w w2 ∧ w.heap.size < w2.heap.size ∧ w.heap.size + 1 < w2.heap.size ∧ w.heap.size + 1 + 1 < w2.heap.size ∧ w.heap.size + 1 + 1 + 1 < w2.heap.size ∧ w.heap.size + 1 + 1 + 1 + 1 < w2.heap.size ∧ w.heap.size + 1 + 1 + 1 + 1 + 1 < w2.heap.size := by
  have hz := hb.size
  simp only [World.size_alloc] at hz
  refine ⟨by simpa using ((((((Row.new w t0 v0).alloc (.cells v1 t1)).alloc (.cells v2 t2)).alloc (.cells v3 t3)).alloc (.cells v4 t4)).alloc (.cells v5 t5)).below hb (by simp; try omega), by simpa using (((((Row.new (w.alloc (.cells v0 t0)) t1 v1).alloc (.cells v2 t2)).alloc (.cells v3 t3)).alloc (.cells v4 t4)).alloc (.cells v5 t5)).below hb (by simp; try omega), by simpa using ((((Row.new ((w.alloc (.cells v0 t0)).alloc (.cells v1 t1)) t2 v2).alloc (.cells v3 t3)).alloc (.cells v4 t4)).alloc (.cells v5 t5)).below hb (by simp; try omega), by simpa using (((Row.new (((w.alloc (.cells v0 t0)).alloc (.cells v1 t1)).alloc (.cells v2 t2)) t3 v3).alloc (.cells v4 t4)).alloc (.cells v5 t5)).below hb (by simp; try omega), by simpa using ((Row.new ((((w.alloc (.cells v0 t0)).alloc (.cells v1 t1)).alloc (.cells v2 t2)).alloc (.cells v3 t3)) t4 v4).alloc (.cells v5 t5)).below hb (by simp; try omega), by simpa using (Row.new (((((w.alloc (.cells v0 t0)).alloc (.cells v1 t1)).alloc (.cells v2 t2)).alloc (.cells v3 t3)).alloc (.cells v4 t4)) t5 v5).below hb (by simp; try omega), ?_, by omega, by omega, by omega, by omega, by omega, by omega⟩
  exact (((((((Below.refl _ _).alloc (by simp; try omega) _).alloc (by simp; try omega) _).alloc (by simp; try omega) _).alloc (by simp; try omega) _).alloc (by simp; try omega) _).alloc (by simp; try omega) _).trans (hb.mono (by simp; try omega))

/-! results that lie in memory -/
theorem run_asAddr (P : Program) (a : Addr) (w : World) : (asAddr (.pointer (some a))).run P w = .ok a w := by simp [go_sem]
theorem res_c {P : Program} {fn : Func} {t : Tmp} {T : TypeId} {tmps : Array Value} {w : World} {a : Addr} {v : Value} (h : fn.results = #[.cell t T]) (ha : tmps.getD t undef = .pointer (some a)) (hl : (loadVar T a).run P w = .ok v w) :
    (results fn tmps).run P w = .ok v w := by
  simp only [results, h]
  simp only [Array.getD_eq_getD_getElem?] at ha ⊢
  simp [Sem.run_bind, Result.andThen, ha, run_asAddr, hl]
theorem res_ct {P : Program} {fn : Func} {t u : Tmp} {T : TypeId} {tmps : Array Value} {w : World} {a : Addr} {v : Value} (h : fn.results = #[.cell t T, .tmp u]) (ha : tmps.getD t undef = .pointer (some a)) (hl : (loadVar T a).run P w = .ok v w) :
    (results fn tmps).run P w = .ok (.tuple #[v, tmps.getD u undef]) w := by
  rw [results_cell_tmp h, ha, run_asAddr]
  simp [Result.andThen, hl]
theorem res_cc {P : Program} {fn : Func} {t t' : Tmp} {T T' : TypeId} {tmps : Array Value} {w : World} {a a' : Addr} {v v' : Value} (h : fn.results = #[.cell t T, .cell t' T']) (ha : tmps.getD t undef = .pointer (some a)) (ha' : tmps.getD t' undef = .pointer (some a'))
    (hl : (loadVar T a).run P w = .ok v w) (hl' : (loadVar T' a').run P w = .ok v' w) : (results fn tmps).run P w = .ok (.tuple #[v, v']) w := by
  simp only [results, h]
  simp only [Array.getD_eq_getD_getElem?] at ha ha' ⊢
  simp [Sem.run_bind, Result.andThen, ha, ha', run_asAddr, hl, hl']
theorem res_cct {P : Program} {fn : Func} {t t' u : Tmp} {T T' : TypeId} {tmps : Array Value} {w : World} {a a' : Addr} {v v' : Value} (h : fn.results = #[.cell t T, .cell t' T', .tmp u]) (ha : tmps.getD t undef = .pointer (some a)) (ha' : tmps.getD t' undef = .pointer (some a'))
    (hl : (loadVar T a).run P w = .ok v w) (hl' : (loadVar T' a').run P w = .ok v' w) : (results fn tmps).run P w = .ok (.tuple #[v, v', tmps.getD u undef]) w := by
  simp only [results, h]
  simp only [Array.getD_eq_getD_getElem?] at ha ha' ⊢
  simp [Sem.run_bind, Result.andThen, ha, ha', run_asAddr, hl, hl']
theorem res_tct {P : Program} {fn : Func} {t u u' : Tmp} {T : TypeId} {tmps : Array Value} {w : World} {a : Addr} {v : Value} (h : fn.results = #[.tmp u', .cell t T, .tmp u]) (ha : tmps.getD t undef = .pointer (some a)) (hl : (loadVar T a).run P w = .ok v w) :
    (results fn tmps).run P w = .ok (.tuple #[tmps.getD u' undef, v, tmps.getD u undef]) w := by
  simp only [results, h]
  simp only [Array.getD_eq_getD_getElem?] at ha ⊢
  simp [Sem.run_bind, Result.andThen, ha, run_asAddr, hl]

def ints (l : List Int) : List Value := l.map (Value.int .i64)
@[simp] theorem ints_length (l : List Int) : (ints l).length = l.length := by simp [ints]
theorem ints_get (l : List Int) (i : Nat) (h : i < l.length) : (ints l)[i]? = some (.int .i64 (l.getD i 0)) := by
  simp [ints, List.getElem?_eq_getElem h, List.getD]
theorem ints_set (l : List Int) (i : Nat) (x : Int) : (ints l).set i (.int .i64 x) = ints (l.set i x) := by simp [ints, List.map_set]
theorem ints_one (l : List Int) : ∀ u ∈ ints l, u.oneCell' = true := by
  intro u hu
  simp only [ints, List.mem_map] at hu
  obtain ⟨x, _, rfl⟩ := hu
  rfl

/-- a literal []int: the block that was just laid -/
theorem own_lit {w : World} (e : TypeId) (l : List Int) (hl : l.length ≤ 1000000) : (w.alloc (.cells (ints l).toArray e)).ownsRow w.heap.size e 1 (.slice (some ⟨w.heap.size, 0, none⟩) l.length l.length) l.length (ints l) := by
  have := World.ownsRow_lit (base := w.heap.size) (e := e) (size := 1) w (ints l).toArray l.length (Nat.le_refl _) (by simp [maxLen]; omega) (by simp)
  simpa using this

/-- a slice of integers that came in, as the readings of the rows hand it over -/
theorem row_of_cells {W : World} {k : IntKind} {x : Addr} {l c : Nat} {zs : List Int} (hl : l ≤ c) (hm : c ≤ maxLen) (hz : zs.length = c) (hcell : ∀ i, i < zs.length → W.cell? (x.add i) = some (.int k (zs.getD i 0))) (hwz : ∀ n ∈ zs, (Lit.int k n).wf = true) :
    ∃ m : List Int, Rd W.heap.size W 1 (.slice (some x) l c) m.length (m.map (Value.int k)) ∧ ∀ n ∈ m, (Lit.int k n).wf = true := by
  have hlen : (zs.take l).length = l := by simp; omega
  refine ⟨zs.take l, ⟨by simp, ?_⟩, fun n hn => hwz n (List.mem_of_mem_take hn)⟩
  rcases Nat.eq_zero_or_pos l with rfl | h0
  · exact .inl ⟨by simp, _, _, rfl, fun h => by cases h⟩
  · obtain ⟨b, off, spot⟩ := x
    have hs := hcell 0 (by omega)
    have hspot : spot = none := by simpa [Addr.add] using World.cell?_spot hs
    subst hspot
    refine .inr ⟨by omega, b, off, c, by rw [hlen], ?_, Nat.le_refl _, by omega, hm, ?_⟩
    · have := World.block_lt_of_cell? W _ hs
      rwa [addr_add] at this
    · intro j hj
      have hj' : j < l := by omega
      have := hcell j (by omega)
      rw [addr_add] at this
      rw [this, List.getElem?_map, List.getElem?_take, if_pos hj', List.getElem?_eq_getElem (by omega)]
      simp [List.getD, List.getElem?_eq_getElem (show j < zs.length from by omega)]

end Go.Proofs.YtfciebajiihcfaaDoor
