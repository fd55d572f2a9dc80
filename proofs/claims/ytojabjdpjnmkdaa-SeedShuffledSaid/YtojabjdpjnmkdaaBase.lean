/- What all walks of this seat share: no program in sight. -/
import Derived.WalkKit
import Derived.WalkSpells
import Derived.WalkLawsBesides
import Derived.Deep.QuietTactic
import Derived.BigQuiet
import Derived.Lib.Hide
namespace Go.Proofs.Ytojabjdpjnmkdaa
open Go.RowKit

theorem tdiv_bd (a b : Int) (hb : 0 < b) : b * a.tdiv b + a.tmod b = a ∧ -b < a.tmod b ∧ a.tmod b < b := by
  refine ⟨Int.mul_tdiv_add_tmod a b, Int.lt_tmod_of_pos a hb, Int.tmod_lt_of_pos a hb⟩

theorem ret_int {k : IntKind} {a b : Int} (h : a = b) : Ending.returned (.int k a) = .returned (.int k b) := by rw [h]

theorem tmod_lit (n b : Int) (hb : 0 < b) : -b < n.tmod b ∧ n.tmod b < b ∧ (n % b = n.tmod b ∧ 0 ≤ n.tmod b ∨ n % b = n.tmod b + b ∧ n.tmod b < 0) ∧ 0 ≤ n % b ∧ n % b < b := by
  have h1 := Int.emod_nonneg n (Int.ne_of_gt hb)
  have h2 := Int.emod_lt_of_pos n hb
  have h3 : ((b.natAbs : Nat) : Int) = b := by omega
  rw [Int.tmod_eq_emod]
  split <;> omega

/-- old cells and marks read as they did -/
theorem bcell {W w1 : World} {B : Nat} (hb : Below B W w1) : (∀ b o, b < B → w1.cell? ⟨b, o, none⟩ = W.cell? ⟨b, o, none⟩) ∧ (∀ b o, b < B → w1.frozen? ⟨b, o, none⟩ = W.frozen? ⟨b, o, none⟩) :=
  ⟨fun b o h => hb.cell (p := ⟨b, o, none⟩) h, fun b o h => hb.frozen (p := ⟨b, o, none⟩) h⟩

theorem Below.drewN {B : Nat} {a w : World} (h : Below B a w) (n : Nat) : Below B a (w.drewN n) := ⟨h.os, h.tape, h.output, h.size, h.block⟩

/-- the slice value v reads in w as n elements of size cells each, all in blocks below B -/
def Rd (B : Nat) (w : World) (size : Nat) (v : Value) (n : Nat) (xs : List Value) : Prop :=
  xs.length = n * size ∧ ((n = 0 ∧ ∃ a c, v = .slice a 0 c ∧ (a = none → c = 0)) ∨
    (0 < n ∧ ∃ b off c, v = .slice (some ⟨b, off, none⟩) n c ∧ b < B ∧ B ≤ w.heap.size ∧ n ≤ c ∧ c ≤ maxLen ∧ ∀ j, j < n * size → w.cell? ⟨b, off + j, none⟩ = xs[j]?))

theorem Rd.len {B : Nat} {w : World} {size : Nat} {v : Value} {n : Nat} {xs : List Value} (h : Rd B w size v n xs) : n ≤ maxLen := by
  rcases h.2 with ⟨rfl, _⟩ | ⟨_, b, off, c, _, _, _, h1, h2, _⟩
  · simp [maxLen]
  · omega

theorem Rd.shape {B : Nat} {w : World} {size : Nat} {v : Value} {n : Nat} {xs : List Value} (h : Rd B w size v n xs) : ∃ a c, v = .slice a n c := by
  rcases h.2 with ⟨rfl, a, c, rfl, _⟩ | ⟨_, b, off, c, rfl, _⟩
  · exact ⟨_, _, rfl⟩
  · exact ⟨_, _, rfl⟩

theorem Rd.below {B B' : Nat} {w w' : World} {size : Nat} {v : Value} {n : Nat} {xs : List Value} (h : Rd B w size v n xs) (hb : Below B' w w') (hB : B ≤ B') : Rd B w' size v n xs := by
  refine ⟨h.1, ?_⟩
  rcases h.2 with h | ⟨h0, b, off, c, rfl, hlt, hB2, h1, h2, h3⟩
  · exact .inl h
  · exact .inr ⟨h0, b, off, c, rfl, hlt, Nat.le_trans hB2 hb.size, h1, h2, fun j hj => (hb.cell (p := ⟨b, off + j, none⟩) (by show b < B'; omega)).trans (h3 j hj)⟩

theorem Rd.mono {B B' : Nat} {w : World} {size : Nat} {v : Value} {n : Nat} {xs : List Value} (h : Rd B w size v n xs) (hB : B ≤ B') (hB' : B' ≤ w.heap.size) : Rd B' w size v n xs := by
  refine ⟨h.1, ?_⟩
  rcases h.2 with h | ⟨h0, b, off, c, rfl, hlt, hB2, h1, h2, h3⟩
  · exact .inl h
  · exact .inr ⟨h0, b, off, c, rfl, by omega, hB', h1, h2, h3⟩

/-- a reading in a later world -/
theorem Rd.later {B : Nat} {w w' : World} {size : Nat} {v : Value} {n : Nat} {xs : List Value} (h : Rd w.heap.size w size v n xs) (hb : Below B w w') (hB : w.heap.size ≤ B) : Rd w'.heap.size w' size v n xs :=
  (h.below hb hB).mono hb.size (Nat.le_refl _)

theorem Rd.of_own {w : World} {base : Nat} {e : TypeId} {size : Nat} {v : Value} {n : Nat} {xs : List Value} (h : w.ownsRow base e size v n xs) : Rd w.heap.size w size v n xs := by
  refine ⟨h.1, ?_⟩
  rcases h.2 with ⟨rfl, rfl⟩ | ⟨g, cap, cur, rfl, hb, hg, hn, hc, hcs, htake⟩
  · exact .inl ⟨rfl, _, _, rfl, fun _ => rfl⟩
  · rcases Nat.eq_zero_or_pos n with rfl | h0
    · exact .inl ⟨rfl, _, _, rfl, fun h => by cases h⟩
    · refine .inr ⟨h0, g, 0, cap, rfl, (Array.getElem?_eq_some_iff.1 hg).1, Nat.le_refl _, hn, hc, fun j hj => ?_⟩
      rw [Nat.zero_add]
      exact h.cellAt j hj

/-- a reading with an element -/
theorem Rd.pos {B : Nat} {w : World} {size : Nat} {v : Value} {n : Nat} {xs : List Value} (h : Rd B w size v n xs) (hn : 0 < n) :
    ∃ b off c, v = .slice (some ⟨b, off, none⟩) n c ∧ b < B ∧ B ≤ w.heap.size ∧ n ≤ c ∧ c ≤ maxLen ∧ ∀ j, j < n * size → w.cell? ⟨b, off + j, none⟩ = xs[j]? := by
  rcases h.2 with ⟨rfl, _⟩ | ⟨_, h⟩
  · omega
  · exact h

theorem own_mono {w : World} {base base' : Nat} {e : TypeId} {size : Nat} {v : Value} {n : Nat} {xs : List Value} (h : w.ownsRow base e size v n xs) (hb : base' ≤ base) : w.ownsRow base' e size v n xs := by
  refine ⟨h.1, ?_⟩
  rcases h.2 with h | ⟨g, cap, cur, rfl, hb', r⟩
  · exact .inl h
  · exact .inr ⟨g, cap, cur, rfl, by omega, r⟩

/-- an owned row stays owned behind a call that leaves all that was there -/
theorem own_below {w w' : World} {base : Nat} {e : TypeId} {size : Nat} {v : Value} {n : Nat} {xs : List Value} (h : w.ownsRow base e size v n xs) (hb : Below w.heap.size w w') : w'.ownsRow base e size v n xs := by
  refine ⟨h.1, ?_⟩
  rcases h.2 with h | ⟨g, cap, cur, rfl, hb', hg, r⟩
  · exact .inl h
  · exact .inr ⟨g, cap, cur, rfl, hb', (hb.block g (Array.getElem?_eq_some_iff.1 hg).1).trans hg, r⟩

theorem below_append {B : Nat} {a w w' : World} {base : Nat} {e : TypeId} {size : Nat} {v : Value} {n : Nat} {xs : List Value} (h : Below B a w) (hg : w.grownBy w' v.ownBlock) (ho : w.ownsRow base e size v n xs) (hB : B ≤ base) (hB' : B ≤ w.heap.size) : Below B a w' :=
  h.grown hg hB' (fun k e => Nat.le_trans hB (ho.lt k e).1)

theorem own_shape {w : World} {base : Nat} {e : TypeId} {size : Nat} {v : Value} {n : Nat} {xs : List Value} (h : w.ownsRow base e size v n xs) : ∃ a c, v = .slice a n c := by
  rcases h.2 with ⟨rfl, rfl⟩ | ⟨g, cap, cur, rfl, _⟩
  · exact ⟨_, _, rfl⟩
  · exact ⟨_, _, rfl⟩

/-- an owned row with an element is a block of its own -/
theorem own_some {w : World} {base : Nat} {e : TypeId} {size : Nat} {a : Option Addr} {n m c : Nat} {xs : List Value} (h : w.ownsRow base e size (.slice a m c) n xs) (hn : 0 < n) : ∃ g, a = some ⟨g, 0, none⟩ ∧ base ≤ g ∧ g < w.heap.size ∧ m = n ∧ n ≤ c ∧ c ≤ maxLen := by
  rcases h.2 with ⟨_, rfl⟩ | ⟨g, cap, cur, hv, hb, hg, h1, h2, _⟩
  · omega
  · cases hv
    exact ⟨g, rfl, hb, (Array.getElem?_eq_some_iff.1 hg).1, rfl, h1, h2⟩

theorem cell?_setCell_some {w : World} {p q : Addr} {x v : Value} (h : w.cell? q = some v) : ∃ v', (w.setCell p x).cell? q = some v' := by
  by_cases e : p = q
  · subst e; exact ⟨x, World.cell?_setCell_same w p x h⟩
  · exact ⟨v, (World.cell?_setCell_other w p q x e).trans h⟩

theorem cell_on {B : Nat} {w w' : World} {b o : Nat} {v : Value} (hb : Below B w w') (hlt : b < B) (h : w.cell? ⟨b, o, none⟩ = some v) : w'.cell? ⟨b, o, none⟩ = some v := (hb.cell (p := ⟨b, o, none⟩) hlt).trans h

theorem addr_add (b off j : Nat) : (⟨b, off, none⟩ : Addr).add j = ⟨b, off + j, none⟩ := by
  unfold Addr.add
  split
  · rename_i h; subst h; rfl
  · rfl

/-- the cells of an old slice in a later world, as the laws on append ask for them -/
theorem news_of {w w' : World} {B b off : Nat} {xs : List Value} (hb : Below B w w') (hlt : b < B) (hc : ∀ j, j < xs.length → w.cell? ⟨b, off + j, none⟩ = xs[j]?) :
    ∀ j u, xs[j]? = some u → w'.cell? ((⟨b, off, none⟩ : Addr).add j) = some u := by
  intro j u hu
  have hj : j < xs.length := (List.getElem?_eq_some_iff.1 hu).1
  rw [addr_add, hb.cell (p := ⟨b, off + j, none⟩) hlt, hc j hj, hu]

def ints (l : List Int) : List Value := l.map (Value.int .i64)
@[simp] theorem ints_length (l : List Int) : (ints l).length = l.length := by simp [ints]
theorem ints_get (l : List Int) (i : Nat) (h : i < l.length) : (ints l)[i]? = some (.int .i64 (l.getD i 0)) := by
  simp [ints, List.getElem?_eq_getElem h, List.getD]
theorem ints_set (l : List Int) (i : Nat) (x : Int) : (ints l).set i (.int .i64 x) = ints (l.set i x) := by simp [ints, List.map_set]
theorem ints_one (l : List Int) : ∀ u ∈ ints l, u.oneCell' = true := by
  intro u hu
  simp only [ints, List.mem_map] at hu
  obtain ⟨x, _, rfl⟩ := hu
  rfl

/-- a literal []int: the block that was just laid -/
theorem own_lit {w : World} (e : TypeId) (l : List Int) (hl : l.length ≤ 1000000) : (w.alloc (.cells (ints l).toArray e)).ownsRow w.heap.size e 1 (.slice (some ⟨w.heap.size, 0, none⟩) l.length l.length) l.length (ints l) := by
  have := World.ownsRow_lit (base := w.heap.size) (e := e) (size := 1) w (ints l).toArray l.length (Nat.le_refl _) (by simp [maxLen]; omega) (by simp)
  simpa using this

/-- a slice of integers that came in, as the readings of the rows hand it over -/
theorem row_of_cells {W : World} {k : IntKind} {x : Addr} {l c : Nat} {zs : List Int} (hl : l ≤ c) (hm : c ≤ maxLen) (hz : zs.length = c) (hcell : ∀ i, i < zs.length → W.cell? (x.add i) = some (.int k (zs.getD i 0))) (hwz : ∀ n ∈ zs, (Lit.int k n).wf = true) :
    ∃ m : List Int, Rd W.heap.size W 1 (.slice (some x) l c) m.length (m.map (Value.int k)) ∧ ∀ n ∈ m, (Lit.int k n).wf = true := by
  have hlen : (zs.take l).length = l := by simp; omega
  refine ⟨zs.take l, ⟨by simp, ?_⟩, fun n hn => hwz n (List.mem_of_mem_take hn)⟩
  rcases Nat.eq_zero_or_pos l with rfl | h0
  · exact .inl ⟨by simp, _, _, rfl, fun h => by cases h⟩
  · obtain ⟨b, off, spot⟩ := x
    have hs := hcell 0 (by omega)
    have hspot : spot = none := by simpa [Addr.add] using World.cell?_spot hs
    subst hspot
    refine .inr ⟨by omega, b, off, c, by rw [hlen], ?_, Nat.le_refl _, by omega, hm, ?_⟩
    · have := World.block_lt_of_cell? W _ hs
      rwa [addr_add] at this
    · intro j hj
      have hj' : j < l := by omega
      have := hcell j (by omega)
      rw [addr_add] at this
      rw [this, List.getElem?_map, List.getElem?_take, if_pos hj', List.getElem?_eq_getElem (by omega)]
      simp [List.getD, List.getElem?_eq_getElem (show j < zs.length from by omega)]

end Go.Proofs.Ytojabjdpjnmkdaa
