/- plain facts on the swaps of Shuffle -/
import Derived.Test.YtojabjdpjnmkdaaSeedB
namespace Go.Proofs.Ytojabjdpjnmkdaa

theorem below_bd (i : Nat) (s : Int) (h0 : 1 ≤ s) (h1 : s ≤ 2147483646) : 1 ≤ (belowI s (i + 2)).1 ∧ (belowI s (i + 2)).1 ≤ 2147483646 ∧ 0 ≤ (belowI s (i + 2)).2 ∧ (belowI s (i + 2)).2 < (i : Int) + 2 :=
  drawI_state ((i : Int) + 2) (by omega) 101 s 0 h0 h1 (by omega) (by omega)

theorem shuf_len (i : Nat) : ∀ (s : Int) (l : List Int), (shuf i s l).2.length = l.length := by
  induction i with
  | zero => intro s l; rfl
  | succ i ih => intro s l; rw [shuf_succ, ih]; simp

theorem shuf_fst (i : Nat) : ∀ (s : Int) (l l' : List Int), (shuf i s l).1 = (shuf i s l').1 := by
  induction i with
  | zero => intro s l l'; rfl
  | succ i ih => intro s l l'; rw [shuf_succ, shuf_succ]; exact ih _ _ _

theorem getD_map (f : Int → Int) (l : List Int) (i : Nat) (h : i < l.length) : (l.map f).getD i 0 = f (l.getD i 0) := by
  simp [List.getD, List.getElem?_eq_getElem h]

theorem shuf_map (f : Int → Int) (i : Nat) : ∀ (s : Int) (l : List Int), 1 ≤ s → s ≤ 2147483646 → i < l.length ∨ i = 0 → (shuf i s (l.map f)).2 = (shuf i s l).2.map f := by
  induction i with
  | zero => intro s l _ _ _; rfl
  | succ i ih =>
    intro s l h0 h1 hi
    have hi' : i + 1 < l.length := by omega
    obtain ⟨b0, b1, b2, b3⟩ := below_bd i s h0 h1
    rw [shuf_succ, shuf_succ, getD_map f l _ hi', getD_map f l _ (by omega), ← List.map_set, ← List.map_set]
    exact ih _ _ b0 b1 (by simp; omega)

theorem shuf_perm (i : Nat) : ∀ (s : Int) (l : List Int), 1 ≤ s → s ≤ 2147483646 → i < l.length ∨ i = 0 → (shuf i s l).2.Perm l := by
  induction i with
  | zero => intro s l _ _ _; exact List.Perm.refl _
  | succ i ih =>
    intro s l h0 h1 hi
    have hi' : i + 1 < l.length := by omega
    obtain ⟨b0, b1, b2, b3⟩ := below_bd i s h0 h1
    have hj : (belowI s (i + 2)).2.toNat < l.length := by omega
    rw [shuf_succ]
    refine (ih _ _ b0 b1 (by simp; omega)).trans ?_
    have := List.set_set_perm hi' hj
    simpa [List.getD, List.getElem?_eq_getElem hi', List.getElem?_eq_getElem hj] using this

/-- the places behind i are left as they are -/
theorem shuf_keeps (i : Nat) : ∀ (s : Int) (l : List Int) (k : Nat), 1 ≤ s → s ≤ 2147483646 → i < k → (shuf i s l).2[k]? = l[k]? := by
  induction i with
  | zero => intro s l k _ _ _; rfl
  | succ i ih =>
    intro s l k h0 h1 hk
    obtain ⟨b0, b1, b2, b3⟩ := below_bd i s h0 h1
    rw [shuf_succ, ih _ _ k b0 b1 (by omega), List.getElem?_set_ne (by omega), List.getElem?_set_ne (by omega)]

/-- the last element is the one that the first draw chose -/
theorem shuf_last (n : Nat) (s : Int) (l : List Int) (h0 : 1 ≤ s) (h1 : s ≤ 2147483646) (hn : l.length = n + 2) : (shuf (n + 1) s l).2.getD (n + 1) 0 = l.getD (belowI s (n + 2)).2.toNat 0 := by
  obtain ⟨b0, b1, b2, b3⟩ := below_bd n s h0 h1
  have hj : (belowI s (n + 2)).2.toNat < l.length := by omega
  rw [shuf_succ]
  simp only [List.getD]
  rw [shuf_keeps n _ _ (n + 1) b0 b1 (by omega)]
  by_cases e : (belowI s (n + 2)).2.toNat = n + 1
  · rw [e, List.getElem?_set_self (by simp; omega)]
    rfl
  · rw [List.getElem?_set_ne (by omega), List.getElem?_set_self (by omega)]
    rfl

/-- 0, 1, .. -/
def places (n : Nat) : List Int := (List.range n).map (fun k : Nat => (k : Int))
@[simp] theorem places_length (n : Nat) : (places n).length = n := by simp [places]
theorem places_succ (n : Nat) : places (n + 1) = places n ++ [(n : Int)] := by simp [places, List.range_succ]
theorem places_get (l : List Int) : (places l.length).map (fun k => l.getD k.toNat 0) = l := by
  refine List.ext_getElem (by simp) ?_
  intro i h1 h2
  simp [places, List.getD, List.getElem?_eq_getElem h2]
theorem places_mem (n : Nat) (x : Int) : x ∈ places n ↔ 0 ≤ x ∧ x < n := by
  simp only [places, List.mem_map, List.mem_range]
  constructor
  · rintro ⟨a, h, rfl⟩; omega
  · rintro ⟨h0, h1⟩; exact ⟨x.toNat, by omega, by omega⟩
theorem places_nodup (n : Nat) : (places n).Nodup := by
  unfold places List.Nodup
  rw [List.pairwise_map]
  exact (List.nodup_range (n := n)).imp (fun h e => h (by omega))

/-- how often each place below n was met -/
def mets (n : Nat) (l : List Int) : List Int := (List.range n).map (fun k : Nat => (l.count (k : Int) : Int))
@[simp] theorem mets_length (n : Nat) (l : List Int) : (mets n l).length = n := by simp [mets]
theorem mets_nil (n : Nat) : mets n [] = List.replicate n 0 := by
  refine List.ext_getElem (by simp) ?_
  intro i h1 h2
  simp [mets]
theorem mets_getD (n : Nat) (l : List Int) (k : Nat) (h : k < n) : (mets n l).getD k 0 = (l.count (k : Int) : Int) := by
  simp [mets, List.getD, List.getElem?_eq_getElem (show k < (List.range n).length by simpa using h)]
theorem mets_snoc (n : Nat) (l : List Int) (k : Nat) (h : k < n) : mets n (l ++ [(k : Int)]) = (mets n l).set k ((mets n l).getD k 0 + 1) := by
  rw [mets_getD n l k h]
  refine List.ext_getElem (by simp) ?_
  intro i h1 h2
  simp only [mets, List.getElem_map, List.getElem_range, List.getElem_set]
  rw [List.count_append]
  by_cases e : k = i
  · subst e
    simp
  · have : ¬ (k : Int) = (i : Int) := by omega
    simp [e, this]
theorem mets_places (n : Nat) (l : List Int) (h : l.Perm (places n)) : mets n l = List.replicate n 1 := by
  refine List.ext_getElem (by simp) ?_
  intro i h1 h2
  have hi : i < n := by simpa using h1
  have hc : l.count (i : Int) = 1 := by
    rw [h.count_eq, (places_nodup n).count, if_pos ((places_mem n i).2 (by omega))]
  simp [mets, hc]

end Go.Proofs.Ytojabjdpjnmkdaa
