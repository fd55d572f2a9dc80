/- appending what reads as a list; equality of lists; List and Write for any mask -/
import Derived.Test.YtbjehiagaikhoaaProg
import Derived.Test.YtbjehiagaikhoaaCardRP
namespace Go.Proofs.Ytbjehiagaikhoaa
open Go.RowKit
set_option linter.unusedVariables false
set_option linter.unusedSimpArgs false
set_option maxRecDepth 100000
set_option maxHeartbeats 1000000

/-- a walk stands here -/
def Stop (p : Prop) : Prop := p
theorem stop_of {p : Prop} (h : Stop p) : p := h

theorem grown_refl (w : World) (r : Option Nat) : w.grownBy w r := by
  constructor <;> intros <;> first | rfl | omega | trivial

theorem wpList_append_rd {P : Program} {w : World} {ops : Array Oper} {rest : List Oper} {o : Oper} {a : Act} {Q : Exit → Act → World → Prop} (hw : Region.wanted o (yielded ops a.tmps) = true) (s x : Operand) (t : TypeId)
    (ho : o.op = .call { callee := .builtin .append, args := #[s, x], argTypes := #[t, t] })
    (base : Nat) (e : TypeId) (i : TypeInfo) (z : Value) (size bytes : Nat) (ht : P.underlying t = some (.slice e)) (hi : P.info? e = some i) (hz : i.zero = some z)
    (hsize : i.size = size) (hby : i.bytes = bytes) (hzs : z.cells.size = size) (hsz : 0 < size)
    (v : Value) (n : Nat) (xs : List Value) (hs : a.eval s = v) (hown : w.ownsRow base e size v n xs)
    (vx : Value) (m : Nat) (news : List Value) (B : Nat) (hx : a.eval x = vx) (hrd : Rd B w size vx m news) (h1 : ∀ u ∈ news, u.oneCell' = true)
    (h63 : n + m ≤ maxLen) (hbytes : (n + m) * bytes ≤ 140737488355328) (hbase : base ≤ w.heap.size)
    (h : ∀ v' w', w'.ownsRow base e size v' (n + m) (xs ++ news) → w.grownBy w' v.ownBlock → wpList P ops Q rest (a.put o.dst v') w') :
    wpList P ops Q (o :: rest) a w := by
  refine wpList_step fun K hK => ?_
  rw [if_pos hw]
  rcases hrd.2 with ⟨rfl, ad, c, rfl, hc⟩ | ⟨h0, b, off, c, rfl, hlt, hB, hn1, hn2, hcell⟩
  · have hn0 : news = [] := List.eq_nil_of_length_eq_zero (by simpa using hrd.1)
    subst hn0
    cases ad with
    | none =>
      obtain rfl := hc rfl
      have hrun := run_append_owned_none (P := P) (w := w) base t o.type e i size ht hi v n xs hown
      unfold Oper.wp
      simp [execOp, ho, resolve, invoke, builtin, hs, hx, hrun, Result.andThen]
      exact hK _ _ (h v w (by simpa using hown) (grown_refl _ _))
    | some ad =>
      exact wp_append_own w s x t ho base e i z size bytes ht hi hz hsize hby hzs hsz v n xs hs hown ad 0 c [] hx (by simp) (by simp) (by simp) h63 hbytes hbase (fun v' w' h2 h3 _ => hK _ _ (h v' w' h2 h3))
  · exact wp_append_own w s x t ho base e i z size bytes ht hi hz hsize hby hzs hsz v n xs hs hown ⟨b, off, none⟩ m c news hx hrd.1
      (fun j u hu => by
        rw [addr_add, hcell j (by have := (List.getElem?_eq_some_iff.1 hu).1; have := hrd.1; omega)]
        exact hu) h1 h63 hbytes hbase (fun v' w' h2 h3 _ => hK _ _ (h v' w' h2 h3))

theorem ownEmpty (w : World) (t : TypeId) : (w.alloc (.cells #[] t)).ownsRow w.heap.size t 1 (.slice (some ⟨w.heap.size, 0, none⟩) 0 0) 0 [] :=
  ⟨rfl, .inr ⟨w.heap.size, 0, #[], rfl, Nat.le_refl _, Row.new w t #[], by simp, by simp [maxLen], rfl, rfl⟩⟩

theorem rdNew (w : World) (t : TypeId) (xs : List Value) (h0 : 0 < xs.length) (h1 : xs.length ≤ maxLen) :
    Rd (w.alloc (.cells xs.toArray t)).heap.size (w.alloc (.cells xs.toArray t)) 1 (.slice (some ⟨w.heap.size, 0, none⟩) xs.length xs.length) xs.length xs := by
  refine ⟨by omega, .inr ⟨h0, _, _, _, rfl, by simp, Nat.le_refl _, Nat.le_refl _, h1, fun j hj => ?_⟩⟩
  rw [Nat.zero_add, (Row.new w t xs.toArray).cell]
  simp

theorem rdPrefix {w : World} {base : Nat} {e : TypeId} {g c : Nat} {l r : List Nat} (h : w.ownsRow base e 1 (.slice (some ⟨g, 0, none⟩) (l.length + r.length) c) (l.length + r.length) (bys (l ++ r))) (hr : 0 < r.length) :
    Rd w.heap.size w 1 (.slice (some ⟨g, 0, none⟩) l.length c) l.length (bys l) := by
  obtain ⟨g', hg', -, hg, -, h2, h3⟩ := own_some h (by omega)
  cases hg'
  refine ⟨by simp, ?_⟩
  rcases Nat.eq_zero_or_pos l.length with h0 | h0
  · exact .inl ⟨h0, _, _, by rw [h0], fun h => by cases h⟩
  · refine .inr ⟨h0, g, 0, c, rfl, hg, Nat.le_refl _, by omega, h3, fun j hj => ?_⟩
    rw [Nat.zero_add, h.cellAt j (by omega), bys_append, List.getElem?_append_left (by simp; omega)]

/-- string(b) of what reads as a list of bytes -/
theorem run_str_rd (w : World) (v : Value) (l : List Nat) (B : Nat) (h : Rd B w 1 v l.length (bys l)) (hl : ∀ c ∈ l, c < 256) :
    (convert 37 9 v).run Try.prog w = .ok (.string ⟨(l.map fun c => UInt8.ofNat c).toArray⟩) w := by
  rcases h.2 with ⟨h0, ad, c, rfl, hc⟩ | ⟨h0, b, off, c, rfl, hlt, hB, hn1, hn2, hcell⟩
  · have hn0 : l = [] := List.eq_nil_of_length_eq_zero h0
    subst hn0
    cases ad with
    | none =>
      obtain rfl := hc rfl
      exact run_convert_bytes_nil w 37 5 Try.underlying37 Try.underlying5 0 0 9 Try.underlying9
    | some ad =>
      exact run_convert_bytes_back (P := Try.prog) w 37 9 5 ad c [] Try.underlying37 Try.underlying5 Try.underlying9 (by simp)
  · have hlen : (l.map fun c => UInt8.ofNat c).length = l.length := by simp
    rw [← hlen]
    refine run_convert_bytes_back (P := Try.prog) w 37 9 5 ⟨b, off, none⟩ c (l.map fun c => UInt8.ofNat c) Try.underlying37 Try.underlying5 Try.underlying9 ?_
    intro j hj
    have hjl : j < l.length := by simpa using hj
    rw [addr_add, hcell j (by omega)]
    have := bys_get (List.getElem?_eq_getElem hjl)
    rw [this, List.getElem_map, UInt8.toNat_ofNat']
    have h256 := hl _ (List.getElem_mem hjl)
    simp
    omega

theorem same_true (v1 v2 : Value) (l : List Nat) (w : World) (h1 : Rd w.heap.size w 1 v1 l.length (bys l)) (h2 : Rd w.heap.size w 1 v2 l.length (bys l)) (hl : ∀ c ∈ l, c < 256) :
    Calls Try.prog 40 #[v1, v2] w fun e w' => e = .returned (.bool true) ∧ w = w' := by
  have e1 := run_str_rd w v1 l _ h1 hl
  have e2 := run_str_rd w v2 l _ h2 hl
  obtain ⟨a1, c1, rfl⟩ := h1.shape
  obtain ⟨a2, c2, rfl⟩ := h2.shape
  obtain ⟨S, hS⟩ : ∃ S, (l.map fun c => UInt8.ofNat c) = S := ⟨_, rfl⟩
  rw [hS] at e1 e2
  clear hS h1 h2 hl
  obtain ⟨n, hn⟩ : ∃ n, l.length = n := ⟨_, rfl⟩
  rw [hn] at e1 e2 ⊢
  clear hn
  go_enter Try.func40, Try.ntmps40
  go_wp2
  go_ret
  exact ⟨rfl, rfl⟩

/-- what the list of a mask is -/
def listN (m : Nat) : List Nat := if m < 4503599627370496 then downs m 52 else []
def errN (m : Nat) : Nat := if m < 4503599627370496 then 0 else 41
def textN (m : Nat) : List UInt8 := if m < 4503599627370496 then wtext m else []

theorem listN_lt (m : Nat) : (∀ c ∈ listN m, c < 52) ∧ (listN m).length ≤ 52 := by
  unfold listN
  split
  · exact ⟨downs_lt m 52, downs_len m 52⟩
  · exact ⟨by simp, by simp⟩

def SomeRowE (B : Nat) (W w' : World) (L : List Nat) (E : Nat) (e : Ending) : Prop := ∃ v, e = .returned (.tuple #[v, .int .i64 (E : Int)]) ∧ w'.ownsRow B 5 1 v L.length (bys L) ∧ Below B W w'

theorem List_all (m : Nat) (w : World) (hm : m < 18446744073709551616) :
    Calls Try.prog 21 #[.int .u64 (m : Int)] w fun e w' => SomeRowE w.heap.size w w' (listN m) (errN m) e := by
  unfold listN errN
  by_cases h : m < 4503599627370496
  · rw [if_pos h, if_pos h]
    exact (List_yes m w h).mono fun e w' h => h
  · rw [if_neg h, if_neg h]
    refine (List_no m w hm h).mono fun e w' ⟨he, hw⟩ => ?_
    subst hw
    exact ⟨_, he, ⟨rfl, .inl ⟨rfl, rfl⟩⟩, Below.refl _ _⟩

theorem RList_all (m : Nat) (w : World) (hm : m < 18446744073709551616) :
    Calls Try.prog 28 #[.int .u64 (m : Int)] w fun e w' => SomeRowE w.heap.size w w' (listN m) (errN m) e := by
  unfold listN errN
  by_cases h : m < 4503599627370496
  · rw [if_pos h, if_pos h]
    exact (RList_yes m w h).mono fun e w' h => h
  · rw [if_neg h, if_neg h]
    refine (RList_no m w hm h).mono fun e w' ⟨he, hw⟩ => ?_
    subst hw
    exact ⟨_, he, ⟨rfl, .inl ⟨rfl, rfl⟩⟩, Below.refl _ _⟩

theorem Write_all (m : Nat) (w : World) (hm : m < 18446744073709551616) :
    Calls Try.prog 19 #[.int .u64 (m : Int)] w fun e w' => e = .returned (.tuple #[vS (textN m), .int .i64 (errN m : Nat)]) ∧ Below w.heap.size w w' := by
  unfold textN errN
  by_cases h : m < 4503599627370496
  · rw [if_pos h, if_pos h]
    exact Write_yes m w h
  · rw [if_neg h, if_neg h]
    exact (Write_no m w hm h).mono fun e w' ⟨he, hw⟩ => ⟨he, by subst hw; exact Below.refl _ _⟩

theorem RWrite_all (m : Nat) (w : World) (hm : m < 18446744073709551616) :
    Calls Try.prog 27 #[.int .u64 (m : Int)] w fun e w' => e = .returned (.tuple #[vS (textN m), .int .i64 (errN m : Nat)]) ∧ Below w.heap.size w w' := by
  unfold textN errN
  by_cases h : m < 4503599627370496
  · rw [if_pos h, if_pos h]
    exact RWrite_yes m w h
  · rw [if_neg h, if_neg h]
    exact (RWrite_no m w hm h).mono fun e w' ⟨he, hw⟩ => ⟨he, by subst hw; exact Below.refl _ _⟩

end Go.Proofs.Ytbjehiagaikhoaa
