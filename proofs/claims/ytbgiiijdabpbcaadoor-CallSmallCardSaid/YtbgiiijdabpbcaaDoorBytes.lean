/- slices of bytes and their strings -/
import Derived.Test.YtbgiiijdabpbcaaDoorProg
import Derived.Test.YtbgiiijdabpbcaaDoorIter
import Derived.Laws.IdiomStrings
import Derived.Laws.BytesArg
import Derived.ArgAppend
namespace Go.Proofs.YtbgiiijdabpbcaaDoor
open Go.RowKit
set_option linter.unusedVariables false
set_option linter.unusedSimpArgs false
set_option maxRecDepth 100000
set_option maxHeartbeats 1000000

theorem ret_b {a b : Bool} (h : a = b) : Ending.returned (.bool a) = .returned (.bool b) := by rw [h]
abbrev vS (l : List UInt8) : Value := .string ⟨l.toArray⟩

/-- a list of bytes as cells -/
def bys (l : List Nat) : List Value := l.map fun (c : Nat) => .int .u8 (c : Int)
@[simp] theorem bys_length (l : List Nat) : (bys l).length = l.length := by simp [bys]
theorem bys_get {l : List Nat} {j c : Nat} (h : l[j]? = some c) : (bys l)[j]? = some (.int .u8 (c : Int)) := by simp [bys, h]
theorem bys_append (l m : List Nat) : bys (l ++ m) = bys l ++ bys m := by simp [bys]
theorem bys_one (l : List Nat) : ∀ u ∈ bys l, u.oneCell' = true := by
  intro u hu
  simp only [bys, List.mem_map] at hu
  obtain ⟨c, _, rfl⟩ := hu
  rfl

theorem own_putObj {w : World} {base r : Nat} {e : TypeId} {size : Nat} {v : Value} {n : Nat} {xs : List Value} (h : w.ownsRow base e size v n xs) (hr : r < base) (o : Obj) : (w.putObj r o).ownsRow base e size v n xs := by
  refine ⟨h.1, ?_⟩
  rcases h.2 with h | ⟨g, cap, cur, rfl, hb', hg, q⟩
  · exact .inl h
  · exact .inr ⟨g, cap, cur, rfl, hb', (World.putObj_heap_other (by omega)).trans hg, q⟩

theorem own_other {w : World} {base r j : Nat} {e : TypeId} {size : Nat} {v : Value} {n : Nat} {xs : List Value} (h : w.ownsRow base e size v n xs) (hr : r < base) (x : Value) : (w.setCell ⟨r, j, none⟩ x).ownsRow base e size v n xs := by
  refine ⟨h.1, ?_⟩
  rcases h.2 with h | ⟨g, cap, cur, rfl, hb', hg, q⟩
  · exact .inl h
  · exact .inr ⟨g, cap, cur, rfl, hb', (Below.heap_setCell w ⟨r, j, none⟩ x g (by show g ≠ r; omega)).trans hg, q⟩

theorem info_u8 : (Tryd.prog.info? 5).map (fun i => (i.zero, i.size, i.bytes)) = some (some (.int .u8 0), 1, 1) := by kernel_rfl

/-- string([]byte{b}) where its cell is known -/
theorem one_str2 (w : World) (g : Nat) (b : UInt8) (h : w.cell? ⟨g, 0, none⟩ = some (.int .u8 (b.toNat : Int))) :
    (convert 24 9 (.slice (some ⟨g, 0, none⟩) 1 1)).run Tryd.prog w = .ok (.string ⟨#[b]⟩) w := by
  refine run_convert_bytes_back (P := Tryd.prog) w 24 9 5 ⟨g, 0, none⟩ 1 [b] Tryd.underlying24 Tryd.underlying5 Tryd.underlying9 ?_
  intro j hj
  have hj0 : j = 0 := by simpa using hj
  subst hj0
  rw [addr_add]
  exact h

theorem cell_behind {w w8 : World} {x : Value} {t : TypeId} (hb : Below ((w.alloc (.cells #[x] t)).drew).heap.size ((w.alloc (.cells #[x] t)).drew) w8) : w8.cell? ⟨w.heap.size, 0, none⟩ = some x := by
  refine (hb.cell (p := ⟨w.heap.size, 0, none⟩) (by simp)).trans ?_
  exact (Row.new w t #[x]).cell 0

/-- a walk stands here -/
def Stop (p : Prop) : Prop := p
theorem stop_of {p : Prop} (h : Stop p) : p := h

theorem grown_refl (w : World) (r : Option Nat) : w.grownBy w r := by
  constructor <;> intros <;> first | rfl | omega | trivial

theorem wpList_append_rd {P : Program} {w : World} {ops : Array Oper} {rest : List Oper} {o : Oper} {a : Act} {Q : Exit → Act → World → Prop} (hw : Region.wanted o (yielded ops a.tmps) = true) (s x : Operand) (t : TypeId)
    (ho : o.op = .call { callee := .builtin .append, args := #[s, x], argTypes := #[t, t] })
    (base : Nat) (e : TypeId) (i : TypeInfo) (z : Value) (size bytes : Nat) (ht : P.underlying t = some (.slice e)) (hi : P.info? e = some i) (hz : i.zero = some z)
    (hsize : i.size = size) (hby : i.bytes = bytes) (hzs : z.cells.size = size) (hsz : 0 < size)
    (v : Value) (n : Nat) (xs : List Value) (hs : a.eval s = v) (hown : w.ownsRow base e size v n xs)
    (vx : Value) (m : Nat) (news : List Value) (B : Nat) (hx : a.eval x = vx) (hrd : Rd B w size vx m news) (h1 : ∀ u ∈ news, u.oneCell' = true)
    (h63 : n + m ≤ maxLen) (hbytes : (n + m) * bytes ≤ 140737488355328) (hbase : base ≤ w.heap.size)
    (h : ∀ v' w', w'.ownsRow base e size v' (n + m) (xs ++ news) → w.grownBy w' v.ownBlock → wpList P ops Q rest (a.put o.dst v') w') :
    wpList P ops Q (o :: rest) a w := by
  refine wpList_step fun K hK => ?_
  rw [if_pos hw]
  rcases hrd.2 with ⟨rfl, ad, c, rfl, hc⟩ | ⟨h0, b, off, c, rfl, hlt, hB, hn1, hn2, hcell⟩
  · have hn0 : news = [] := List.eq_nil_of_length_eq_zero (by simpa using hrd.1)
    subst hn0
    cases ad with
    | none =>
      obtain rfl := hc rfl
      have hrun := run_append_owned_none (P := P) (w := w) base t o.type e i size ht hi v n xs hown
      unfold Oper.wp
      simp [execOp, ho, resolve, invoke, builtin, hs, hx, hrun, Result.andThen]
      exact hK _ _ (h v w (by simpa using hown) (grown_refl _ _))
    | some ad =>
      exact wp_append_own w s x t ho base e i z size bytes ht hi hz hsize hby hzs hsz v n xs hs hown ad 0 c [] hx (by simp) (by simp) (by simp) h63 hbytes hbase (fun v' w' h2 h3 _ => hK _ _ (h v' w' h2 h3))
  · exact wp_append_own w s x t ho base e i z size bytes ht hi hz hsize hby hzs hsz v n xs hs hown ⟨b, off, none⟩ m c news hx hrd.1
      (fun j u hu => by
        rw [addr_add, hcell j (by have := (List.getElem?_eq_some_iff.1 hu).1; have := hrd.1; omega)]
        exact hu) h1 h63 hbytes hbase (fun v' w' h2 h3 _ => hK _ _ (h v' w' h2 h3))

theorem ownEmpty (w : World) (t : TypeId) : (w.alloc (.cells #[] t)).ownsRow w.heap.size t 1 (.slice (some ⟨w.heap.size, 0, none⟩) 0 0) 0 [] :=
  ⟨rfl, .inr ⟨w.heap.size, 0, #[], rfl, Nat.le_refl _, Row.new w t #[], by simp, by simp [maxLen], rfl, rfl⟩⟩

theorem rdNew (w : World) (t : TypeId) (xs : List Value) (h0 : 0 < xs.length) (h1 : xs.length ≤ maxLen) :
    Rd (w.alloc (.cells xs.toArray t)).heap.size (w.alloc (.cells xs.toArray t)) 1 (.slice (some ⟨w.heap.size, 0, none⟩) xs.length xs.length) xs.length xs := by
  refine ⟨by omega, .inr ⟨h0, _, _, _, rfl, by simp, Nat.le_refl _, Nat.le_refl _, h1, fun j hj => ?_⟩⟩
  rw [Nat.zero_add, (Row.new w t xs.toArray).cell]
  simp

theorem rdPrefix {w : World} {base : Nat} {e : TypeId} {g c : Nat} {l r : List Nat} (h : w.ownsRow base e 1 (.slice (some ⟨g, 0, none⟩) (l.length + r.length) c) (l.length + r.length) (bys (l ++ r))) (hr : 0 < r.length) :
    Rd w.heap.size w 1 (.slice (some ⟨g, 0, none⟩) l.length c) l.length (bys l) := by
  obtain ⟨g', hg', -, hg, -, h2, h3⟩ := own_some h (by omega)
  cases hg'
  refine ⟨by simp, ?_⟩
  rcases Nat.eq_zero_or_pos l.length with h0 | h0
  · exact .inl ⟨h0, _, _, by rw [h0], fun h => by cases h⟩
  · refine .inr ⟨h0, g, 0, c, rfl, hg, Nat.le_refl _, by omega, h3, fun j hj => ?_⟩
    rw [Nat.zero_add, h.cellAt j (by omega), bys_append, List.getElem?_append_left (by simp; omega)]

/-- string(b) of what reads as a list of bytes -/
theorem run_str_rd (w : World) (v : Value) (l : List Nat) (B : Nat) (h : Rd B w 1 v l.length (bys l)) (hl : ∀ c ∈ l, c < 256) :
    (convert 24 9 v).run Tryd.prog w = .ok (.string ⟨(l.map fun c => UInt8.ofNat c).toArray⟩) w := by
  rcases h.2 with ⟨h0, ad, c, rfl, hc⟩ | ⟨h0, b, off, c, rfl, hlt, hB, hn1, hn2, hcell⟩
  · have hn0 : l = [] := List.eq_nil_of_length_eq_zero h0
    subst hn0
    cases ad with
    | none =>
      obtain rfl := hc rfl
      exact run_convert_bytes_nil w 24 5 Tryd.underlying24 Tryd.underlying5 0 0 9 Tryd.underlying9
    | some ad =>
      exact run_convert_bytes_back (P := Tryd.prog) w 24 9 5 ad c [] Tryd.underlying24 Tryd.underlying5 Tryd.underlying9 (by simp)
  · have hlen : (l.map fun c => UInt8.ofNat c).length = l.length := by simp
    rw [← hlen]
    refine run_convert_bytes_back (P := Tryd.prog) w 24 9 5 ⟨b, off, none⟩ c (l.map fun c => UInt8.ofNat c) Tryd.underlying24 Tryd.underlying5 Tryd.underlying9 ?_
    intro j hj
    have hjl : j < l.length := by simpa using hj
    rw [addr_add, hcell j (by omega)]
    have := bys_get (List.getElem?_eq_getElem hjl)
    rw [this, List.getElem_map, UInt8.toNat_ofNat']
    have h256 := hl _ (List.getElem_mem hjl)
    simp
    omega

theorem grown_none {w w' : World} (h : w.grownBy w' none) (r : Option Nat) : w.grownBy w' r :=
  ⟨h.os, h.tape, h.output, h.size, fun k hk _ => h.block k hk (by simp)⟩

theorem run_append_keep {P : Program} (w : World) (base : Nat) (t ty e : TypeId) (i : TypeInfo) (z : Value) (size bytes : Nat) (ht : P.underlying t = some (.slice e)) (hi : P.info? e = some i) (hz : i.zero = some z)
    (hsize : i.size = size) (hby : i.bytes = bytes) (hzs : z.cells.size = size) (hsz : 0 < size)
    (v : Value) (n : Nat) (xs : List Value) (hown : w.ownsRow base e size v n xs)
    (a : Addr) (m c : Nat) (news : List Value) (hl : news.length = m * size) (hnews : ∀ j u, news[j]? = some u → w.cell? (a.add j) = some u) (h1 : ∀ u ∈ news, u.oneCell' = true)
    (h63 : n + m ≤ maxLen) (hbytes : (n + m) * bytes ≤ 140737488355328) (hbase : base ≤ w.heap.size) :
    ∃ v' w', (Builtin.append_ #[t, t] ty #[v, .slice (some a) m c]).run P w = .ok v' w' ∧ w'.ownsRow base e size v' (n + m) (xs ++ news) ∧ w'.ownsRow base e size v n xs ∧ w.grownBy w' v.ownBlock := by
  rcases hown.2 with ⟨rfl, rfl⟩ | ⟨g, cap, cur, rfl, hbg, hg, hnc, hcm, hcs, htake⟩
  · obtain ⟨v', w', hr, h2, h3, _⟩ := run_append_own (P := P) w base t ty e i z size bytes ht hi hz hsize hby hzs hsz _ 0 xs hown a m c news hl hnews h1 h63 hbytes hbase
    exact ⟨v', w', hr, h2, ⟨hown.1, .inl ⟨rfl, rfl⟩⟩, h3⟩
  · by_cases hroom : n + m ≤ cap
    · subst hsize
      have hlen : (xs ++ news).length = (n + m) * i.size := by rw [List.length_append, hown.1, hl, Nat.add_mul]
      have hfit : n * i.size + news.length ≤ cur.size := by rw [hl, hcs, ← Nat.add_mul]; exact Nat.mul_le_mul_right _ hroom
      have hr := run_append_room (P := P) w t ty e i ht hi g n cap cur hg a m c news hl hnews h1 hroom hfit
      rw [htake] at hr
      have hs : ((xs ++ news ++ cur.toList.drop (n * i.size + news.length)).toArray).size = cap * i.size := by
        rw [List.size_toArray, List.length_append, hlen, List.length_drop, Array.length_toList, hcs, Nat.add_mul, hl, ← Nat.add_mul, ← Nat.sub_mul, ← Nat.add_mul]
        congr 1
        omega
      have hh := setRow_heap w g cur (xs ++ news ++ cur.toList.drop (n * i.size + news.length)).toArray e (0, 0) hg
      refine ⟨_, _, hr, ⟨hlen, .inr ⟨g, cap, _, rfl, hbg, hh, hroom, hcm, hs, ?_⟩⟩, ⟨hown.1, .inr ⟨g, cap, _, rfl, hbg, hh, hnc, hcm, hs, ?_⟩⟩, ⟨rfl, rfl, rfl, by simp, fun k _ hk => setRow_other w g k _ (fun e => hk (by simp [Value.ownBlock, e]))⟩⟩
      · rw [← hlen]; exact List.take_left
      · show List.take (n * i.size) (xs ++ news ++ _) = xs
        rw [← hown.1, List.append_assoc]
        exact List.take_left
    · have holds : ∀ j u, xs[j]? = some u → w.cell? ((⟨g, 0, none⟩ : Addr).add j) = some u := hown.cells (g := g) rfl
      obtain ⟨v', w', hr, h2, h3⟩ := run_append_arg_grows (P := P) w t ty e i z size bytes ht hi hz hsize hby hzs hsz ⟨g, 0, none⟩ n cap xs hown.1 holds a m c news hl hnews (by omega) h63 hbytes
      exact ⟨v', w', hr, own_mono h2 hbase, hown.kept h3 (.inr (by simp [Value.ownBlock])), grown_none h3 _⟩

theorem wpList_append_keep {P : Program} {w : World} {ops : Array Oper} {rest : List Oper} {o : Oper} {a : Act} {Q : Exit → Act → World → Prop} (hw : Region.wanted o (yielded ops a.tmps) = true) (s x : Operand) (t : TypeId)
    (ho : o.op = .call { callee := .builtin .append, args := #[s, x], argTypes := #[t, t] })
    (base : Nat) (e : TypeId) (i : TypeInfo) (z : Value) (size bytes : Nat) (ht : P.underlying t = some (.slice e)) (hi : P.info? e = some i) (hz : i.zero = some z)
    (hsize : i.size = size) (hby : i.bytes = bytes) (hzs : z.cells.size = size) (hsz : 0 < size)
    (v : Value) (n : Nat) (xs : List Value) (hs : a.eval s = v) (hown : w.ownsRow base e size v n xs)
    (ad : Addr) (m c : Nat) (news : List Value) (hx : a.eval x = .slice (some ad) m c) (hl : news.length = m * size) (hnews : ∀ j u, news[j]? = some u → w.cell? (ad.add j) = some u) (h1 : ∀ u ∈ news, u.oneCell' = true)
    (h63 : n + m ≤ maxLen) (hbytes : (n + m) * bytes ≤ 140737488355328) (hbase : base ≤ w.heap.size)
    (h : ∀ v' w', w'.ownsRow base e size v' (n + m) (xs ++ news) → w'.ownsRow base e size v n xs → w.grownBy w' v.ownBlock → wpList P ops Q rest (a.put o.dst v') w') :
    wpList P ops Q (o :: rest) a w := by
  refine wpList_step fun K hK => ?_
  rw [if_pos hw]
  obtain ⟨v', w', hr, h2, h3, h4⟩ := run_append_keep (P := P) w base t o.type e i z size bytes ht hi hz hsize hby hzs hsz v n xs hown ad m c news hl hnews h1 h63 hbytes hbase
  unfold Oper.wp execOp
  simp only [ho, resolve, invoke, builtin, Sem.run_bind, Sem.run_pure, Result.andThen_ok, List.map_toArray, List.map_cons, List.map_nil, hs, hx, hr]
  exact hK _ _ (h v' w' h2 h3 h4)

theorem cat_one (l : List UInt8) (b : UInt8) : (⟨l.toArray⟩ : ByteArray) ++ (⟨#[b]⟩ : ByteArray) = ⟨(l ++ [b]).toArray⟩ := by
  apply ByteArray.ext
  simp

theorem cat_front (l : List UInt8) (b : UInt8) : (⟨#[b]⟩ : ByteArray) ++ (⟨l.toArray⟩ : ByteArray) = ⟨(b :: l).toArray⟩ := by
  apply ByteArray.ext
  simp

theorem cat_two (l m : List UInt8) : (⟨l.toArray⟩ : ByteArray) ++ (⟨m.toArray⟩ : ByteArray) = ⟨(l ++ m).toArray⟩ := by
  apply ByteArray.ext
  simp

end Go.Proofs.YtbgiiijdabpbcaaDoor
