/- All pairs of numbers, short strings, lists at the limit. A closed statement. -/
import Derived.Test.YtbgiiijdabpbcaaDoorProg
import Derived.Test.YtbgiiijdabpbcaaDoorCallTells
import Derived.Test.YtbgiiijdabpbcaaDoorCallTexts
import Derived.Test.YtbgiiijdabpbcaaDoorShelf
import Derived.OwnWalk
import Derived.Deep.RegionWith
namespace Go.Proofs.YtbgiiijdabpbcaaDoor
open Go.RowKit
set_option linter.unusedVariables false
set_option linter.unusedSimpArgs false
set_option maxRecDepth 100000
set_option maxHeartbeats 4000000

theorem str1 (w : World) (g c : Nat) (hc : c < 256) (h : w.cell? ⟨g, 0, none⟩ = some (.int .u8 (c : Int))) :
    (convert 24 9 (.slice (some ⟨g, 0, none⟩) 1 1)).run Tryd.prog w = .ok (.string ⟨#[UInt8.ofNat c]⟩) w := by
  have e : (UInt8.ofNat c).toNat = c := by rw [UInt8.toNat_ofNat']; omega
  exact one_str2 w g (UInt8.ofNat c) (by rw [e]; exact h)

theorem str2 (w : World) (g c d : Nat) (hc : c < 256) (hd : d < 256) (h0 : w.cell? ⟨g, 0, none⟩ = some (.int .u8 (c : Int))) (h1 : w.cell? ⟨g, 1, none⟩ = some (.int .u8 (d : Int))) :
    (convert 24 9 (.slice (some ⟨g, 0, none⟩) 2 2)).run Tryd.prog w = .ok (.string ⟨#[UInt8.ofNat c, UInt8.ofNat d]⟩) w := by
  have e : (UInt8.ofNat c).toNat = c := by rw [UInt8.toNat_ofNat']; omega
  have e2 : (UInt8.ofNat d).toNat = d := by rw [UInt8.toNat_ofNat']; omega
  refine run_convert_bytes_back (P := Tryd.prog) w 24 9 5 ⟨g, 0, none⟩ 2 [UInt8.ofNat c, UInt8.ofNat d] Tryd.underlying24 Tryd.underlying5 Tryd.underlying9 ?_
  intro j hj
  have hj4 : j = 0 ∨ j = 1 := by simp at hj; omega
  rw [addr_add, Nat.zero_add]
  rcases hj4 with rfl | rfl
  · rw [h0]; simp [e]
  · rw [h1]; simp [e2]

theorem rd1 (w : World) (g a : Nat) (hg : g < w.heap.size) (h0 : w.cell? ⟨g, 0, none⟩ = some (.int .u8 (a : Int))) :
    Rd w.heap.size w 1 (.slice (some ⟨g, 0, none⟩) 1 1) [a].length (bys [a]) := by
  refine ⟨rfl, .inr ⟨by simp, g, 0, 1, rfl, hg, Nat.le_refl _, Nat.le_refl _, by simp [maxLen], fun j hj => ?_⟩⟩
  have hj3 : j = 0 := by simp at hj; omega
  subst hj3
  exact h0

theorem rd3 (w : World) (g a b c : Nat) (hg : g < w.heap.size) (h0 : w.cell? ⟨g, 0, none⟩ = some (.int .u8 (a : Int))) (h1 : w.cell? ⟨g, 1, none⟩ = some (.int .u8 (b : Int))) (h2 : w.cell? ⟨g, 2, none⟩ = some (.int .u8 (c : Int))) :
    Rd w.heap.size w 1 (.slice (some ⟨g, 0, none⟩) 3 3) [a, b, c].length (bys [a, b, c]) := by
  refine ⟨rfl, .inr ⟨by simp, g, 0, 3, rfl, hg, Nat.le_refl _, Nat.le_refl _, by simp [maxLen], fun j hj => ?_⟩⟩
  have hj3 : j = 0 ∨ j = 1 ∨ j = 2 := by simp at hj; omega
  rcases hj3 with rfl | rfl | rfl
  · exact h0
  · exact h1
  · exact h2

theorem texts_on {w : World} (w1 : World) (hden : Den w) (hsh : w.ShapedOpen Tryd.prog) (hB : Below w.heap.size w w1) (v : Value) (l : List Nat) (s : ByteArray) (hrd : Rd w1.heap.size w1 1 v l.length (bys l)) (hl : ∀ c ∈ l, c < 256) (hll : l.length ≤ 1000) (hs : s.size ≤ 1400) :
    Calls Tryd.prog 12 #[v, .string s] w1 fun e w' => e = .returned (.bool true) ∧ Below w.heap.size w w' := by
  refine (texts_yes v l s w1 hrd hl hll hs (hden.below hB hden.2) (shaped_later hsh hB (Nat.le_refl _))).mono ?_
  rintro e w' ⟨rfl, hb⟩
  exact ⟨rfl, hB.trans (hb.mono hB.size)⟩

theorem tells_on {w : World} (w1 : World) (c d : Nat) (hc : c < 256) (hd : d < 256) (hden : Den w) (hB : Below w.heap.size w w1) :
    Calls Tryd.prog 10 #[.int .u8 (c : Int), .int .u8 (d : Int)] w1 fun e w' => e = .returned (.bool true) ∧ Below w.heap.size w w' := by
  refine (tells_any c d w1 hc hd (hden.below hB hden.2)).mono ?_
  rintro e w' ⟨rfl, hb⟩
  exact ⟨rfl, hB.trans (hb.mono hB.size)⟩

theorem rd_pair (w1 : World) (t : TypeId) (c : Nat) (x : Array Value) : Rd ((w1.alloc (.cells #[.int .u8 (c : Int)] t)).alloc (.cells x t)).heap.size ((w1.alloc (.cells #[.int .u8 (c : Int)] t)).alloc (.cells x t)) 1 (.slice (some ⟨w1.heap.size, 0, none⟩) 1 1) [c].length (bys [c]) := by
  refine rd1 _ _ c (by simp; omega) ?_
  exact ((Row.new w1 t #[.int .u8 (c : Int)]).alloc _).cell 0

abbrev sevenS (b : UInt8) : Array Value := #[.string ((⟨#[49, 78]⟩ : ByteArray) ++ (⟨#[b]⟩ : ByteArray)), .string ((⟨#[b]⟩ : ByteArray) ++ (⟨#[78, 84]⟩ : ByteArray)), .string ((⟨#[88]⟩ : ByteArray) ++ (⟨#[b]⟩ : ByteArray) ++ (⟨#[88]⟩ : ByteArray)), .string ((⟨#[80]⟩ : ByteArray) ++ (⟨#[b]⟩ : ByteArray) ++ (⟨#[80]⟩ : ByteArray)), .string ((⟨#[55]⟩ : ByteArray) ++ (⟨#[b]⟩ : ByteArray) ++ (⟨#[84]⟩ : ByteArray)), .string ((⟨#[80, 32, 80]⟩ : ByteArray) ++ (⟨#[b]⟩ : ByteArray)), .string ⟨#[b]⟩]

theorem sevenS_get (b : UInt8) (i : Nat) (h : i < 7) : ∃ S : ByteArray, (sevenS b)[i]? = some (.string S) ∧ S.size ≤ 10 := by
  have h7 : i = 0 ∨ i = 1 ∨ i = 2 ∨ i = 3 ∨ i = 4 ∨ i = 5 ∨ i = 6 := by omega
  rcases h7 with rfl | rfl | rfl | rfl | rfl | rfl | rfl
  · exact ⟨_, rfl, by rw [ByteArray.size_append]; show 2 + 1 ≤ 10; decide⟩
  · exact ⟨_, rfl, by rw [ByteArray.size_append]; show 1 + 2 ≤ 10; decide⟩
  · exact ⟨_, rfl, by rw [ByteArray.size_append, ByteArray.size_append]; show 1 + 1 + 1 ≤ 10; decide⟩
  · exact ⟨_, rfl, by rw [ByteArray.size_append, ByteArray.size_append]; show 1 + 1 + 1 ≤ 10; decide⟩
  · exact ⟨_, rfl, by rw [ByteArray.size_append, ByteArray.size_append]; show 1 + 1 + 1 ≤ 10; decide⟩
  · exact ⟨_, rfl, by rw [ByteArray.size_append]; show 3 + 1 ≤ 10; decide⟩
  · exact ⟨_, rfl, by show 1 ≤ 10; decide⟩

theorem eight {w wr : World} (hB : Below w.heap.size w wr) (t u : TypeId) (a ST : Array Value) :
    Below w.heap.size w ((((((((wr.alloc (.cells a t)).alloc (.cells a t)).alloc (.cells a t)).alloc (.cells a t)).alloc (.cells a t)).alloc (.cells a t)).alloc (.cells a t)).alloc (.cells ST u)) ∧
    Row ((((((((wr.alloc (.cells a t)).alloc (.cells a t)).alloc (.cells a t)).alloc (.cells a t)).alloc (.cells a t)).alloc (.cells a t)).alloc (.cells a t)).alloc (.cells ST u)) (wr.heap.size + 1 + 1 + 1 + 1 + 1 + 1 + 1) u ST := by
  obtain ⟨X, hX⟩ : ∃ X, (((((((wr.alloc (.cells a t)).alloc (.cells a t)).alloc (.cells a t)).alloc (.cells a t)).alloc (.cells a t)).alloc (.cells a t)).alloc (.cells a t)) = X := ⟨_, rfl⟩
  have h1 : Below w.heap.size w X := by
    rw [← hX]
    have s := hB.size
    refine ((((((hB.alloc ?_ _).alloc ?_ _).alloc ?_ _).alloc ?_ _).alloc ?_ _).alloc ?_ _).alloc ?_ _ <;> (try simp only [World.size_alloc]) <;> omega
  have h2 : X.heap.size = wr.heap.size + 1 + 1 + 1 + 1 + 1 + 1 + 1 := by rw [← hX]; simp only [World.size_alloc]
  rw [hX, ← h2]
  exact ⟨h1.alloc h1.size _, Row.new X u ST⟩

theorem rep_size (l : List UInt8) (c : Nat) : (⟨(Lib.repeatL l c).toArray⟩ : ByteArray).size = c * l.length := by
  rw [← Lib.repeatL_length]
  simp [ByteArray.size]

theorem CallSmall_walk (w : World) (hden : Den w) (hsh : w.ShapedOpen Tryd.prog) : Calls Tryd.prog 8 #[] w fun e w' => e = .returned (.bool true) ∧ Below w.heap.size w w' := by
  obtain ⟨i0, hinf, hz0, hz1, hz2⟩ := info_parts info_u8
  have HW := Lib.hid (And.intro hden hsh)
  have h00 := hden.2
  clear hden hsh
  go_enter Tryd.func8, Tryd.ntmps8
  go_wp2_with fail
  go_loopw [1] (fun c wr => ∃ c' : Nat, c = .int .i64 c' ∧ c' ≤ 256 ∧ Below w.heap.size w wr) (fun c _ => 256 - (intOf c).toNat)
  case atStart => exact ⟨0, rfl, by omega, Below.refl _ _⟩
  case round =>
    obtain ⟨c, rfl, hc, hB⟩ := hrel
    by_cases h256 : c < 256
    · have hcd : decide ((c : Int) < 256) = true := by simp; omega
      obtain ⟨W, rfl⟩ : ∃ W : World, W = wr := ⟨_, rfl⟩
      go_wp2_with fail
      go_loopw [2] (fun d wr => ∃ d' : Nat, d = .int .i64 d' ∧ d' ≤ 256 ∧ Below w.heap.size w wr) (fun d _ => 256 - (intOf d).toNat)
      case atStart => exact ⟨0, rfl, by omega, hB⟩
      case round =>
        clear hB
        obtain ⟨d, rfl, hd, hB⟩ := hrel
        have hwc : IntKind.u8.wrap (c : Int) = (c : Int) := by rw [IntKind.wrap_u8]; omega
        by_cases h2 : d < 256
        · have hwd : IntKind.u8.wrap (d : Int) = (d : Int) := by rw [IntKind.wrap_u8]; omega
          have hcv1 := fun w g => str1 w g c h256
          have hcv2 := fun w g => str2 w g c d h256 h2
          have hl1 : ∀ x ∈ [c], x < 256 := by intro x hx; simp at hx; omega
          have HL1 := Lib.hid hl1
          clear hl1
          by_cases h45 : c < 45
          · have g1 : decide ((c : Int) < 45) = true := by simp; omega
            have g2 : decide (c < 45) = true := by simpa using h45
            go_wp2_with (first
              | (go_at_call 10; refine (tells_on _ c d (by omega) (by omega) HW.out.1 hB).mono ?_; rintro e w8 ⟨rfl, hb8⟩; clear hB; have hB := hb8; clear hb8)
              | (go_at_call 12; refine (texts_on _ HW.out.1 HW.out.2 ((hB.alloc hB.size _).alloc (hB.alloc hB.size _).size _) _ [c] _ (rd_pair _ _ _ _) HL1.out (by simp) (by show 2 ≤ 1400; decide)).mono ?_; rintro e w9 ⟨rfl, hb9⟩))
            go_roundw
            case rel => exact ⟨d + 1, by go_num, by omega, hb9⟩
            case measure => simp [intOf]; omega
          · have g1 : decide ((c : Int) < 45) = false := by simp; omega
            have g2 : decide (c < 45) = false := by simpa using h45
            by_cases h45d : d < 45
            · have g3 : decide ((d : Int) < 45) = true := by simp; omega
              have g4 : decide (d < 45) = true := by simpa using h45d
              go_wp2_with (first
                | (go_at_call 10; refine (tells_on _ c d (by omega) (by omega) HW.out.1 hB).mono ?_; rintro e w8 ⟨rfl, hb8⟩; clear hB; have hB := hb8; clear hb8)
                | (go_at_call 12; refine (texts_on _ HW.out.1 HW.out.2 ((hB.alloc hB.size _).alloc (hB.alloc hB.size _).size _) _ [c] _ (rd_pair _ _ _ _) HL1.out (by simp) (by show 2 ≤ 1400; decide)).mono ?_; rintro e w9 ⟨rfl, hb9⟩))
              go_roundw
              case rel => exact ⟨d + 1, by go_num, by omega, hb9⟩
              case measure => simp [intOf]; omega
            · have g3 : decide ((d : Int) < 45) = false := by simp; omega
              have g4 : decide (d < 45) = false := by simpa using h45d
              go_wp2_with (first
                | (go_at_call 12; refine (texts_on _ HW.out.1 HW.out.2 ((hB.alloc hB.size _).alloc (hB.alloc hB.size _).size _) _ [c] _ (rd_pair _ _ _ _) HL1.out (by simp) (by show 2 ≤ 1400; decide)).mono ?_; rintro e w9 ⟨rfl, hb9⟩))
              go_roundw
              case rel => exact ⟨d + 1, by go_num, by omega, hb9⟩
              case measure => simp [intOf]; omega
        · have hcv1 := fun w g => str1 w g c h256
          have hdd : decide ((d : Int) < 256) = false := by simp; omega
          go_wp2_with fail
          obtain ⟨hBX, hRX⟩ := eight hB 5 9 #[.int .u8 (c : Int)] (sevenS (UInt8.ofNat c))
          obtain ⟨ST, hST⟩ : ∃ ST, sevenS (UInt8.ofNat c) = ST := ⟨_, rfl⟩
          have hget : ∀ i, i < 7 → ∃ S : ByteArray, ST[i]? = some (.string S) ∧ S.size ≤ 10 := by rw [← hST]; exact sevenS_get _
          have HG := Lib.hid hget
          rw [hST] at hBX hRX
          change Array Value at ST
          have hl3 : ∀ x ∈ [3, c, 0], x < 256 := by intro x hx; simp at hx; omega
          have HL3 := Lib.hid hl3
          clear hget hl3 hcv1 hB
          obtain ⟨Y, rfl⟩ : ∃ Y : World, Y = wr := ⟨_, rfl⟩
          go_loopw [79] (fun i w2 => ∃ i' : Nat, i = .int .i64 i' ∧ i' ≤ 7 ∧ Row w2 (Y.heap.size + 1 + 1 + 1 + 1 + 1 + 1 + 1) 9 ST ∧ Below w.heap.size w w2) (fun i _ => 7 - (intOf i).toNat)
          case atStart => subst hST; exact ⟨0, rfl, by omega, hRX, hBX⟩
          case round =>
            clear hBX hRX
            obtain ⟨i, rfl, hi, hR, hB⟩ := hrel
            by_cases h7 : i < 7
            · obtain ⟨S, hS, hSz⟩ := HG.out i h7
              have hcell : wr.cell? ⟨Y.heap.size + 1 + 1 + 1 + 1 + 1 + 1 + 1, i, none⟩ = some (.string S) := by rw [hR.cell]; exact hS
              have hlt := hR.lt
              have hid : decide ((i : Int) < 7) = true := by simp; omega
              have HR := Lib.hid (And.intro hR hB)
              clear hR hS
              go_wp2_with (go_at_call 12; refine stop_of ?_)
              unfold Stop
              have hB3 := hB.alloc hB.size (.cells #[.int .u8 3, .int .u8 (c : Int), .int .u8 0] 5)
              have hrd := rd3 (wr.alloc (.cells #[.int .u8 3, .int .u8 (c : Int), .int .u8 0] 5)) wr.heap.size 3 c 0 (by simp) ((Row.new wr _ _).cell 0) ((Row.new wr _ _).cell 1) ((Row.new wr _ _).cell 2)
              refine (texts_yes _ [3, c, 0] S _ hrd HL3.out (by simp) (by omega) (HW.out.1.below hB3 h00) (shaped_later HW.out.2 hB3 (Nat.le_refl _))).mono ?_
              rintro e w9 ⟨rfl, hb9⟩
              have hR9 := (HR.out.1.alloc (.cells #[.int .u8 3, .int .u8 (c : Int), .int .u8 0] 5)).below hb9 (by simp; omega)
              have hB9 := hB3.trans (hb9.mono hB3.size)
              have H9 := Lib.hid (And.intro hR9 hB9)
              clear hR9 hB9 hb9 hrd hB3 hB HR hcell
              go_wp2_with fail
              go_roundw
              case rel => exact ⟨i + 1, by go_num, by omega, H9.out.1, H9.out.2⟩
              case measure => simp [intOf]; omega
            · have hid : decide ((i : Int) < 7) = false := by simp; omega
              clear hR
              go_wp2_with fail
              go_roundw
              case rel => exact ⟨c + 1, by go_num, by omega, hB⟩
              case measure => simp [intOf]; omega
    · have hcd : decide ((c : Int) < 256) = false := by simp; omega
      go_wp2_with fail
      go_loopw [5] (fun n wr => ∃ n' : Nat, n = .int .i64 n' ∧ 317 ≤ n' ∧ n' ≤ 323 ∧ Below w.heap.size w wr) (fun n _ => 323 - (intOf n).toNat)
      case atStart => exact ⟨317, rfl, by omega, by omega, hB⟩
      case round =>
        clear hB
        obtain ⟨n, rfl, hn1, hn2, hB⟩ := hrel
        by_cases h323 : n < 323
        · have hnd : decide ((n : Int) < 323) = true := by simp; omega
          have hBs := hB.size
          have hsub : (n : Int) - 1 = ((n - 1 : Nat) : Int) := by omega
          go_wp2_with (at_make; refine stop_of ?_)
          unfold Stop
          refine wpList_make_full _ rfl _ _ 24 rfl wr.heap.size 5 i0 (.int .u8 0) 1 Tryd.underlying24 hinf hz0 hz1 .i64 .i64 _ _ n rfl rfl rfl rfl (by rw [hz2]; omega) (by unfold maxLen; omega) (Nat.le_refl _) ?_
          intro w1 hown1 hg1
          have hb1 := hB.grown hg1 hBs (fun k e => by cases e)
          have hz : (madeCells (Value.int .u8 0).cells (n * 1)).toList = bys (List.replicate n 0) := by
            rw [Nat.mul_one]
            show (madeCells #[Value.int .u8 0] n).toList = _
            rw [toList_madeCells_one]
            simp [bys]
          rw [hz] at hown1
          have hl0 : ∀ x ∈ List.replicate n 0, x < 256 := by intro x hx; rw [List.mem_replicate] at hx; omega
          have hl38 : ∀ x ∈ List.replicate n 0 ++ [38], x < 256 := by
            intro x hx
            rcases List.mem_append.1 hx with h | h
            · exact hl0 x h
            · simp at h; omega
          have hrd1 : Rd w1.heap.size w1 1 (.slice (some ⟨wr.heap.size, 0, none⟩) n n) (List.replicate n 0).length (bys (List.replicate n 0)) := by
            rw [List.length_replicate]
            exact Rd.of_own hown1
          obtain ⟨R1, hR1⟩ : ∃ R1 : ByteArray, (⟨(Lib.repeatL (⟨#[55, 78, 84, 32]⟩ : ByteArray).data.toList (n - 1)).toArray⟩ : ByteArray) = R1 := ⟨_, rfl⟩
          obtain ⟨R2, hR2⟩ : ∃ R2 : ByteArray, (⟨(Lib.repeatL (⟨#[80, 32]⟩ : ByteArray).data.toList n).toArray⟩ : ByteArray) = R2 := ⟨_, rfl⟩
          have hz1' : R1.size ≤ 1300 := by rw [← hR1, rep_size]; show (n - 1) * 4 ≤ 1300; omega
          have hz2' : R2.size ≤ 1300 := by rw [← hR2, rep_size]; show n * 2 ≤ 1300; omega
          have hsz1 : (R1 ++ ⟨#[55, 78, 84]⟩ : ByteArray).size ≤ 1400 := by rw [ByteArray.size_append]; show R1.size + 3 ≤ 1400; omega
          have q1 : ¬ (9223372036854775807 < R1.size + 3) := by omega
          have hc1 := Tryd.strings_Repeat ⟨#[55, 78, 84, 32]⟩ (n - 1) w1 (by omega) (by show 4 * (n - 1) ≤ _; omega)
          rw [hR1] at hc1
          have hc2 : ∀ w9, Calls Tryd.prog 22 #[.string ⟨#[80, 32]⟩, .int .i64 (n : Int)] w9 fun e w' => e = .returned (.string R2) ∧ Below w9.heap.size w9 w' := fun w9 => by
            rw [← hR2]
            exact Tryd.strings_Repeat ⟨#[80, 32]⟩ n w9 (by omega) (by show 2 * n ≤ _; omega)
          have H1 := Lib.hid (And.intro hown1 (And.intro hb1 (And.intro hl0 (And.intro hl38 (And.intro hrd1 (And.intro hc1 hc2))))))
          clear hown1 hg1 hb1 hz hl0 hl38 hrd1 hR1 hR2 hc1 hc2
          have tok1 : True := trivial
          have tok2 : True := trivial
          go_wp2_with (first
            | (go_at_call 22; have _t := tok1; clear tok1; refine H1.out.2.2.2.2.2.1.mono ?_; rintro e w2 ⟨rfl, hb2⟩; have H2 := Lib.hid hb2; clear hb2)
            | (go_at_call 12; have _t := tok2; clear tok2; refine stop_of ?_))
          unfold Stop
          have hB2 := H1.out.2.1.trans (H2.out.mono H1.out.2.1.size)
          have hrd2 := H1.out.2.2.2.2.1.later H2.out (Nat.le_refl _)
          have ho2 := own_below H1.out.1 H2.out
          refine (texts_yes _ (List.replicate n 0) _ _ hrd2 H1.out.2.2.1 (by simp; omega) hsz1 (HW.out.1.below hB2 h00) (shaped_later HW.out.2 hB2 (Nat.le_refl _))).mono ?_
          rintro e w3 ⟨rfl, hb3⟩
          have ho3 := own_below ho2 hb3
          have hB3 := hB2.trans (hb3.mono hB2.size)
          have hs3 : wr.heap.size ≤ w3.heap.size := by
            obtain ⟨g, hg, h1, h2, -⟩ := own_some ho3 (by omega)
            omega
          have H3 := Lib.hid (And.intro ho3 hB3)
          clear hB2 hrd2 ho2 hb3 ho3 hB3
          go_wp2_with (at_builtin; refine stop_of ?_)
          unfold Stop
          have hown5 := own_below H3.out.1 ((Below.refl w3.heap.size w3).alloc (Nat.le_refl _) (.cells #[.int .u8 38] 5))
          have hB5 : Below w.heap.size w (w3.alloc (.cells #[.int .u8 38] 5)) := H3.out.2.alloc H3.out.2.size _
          have hnew : ∀ j u, (bys [38])[j]? = some u → (w3.alloc (.cells #[.int .u8 38] 5)).cell? ((⟨w3.heap.size, 0, none⟩ : Addr).add j) = some u := by
            intro j u hu
            rw [addr_add, (Row.new w3 5 #[.int .u8 38]).cell (0 + j), Nat.zero_add]
            simpa [bys] using hu
          have hbs5 : wr.heap.size ≤ (w3.alloc (.cells #[.int .u8 38] 5)).heap.size := by have := hs3; simp only [World.size_alloc]; omega
          refine wpList_append_keep (by first | rfl | simp [Region.wanted] | simp [Region.wanted, yielded]) _ _ 24 (by rfl) wr.heap.size 5 i0 (.int .u8 0) 1 1 Tryd.underlying24 hinf hz0 hz1 hz2 rfl (by decide) (.slice (some ⟨wr.heap.size, 0, none⟩) n n) n (bys (List.replicate n 0)) (by rfl) hown5 ⟨w3.heap.size, 0, none⟩ 1 1 (bys [38]) (by rfl) (by simp) hnew (bys_one _) (by unfold maxLen; omega) (by omega) hbs5 ?_
          intro v5 w5 hn5 ho5 hg5
          have hB6 := below_append hB5 hg5 hown5 hBs hB5.size
          rw [← bys_append] at hn5
          have hrd5 : Rd w5.heap.size w5 1 v5 (List.replicate n 0 ++ [38]).length (bys (List.replicate n 0 ++ [38])) := by
            have h7 := Rd.of_own hn5
            rw [List.length_append, List.length_replicate]
            exact h7
          obtain ⟨a5, c5, rfl⟩ := own_shape hn5
          have H5 := Lib.hid (And.intro hrd5 hB6)
          clear hn5 ho5 hg5 hB6 hrd5 hbs5 hnew hB5 hown5
          go_wp2_with (first
            | (go_at_call 22; refine (H1.out.2.2.2.2.2.2 _).mono ?_; rintro e w6 ⟨rfl, hb6⟩; have H6 := Lib.hid hb6; clear hb6)
            | (go_at_call 12; refine stop_of ?_))
          unfold Stop
          refine (texts_on _ HW.out.1 HW.out.2 (H5.out.2.trans (H6.out.mono H5.out.2.size)) _ (List.replicate n 0 ++ [38]) _ (H5.out.1.later H6.out (Nat.le_refl _)) H1.out.2.2.2.1 (by simp; omega) (by omega)).mono ?_
          rintro e w7 ⟨rfl, hb7⟩
          go_wp2_with fail
          go_roundw
          case rel => exact ⟨n + 1, by go_num, by omega, by omega, hb7⟩
          case measure => simp [intOf]; omega
        · have hnd : decide ((n : Int) < 323) = false := by simp; omega
          have hnil : Rd wr.heap.size wr 1 (.slice none 0 0) ([] : List Nat).length (bys []) := ⟨rfl, .inl ⟨rfl, none, 0, rfl, fun _ => rfl⟩⟩
          have HN := Lib.hid hnil
          clear hnil
          go_wp2_with (first
            | (go_at_call 12; refine (texts_on _ HW.out.1 HW.out.2 hB _ [] ⟨#[]⟩ HN.out (by intro x hx; cases hx) (by simp) (by decide)).mono ?_; rintro e w9 ⟨rfl, hb9⟩)
            | (go_at_call 11; refine (awake_true _ (HW.out.1.below hb9 h00) (shaped_later HW.out.2 hb9 (Nat.le_refl _))).mono ?_; rintro e w10 ⟨rfl, hb10⟩))
          go_ret
          exact ⟨rfl, hb9.trans (hb10.mono hb9.size)⟩

end Go.Proofs.YtbgiiijdabpbcaaDoor
