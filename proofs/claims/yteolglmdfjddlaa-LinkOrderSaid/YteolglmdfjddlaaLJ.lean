/- Links: how the arguments read; which links are valid. -/
import Derived.Test.YteolglmdfjddlaaLI
set_option linter.unusedVariables false
set_option linter.unusedSimpArgs false
namespace Go.Proofs.Yteolglmdfjddlaa
open Go.ChangeShapes Go.WideShapes Go.Deep Go.Joins Go.RowKit
theorem cells3 : Try.prog.cellsOf 3 = 1 := by kernel_rfl
theorem cells4 : Try.prog.cellsOf 4 = 1 := by kernel_rfl
theorem cells5 : Try.prog.cellsOf 5 = 1 := by kernel_rfl
theorem cells22 : Try.prog.cellsOf 22 = 1 := by kernel_rfl
theorem cells23 : Try.prog.cellsOf 23 = 1 := by kernel_rfl
theorem cells25 : Try.prog.cellsOf 25 = 6 := by kernel_rfl
theorem cells27 : Try.prog.cellsOf 27 = 1 := by kernel_rfl
theorem cells29 : Try.prog.cellsOf 29 = 2 := by kernel_rfl
theorem cells48 : Try.prog.cellsOf 48 = 2 := by kernel_rfl
/-- a call: its kind and its bytes -/
structure Ox where
  kind : Int
  A : Option Addr
  n : Nat
  c : Nat
  d : List UInt8
def oC (o : Ox) : List Value := [.int .i64 o.kind, .slice o.A o.n o.c]
theorem oC_len (o : Ox) : (oC o).length = 2 := rfl
def OxAt (w : World) (o : Ox) : Prop := (BAt w w.heap.size o.A o.n o.d ∧ o.n ≤ o.c ∧ o.c ≤ maxLen) ∧ i64In o.kind
theorem OxAt.more {w w' : World} {o : Ox} (h : OxAt w o) (hb : Below w.heap.size w w') : OxAt w' o := ⟨⟨h.1.1.more hb, h.1.2⟩, h.2⟩
def trueB (_ : UInt8) : Prop := True
theorem wf_i64' {n : Int} (h : (Lit.int .i64 n).wf = true) : -9223372036854775808 ≤ n ∧ n ≤ 9223372036854775807 := by simpa [Lit.wf, IntKind.min, IntKind.max, IntKind.signed, IntKind.bits] using h
theorem wf_u8' {n : Int} (h : (Lit.int .u8 n).wf = true) : 0 ≤ n ∧ n ≤ 255 := by simpa [Lit.wf, IntKind.min, IntKind.max, IntKind.signed, IntKind.bits] using h
theorem wf_u64' {n : Int} (h : (Lit.int .u64 n).wf = true) : 0 ≤ n ∧ n < 18446744073709551616 := by
  have : 0 ≤ n ∧ n ≤ 18446744073709551615 := by simpa [Lit.wf, IntKind.min, IntKind.max, IntKind.signed, IntKind.bits] using h
  omega
section
variable {H : Type} {enc : TypeId × Value → H} {w : World} {base : Nat} {spare : Nat → Bool} {held : Bool}
theorem int_el {n : Nat} {v : Value} {y : DataW H × List MemPlace} (h : DataW.trod enc Try.prog w base spare held n 3 [v] = some y) : ∃ z : Int, v = .int .i64 z ∧ (-9223372036854775808 ≤ z ∧ z ≤ 9223372036854775807) := by
  obtain ⟨z, e, _, hw⟩ := DataW.trod_int Try.underlying3 h
  exact ⟨z, by simpa using e, wf_i64' hw⟩
theorem bool_el {n : Nat} {v : Value} {y : DataW H × List MemPlace} (h : DataW.trod enc Try.prog w base spare held n 4 [v] = some y) : ∃ b : Bool, v = .bool b := by
  obtain ⟨b, e, _⟩ := DataW.trod_bool Try.underlying4 h
  exact ⟨b, by simpa using e⟩
theorem byte_el {n : Nat} {v : Value} {y : DataW H × List MemPlace} (h : DataW.trod enc Try.prog w base spare held n 5 [v] = some y) : ∃ b : UInt8, v = .int .u8 (b.toNat : Int) := by
  obtain ⟨z, e, _, hw⟩ := DataW.trod_int Try.underlying5 h
  obtain ⟨h1, h2⟩ := wf_u8' hw
  refine ⟨UInt8.ofNat z.toNat, ?_⟩
  have e2 : v = .int .u8 z := by simpa using e
  rw [e2]
  congr 1
  have : (UInt8.ofNat z.toNat).toNat = z.toNat := by simp; omega
  rw [this]; omega
set_option maxRecDepth 100000 in
theorem bytes_in {fuel : Nat} {cs : List Value} {x : DataW H × List MemPlace} (h : DataW.trod enc Try.prog w base spare held fuel 27 cs = some x) :
    ∃ A n c l, cs = [.slice A n c] ∧ LAt bC 1 w w.heap.size A n l ∧ n ≤ c ∧ c ≤ maxLen ∧ ∀ x ∈ l, trueB x :=
  slice_el (f := bC) (s := 1) trueB Try.underlying27 cells5 bC_len (by decide) (fun n cs y hc hy => by
    match cs, hc with
    | [c], _ =>
      obtain ⟨b, rfl⟩ := byte_el hy
      exact ⟨b, rfl, trivial⟩) h
set_option maxRecDepth 100000 in
theorem bytes_in1 {fuel : Nat} {v : Value} {x : DataW H × List MemPlace} (h : DataW.trod enc Try.prog w base spare held fuel 27 [v] = some x) :
    ∃ A n c l, v = .slice A n c ∧ LAt bC 1 w w.heap.size A n l ∧ n ≤ c ∧ c ≤ maxLen ∧ ∀ x ∈ l, trueB x := by
  obtain ⟨A, n, c, l, e, h1⟩ := bytes_in h
  exact ⟨A, n, c, l, by simpa using e, h1⟩
set_option maxRecDepth 100000 in
theorem bytes_in_of {r : Reach} {b0 : Nat} {v : Value} {d : DataW H} {p : List MemPlace} (hv : Value.okWide Try.prog w r b0 27 v) (h : DataW.Trod enc Try.prog w base spare held 27 v d p) :
    ∃ A n c l, v = .slice A n c ∧ LAt bC 1 w w.heap.size A n l ∧ n ≤ c ∧ c ≤ maxLen ∧ ∀ x ∈ l, trueB x := by
  obtain ⟨A, n, c, rfl⟩ := okWide_slice Try.underlying27 hv
  obtain ⟨fuel, hf⟩ := h
  obtain ⟨A', n', c', l, e, h1⟩ := bytes_in hf
  simp [Value.cells] at e
  obtain ⟨rfl, rfl, rfl⟩ := e
  exact ⟨A, n, c, l, rfl, h1⟩
set_option maxRecDepth 100000 in
theorem ints_in {fuel : Nat} {cs : List Value} {x : DataW H × List MemPlace} (h : DataW.trod enc Try.prog w base spare held fuel 22 cs = some x) :
    ∃ A n c l, cs = [.slice A n c] ∧ LAt iC 1 w w.heap.size A n l ∧ n ≤ c ∧ c ≤ maxLen ∧ ∀ x ∈ l, i64In x :=
  slice_el (f := iC) (s := 1) i64In Try.underlying22 cells3 iC_len (by decide) (fun n cs y hc hy => by
    match cs, hc with
    | [c], _ =>
      obtain ⟨z, rfl, h⟩ := int_el hy
      exact ⟨z, rfl, h⟩) h
set_option maxRecDepth 100000 in
theorem ints_in1 {fuel : Nat} {v : Value} {x : DataW H × List MemPlace} (h : DataW.trod enc Try.prog w base spare held fuel 22 [v] = some x) :
    ∃ A n c l, v = .slice A n c ∧ LAt iC 1 w w.heap.size A n l ∧ n ≤ c ∧ c ≤ maxLen ∧ ∀ x ∈ l, i64In x := by
  obtain ⟨A, n, c, l, e, h1⟩ := ints_in h
  exact ⟨A, n, c, l, by simpa using e, h1⟩
set_option maxRecDepth 100000 in
theorem ints_in_of {r : Reach} {b0 : Nat} {v : Value} {d : DataW H} {p : List MemPlace} (hv : Value.okWide Try.prog w r b0 22 v) (h : DataW.Trod enc Try.prog w base spare held 22 v d p) :
    ∃ A n c l, v = .slice A n c ∧ LAt iC 1 w w.heap.size A n l ∧ n ≤ c ∧ c ≤ maxLen ∧ ∀ x ∈ l, i64In x := by
  obtain ⟨A, n, c, rfl⟩ := okWide_slice Try.underlying22 hv
  obtain ⟨fuel, hf⟩ := h
  obtain ⟨A', n', c', l, e, h1⟩ := ints_in hf
  simp [Value.cells] at e
  obtain ⟨rfl, rfl, rfl⟩ := e
  exact ⟨A, n, c, l, rfl, h1⟩
set_option maxRecDepth 100000 in
theorem pack_el {n : Nat} {cs : List Value} {y : DataW H × List MemPlace} (hc : cs.length = 2) (h : DataW.trod enc Try.prog w base spare held n 29 cs = some y) : ∃ p : Pk, cs = pkC p ∧ PkAt w p := by
  match cs, hc with
  | [c0, c1], _ =>
    obtain ⟨xs, k, _, _, _, hl, hf⟩ := DataW.trod_struct Try.underlying29 h
    have h0 : DataW.trod enc Try.prog w base spare held k 3 (([c0, c1].drop 0).take (Try.prog.cellsOf 3)) = xs[0]? := hf 0 _ rfl
    have h1 : DataW.trod enc Try.prog w base spare held k 27 (([c0, c1].drop 1).take (Try.prog.cellsOf 27)) = xs[1]? := hf 1 _ rfl
    simp only [cells3, cells27, List.drop_zero, List.drop_succ_cons, List.take_succ_cons, List.take_zero] at h0 h1
    rw [List.getElem?_eq_getElem (by rw [hl]; decide)] at h0 h1
    obtain ⟨z0, rfl, r0⟩ := int_el h0
    obtain ⟨z1A, z1n, z1c, z1, rfl, r1⟩ := bytes_in1 h1
    exact ⟨⟨z0, z1A, z1n, z1c, z1⟩, rfl, ⟨r1.1, r1.2.1, r1.2.2.1⟩, r0⟩
set_option maxRecDepth 100000 in
theorem packs_in {fuel : Nat} {cs : List Value} {x : DataW H × List MemPlace} (h : DataW.trod enc Try.prog w base spare held fuel 23 cs = some x) :
    ∃ A n c l, cs = [.slice A n c] ∧ LAt pkC 2 w w.heap.size A n l ∧ n ≤ c ∧ c ≤ maxLen ∧ ∀ x ∈ l, (PkAt w) x :=
  slice_el (f := pkC) (s := 2) (PkAt w) Try.underlying23 cells29 pkC_len (by decide) (fun n cs y hc hy => pack_el hc hy) h
set_option maxRecDepth 100000 in
theorem packs_in1 {fuel : Nat} {v : Value} {x : DataW H × List MemPlace} (h : DataW.trod enc Try.prog w base spare held fuel 23 [v] = some x) :
    ∃ A n c l, v = .slice A n c ∧ LAt pkC 2 w w.heap.size A n l ∧ n ≤ c ∧ c ≤ maxLen ∧ ∀ x ∈ l, (PkAt w) x := by
  obtain ⟨A, n, c, l, e, h1⟩ := packs_in h
  exact ⟨A, n, c, l, by simpa using e, h1⟩
set_option maxRecDepth 100000 in
theorem packs_in_of {r : Reach} {b0 : Nat} {v : Value} {d : DataW H} {p : List MemPlace} (hv : Value.okWide Try.prog w r b0 23 v) (h : DataW.Trod enc Try.prog w base spare held 23 v d p) :
    ∃ A n c l, v = .slice A n c ∧ LAt pkC 2 w w.heap.size A n l ∧ n ≤ c ∧ c ≤ maxLen ∧ ∀ x ∈ l, (PkAt w) x := by
  obtain ⟨A, n, c, rfl⟩ := okWide_slice Try.underlying23 hv
  obtain ⟨fuel, hf⟩ := h
  obtain ⟨A', n', c', l, e, h1⟩ := packs_in hf
  simp [Value.cells] at e
  obtain ⟨rfl, rfl, rfl⟩ := e
  exact ⟨A, n, c, l, rfl, h1⟩
set_option maxRecDepth 100000 in
theorem op_el {n : Nat} {cs : List Value} {y : DataW H × List MemPlace} (hc : cs.length = 2) (h : DataW.trod enc Try.prog w base spare held n 48 cs = some y) : ∃ o : Ox, cs = oC o ∧ OxAt w o := by
  match cs, hc with
  | [c0, c1], _ =>
    obtain ⟨xs, k, _, _, _, hl, hf⟩ := DataW.trod_struct Try.underlying48 h
    have h0 : DataW.trod enc Try.prog w base spare held k 3 (([c0, c1].drop 0).take (Try.prog.cellsOf 3)) = xs[0]? := hf 0 _ rfl
    have h1 : DataW.trod enc Try.prog w base spare held k 27 (([c0, c1].drop 1).take (Try.prog.cellsOf 27)) = xs[1]? := hf 1 _ rfl
    simp only [cells3, cells27, List.drop_zero, List.drop_succ_cons, List.take_succ_cons, List.take_zero] at h0 h1
    rw [List.getElem?_eq_getElem (by rw [hl]; decide)] at h0 h1
    obtain ⟨z0, rfl, r0⟩ := int_el h0
    obtain ⟨z1A, z1n, z1c, z1, rfl, r1⟩ := bytes_in1 h1
    exact ⟨⟨z0, z1A, z1n, z1c, z1⟩, rfl, ⟨r1.1, r1.2.1, r1.2.2.1⟩, r0⟩
set_option maxRecDepth 100000 in
theorem ops_in {fuel : Nat} {cs : List Value} {x : DataW H × List MemPlace} (h : DataW.trod enc Try.prog w base spare held fuel 42 cs = some x) :
    ∃ A n c l, cs = [.slice A n c] ∧ LAt oC 2 w w.heap.size A n l ∧ n ≤ c ∧ c ≤ maxLen ∧ ∀ x ∈ l, (OxAt w) x :=
  slice_el (f := oC) (s := 2) (OxAt w) Try.underlying42 cells48 oC_len (by decide) (fun n cs y hc hy => op_el hc hy) h
set_option maxRecDepth 100000 in
theorem ops_in1 {fuel : Nat} {v : Value} {x : DataW H × List MemPlace} (h : DataW.trod enc Try.prog w base spare held fuel 42 [v] = some x) :
    ∃ A n c l, v = .slice A n c ∧ LAt oC 2 w w.heap.size A n l ∧ n ≤ c ∧ c ≤ maxLen ∧ ∀ x ∈ l, (OxAt w) x := by
  obtain ⟨A, n, c, l, e, h1⟩ := ops_in h
  exact ⟨A, n, c, l, by simpa using e, h1⟩
set_option maxRecDepth 100000 in
theorem ops_in_of {r : Reach} {b0 : Nat} {v : Value} {d : DataW H} {p : List MemPlace} (hv : Value.okWide Try.prog w r b0 42 v) (h : DataW.Trod enc Try.prog w base spare held 42 v d p) :
    ∃ A n c l, v = .slice A n c ∧ LAt oC 2 w w.heap.size A n l ∧ n ≤ c ∧ c ≤ maxLen ∧ ∀ x ∈ l, (OxAt w) x := by
  obtain ⟨A, n, c, rfl⟩ := okWide_slice Try.underlying42 hv
  obtain ⟨fuel, hf⟩ := h
  obtain ⟨A', n', c', l, e, h1⟩ := ops_in hf
  simp [Value.cells] at e
  obtain ⟨rfl, rfl, rfl⟩ := e
  exact ⟨A, n, c, l, rfl, h1⟩
set_option maxRecDepth 100000 in
theorem link_el {n : Nat} {cs : List Value} {y : DataW H × List MemPlace} (hc : cs.length = 6) (h : DataW.trod enc Try.prog w base spare held n 25 cs = some y) : ∃ l : Lk, lkV l = .agg cs.toArray ∧ LkOk w l := by
  match cs, hc with
  | [c0, c1, c2, c3, c4, c5], _ =>
    obtain ⟨xs, k, _, _, _, hl, hf⟩ := DataW.trod_struct Try.underlying25 h
    have h0 : DataW.trod enc Try.prog w base spare held k 3 (([c0, c1, c2, c3, c4, c5].drop 0).take (Try.prog.cellsOf 3)) = xs[0]? := hf 0 _ rfl
    have h1 : DataW.trod enc Try.prog w base spare held k 3 (([c0, c1, c2, c3, c4, c5].drop 1).take (Try.prog.cellsOf 3)) = xs[1]? := hf 1 _ rfl
    have h2 : DataW.trod enc Try.prog w base spare held k 4 (([c0, c1, c2, c3, c4, c5].drop 2).take (Try.prog.cellsOf 4)) = xs[2]? := hf 2 _ rfl
    have h3 : DataW.trod enc Try.prog w base spare held k 3 (([c0, c1, c2, c3, c4, c5].drop 3).take (Try.prog.cellsOf 3)) = xs[3]? := hf 3 _ rfl
    have h4 : DataW.trod enc Try.prog w base spare held k 22 (([c0, c1, c2, c3, c4, c5].drop 4).take (Try.prog.cellsOf 22)) = xs[4]? := hf 4 _ rfl
    have h5 : DataW.trod enc Try.prog w base spare held k 23 (([c0, c1, c2, c3, c4, c5].drop 5).take (Try.prog.cellsOf 23)) = xs[5]? := hf 5 _ rfl
    simp only [cells3, cells4, cells22, cells23, List.drop_zero, List.drop_succ_cons, List.take_succ_cons, List.take_zero] at h0 h1 h2 h3 h4 h5
    rw [List.getElem?_eq_getElem (by rw [hl]; decide)] at h0 h1 h2 h3 h4 h5
    obtain ⟨z0, rfl, r0⟩ := int_el h0
    obtain ⟨z1, rfl, r1⟩ := int_el h1
    obtain ⟨z2, rfl⟩ := bool_el h2
    obtain ⟨z3, rfl, r3⟩ := int_el h3
    obtain ⟨z4A, z4n, z4c, z4, rfl, r4⟩ := ints_in1 h4
    obtain ⟨z5A, z5n, z5c, z5, rfl, r5⟩ := packs_in1 h5
    exact ⟨⟨z0, z1, z2, z3, z4A, z4n, z4c, z4, z5A, z5n, z5c, z5⟩, rfl, ⟨r4.1, ⟨r4.2.1, r4.2.2.1⟩, r4.2.2.2, r5.1, ⟨r5.2.1, r5.2.2.1⟩, r5.2.2.2, ⟨r0, r1, r3⟩⟩⟩
set_option maxRecDepth 100000 in
theorem link_of {r : Reach} {b0 : Nat} {v : Value} {d : DataW H} {p : List MemPlace} (hv : Value.okWide Try.prog w r b0 25 v) (h : DataW.Trod enc Try.prog w base spare held 25 v d p) : ∃ l : Lk, v = lkV l ∧ LkOk w l := by
  obtain ⟨cs, rfl, hsz⟩ := okWide_struct Try.underlying25 hv
  obtain ⟨fuel, hf⟩ := h
  obtain ⟨l9, e, b⟩ := link_el (show cs.toList.length = 6 by simpa using hsz.trans cells25) hf
  exact ⟨l9, e.symm, b⟩
end
theorem firstE_zero (f : Nat → Int) : ∀ n k, firstE f n k = 0 ↔ ∀ j, k ≤ j → j < k + n → f j = 0
  | 0, k => by simp [firstE]; intro j h1 h2; omega
  | n + 1, k => by
    unfold firstE
    constructor
    · intro h j h1 h2
      split at h
      · rename_i h0
        by_cases hj : j = k
        · subst hj; exact h0
        · exact (firstE_zero f n (k + 1)).1 h j (by omega) (by omega)
      · rename_i h0; exact absurd h h0
    · intro h
      rw [if_pos (h k (Nat.le_refl _) (by omega))]
      exact (firstE_zero f n (k + 1)).2 (fun j h1 h2 => h j (by omega) (by omega))
/-- a valid link, in plain words -/
structure Good (v : Lv) : Prop where
  now0 : 0 ≤ v.now
  now1 : v.now ≤ 268435456
  del0 : 1 ≤ v.delay
  del1 : v.delay ≤ 60
  cnt0 : 0 ≤ v.count
  cnt1 : v.count ≤ 2147483647
  lose : v.lose.length ≤ 256
  lok : ∀ k, k < v.lose.length → loseE v.lose k = 0
  few : v.box.length ≤ 256
  due : ∀ p ∈ v.box, v.now < p.1 ∧ p.1 ≤ v.now + v.delay ∧ p.2.length ≤ 8198
  asc : v.box.Pairwise fun a b => a.1 ≤ b.1
theorem asc_of (l : List (Int × List UInt8)) (h : ∀ i (hi : i + 1 < l.length), (l[i]'(by omega)).1 ≤ l[i + 1].1) : l.Pairwise fun a b => a.1 ≤ b.1 := by
  rw [List.pairwise_iff_getElem]
  intro i j hi hj hij
  obtain ⟨m, rfl⟩ : ∃ m, j = i + 1 + m := ⟨j - (i + 1), by omega⟩
  clear hij
  induction m with
  | zero => exact h i (by omega)
  | succ m ih => exact Int.le_trans (ih (by omega)) (h (i + 1 + m) (by omega))
theorem box_zero (v : Lv) (k : Nat) (hk : k < v.box.length) : boxE v k = 0 ↔ (v.now < v.box[k].1 ∧ v.box[k].1 ≤ v.now + v.delay ∧ v.box[k].2.length ≤ 8198) ∧ ∀ h0 : 0 < k, (v.box[k - 1]'(by omega)).1 ≤ v.box[k].1 := by
  have e : v.box.getD k (0, []) = v.box[k] := by simp [List.getD_eq_getElem?_getD, hk]
  unfold boxE
  rw [e]
  by_cases h0 : 0 < k
  · have e2 : v.box.getD (k - 1) (0, []) = v.box[k - 1] := by have : k - 1 < v.box.length := by omega
                                                              simp [List.getD_eq_getElem?_getD, this]
    rw [e2]
    constructor
    · intro h
      split at h
      · cases h
      · split at h
        · cases h
        · split at h
          · cases h
          · refine ⟨⟨by omega, by omega, by omega⟩, fun _ => by omega⟩
    · rintro ⟨⟨h1, h2, h3⟩, h4⟩
      have h4 := h4 h0
      rw [if_neg (by omega), if_neg (by omega), if_neg (by omega)]
  · constructor
    · intro h
      split at h
      · cases h
      · rw [if_neg (by omega)] at h
        split at h
        · cases h
        · exact ⟨⟨by omega, by omega, by omega⟩, fun h => absurd h h0⟩
    · rintro ⟨⟨h1, h2, h3⟩, h4⟩
      rw [if_neg (by omega), if_neg (by omega), if_neg (by omega)]
theorem good_of (v : Lv) (h : validL v = 0) : Good v := by
  unfold validL at h
  split at h
  · cases h
  · rename_i hb
    split at h
    · cases h
    · rename_i hl
      split at h
      · rename_i hf
        unfold boxV at h
        split at h
        · cases h
        · rename_i hx
          unfold badHead at hb
          have hf := (firstE_zero _ _ _).1 hf
          have h := (firstE_zero _ _ _).1 h
          have hz : ∀ k (hk : k < v.box.length), _ := fun k hk => (box_zero v k hk).1 (h k (Nat.zero_le _) (by omega))
          refine ⟨by omega, by omega, by omega, by omega, by omega, by omega, by omega, fun k hk => hf k (Nat.zero_le _) (by omega), by omega, fun p hp => ?_, asc_of _ (fun i hi => ?_)⟩
          · obtain ⟨k, hk, rfl⟩ := List.getElem_of_mem hp
            exact (hz k hk).1
          · have := (hz (i + 1) hi).2 (by omega)
            simpa using this
      · rename_i hf
        exact absurd h hf
theorem valid_of (v : Lv) (h : Good v) : validL v = 0 := by
  have h1 : ¬ badHead v := by unfold badHead; have := h.now0; have := h.now1; have := h.del0; have := h.del1; have := h.cnt0; have := h.cnt1; omega
  rw [validL_box v h1 (by have := h.lose; omega) ((firstE_zero _ _ _).2 (fun j _ hj => h.lok j (by omega)))]
  rw [boxV_f v (by have := h.few; omega)]
  refine (firstE_zero _ _ _).2 (fun j _ hj => ?_)
  have hk : j < v.box.length := by omega
  refine (box_zero v j hk).2 ⟨h.due _ (List.getElem_mem hk), fun h0 => ?_⟩
  exact (List.pairwise_iff_getElem.1 h.asc) (j - 1) j (by omega) hk (by omega)
theorem Good.sm {v : Lv} (h : Good v) : smV v := ⟨Nat.le_trans h.lose (by decide), Nat.le_trans h.few (by decide), fun p hp => Nat.le_trans (h.due p hp).2.2 (by decide)⟩
theorem Good.nd {v : Lv} (h : Good v) : 0 ≤ v.now ∧ v.now ≤ 268435456 ∧ 1 ≤ v.delay ∧ v.delay ≤ 60 ∧ 0 ≤ v.count := ⟨h.now0, h.now1, h.del0, h.del1, h.cnt0⟩
theorem Good.cut {v : Lv} (h : Good v) (b : Bool) : Good (cutL v b) := ⟨h.now0, h.now1, h.del0, h.del1, h.cnt0, h.cnt1, h.lose, h.lok, h.few, h.due, h.asc⟩
theorem Good.tick {v : Lv} (h : Good v) : Good (tickL v).1 := by
  unfold tickL
  split
  · exact h
  · refine ⟨?_, ?_, h.del0, h.del1, h.cnt0, h.cnt1, h.lose, h.lok, Nat.le_trans (List.length_filter_le _ _) h.few, fun p hp => ?_, h.asc.filter _⟩
    · have := h.now0; show 0 ≤ v.now + 1; omega
    · show v.now + 1 ≤ _; omega
    · obtain ⟨h1, h2⟩ := List.mem_filter.1 hp
      have h3 := h.due p h1
      have h2 : v.now + 1 < p.1 := by simpa using h2
      exact ⟨h2, by show p.1 ≤ v.now + 1 + v.delay; omega, h3.2.2⟩
theorem Good.send {v : Lv} (h : Good v) (d : List UInt8) : Good (sendL v d).1 := by
  unfold sendL
  split
  · exact h
  · split
    · exact ⟨h.now0, h.now1, h.del0, h.del1, by have := h.cnt0; show 0 ≤ v.count + 1; omega, by show v.count + 1 ≤ _; omega, h.lose, h.lok, h.few, h.due, h.asc⟩
    · split
      · exact h
      · have hd0 := h.del0
        refine ⟨h.now0, h.now1, h.del0, h.del1, by have := h.cnt0; show 0 ≤ v.count + 1; omega, by show v.count + 1 ≤ _; omega, h.lose, h.lok, ?_, fun p hp => ?_, ?_⟩
        · simp only [List.length_append, List.length_singleton]; omega
        · rcases List.mem_append.1 hp with hp | hp
          · exact h.due p hp
          · simp at hp; subst hp
            exact ⟨by show v.now < v.now + v.delay; omega, Int.le_refl _, by show d.length ≤ _; omega⟩
        · rw [List.pairwise_append]
          refine ⟨h.asc, by simp, fun a ha b hb => ?_⟩
          simp at hb; subst hb
          exact (h.due a ha).2.1
end Go.Proofs.Yteolglmdfjddlaa
