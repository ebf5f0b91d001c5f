/- Invoices: how the arguments read; Small and the example, walked. -/
import Derived.Test.YtadgdbakgmjekaaIL
import Derived.Test.YtadgdbakgmjekaaOpen
set_option linter.unusedVariables false
set_option linter.unusedSimpArgs false
namespace Go.Proofs.Ytadgdbakgmjekaa
open Go.ChangeShapes Go.WideShapes Go.Deep Go.Joins Go.RowKit
theorem celt3 : Try.prog.cellsOf 3 = 1 := by kernel_rfl
theorem celt9 : Try.prog.cellsOf 9 = 1 := by kernel_rfl
theorem celt28 : Try.prog.cellsOf 28 = 1 := by kernel_rfl
theorem celt30 : Try.prog.cellsOf 30 = 6 := by kernel_rfl
theorem celt39 : Try.prog.cellsOf 39 = 7 := by kernel_rfl
/-- a call -/
structure Ox where
  kind : Int
  cust : ByteArray
  cur : ByteArray
  at_ : Int
  num : Int
  A : Option Addr
  n : Nat
  c : Nat
  its : List It
def oC (o : Ox) : List Value := [.int .i64 o.kind, .string o.cust, .string o.cur, .int .i64 o.at_, .int .i64 o.num, .slice o.A o.n o.c]
theorem oC_len (o : Ox) : (oC o).length = 6 := rfl
def OxAt (w : World) (o : Ox) : Prop := ItAt w o.A o.n o.its ∧ o.n ≤ o.c ∧ o.c ≤ maxLen
theorem OxAt.more {w w' : World} {o : Ox} (h : OxAt w o) (hb : Below w.heap.size w w') : OxAt w' o := ⟨h.1.more hb, h.2⟩
def trueI (_ : It) : Prop := True
theorem wf_i64' {n : Int} (h : (Lit.int .i64 n).wf = true) : -9223372036854775808 ≤ n ∧ n ≤ 9223372036854775807 := by simpa [Lit.wf, IntKind.min, IntKind.max, IntKind.signed, IntKind.bits] using h
theorem wf_u64' {n : Int} (h : (Lit.int .u64 n).wf = true) : 0 ≤ n ∧ n < 18446744073709551616 := by
  have : 0 ≤ n ∧ n ≤ 18446744073709551615 := by simpa [Lit.wf, IntKind.min, IntKind.max, IntKind.signed, IntKind.bits] using h
  omega
section
variable {H : Type} {enc : TypeId × Value → H} {w : World} {base : Nat} {spare : Nat → Bool} {held : Bool}
theorem int_el {n : Nat} {v : Value} {y : DataW H × List MemPlace} (h : DataW.trod enc Try.prog w base spare held n 3 [v] = some y) : ∃ z : Int, v = .int .i64 z ∧ (-9223372036854775808 ≤ z ∧ z ≤ 9223372036854775807) := by
  obtain ⟨z, e, _, hw⟩ := DataW.trod_int Try.underlying3 h
  exact ⟨z, by simpa using e, wf_i64' hw⟩
theorem str_el {n : Nat} {v : Value} {y : DataW H × List MemPlace} (h : DataW.trod enc Try.prog w base spare held n 9 [v] = some y) : ∃ s : ByteArray, v = .string s ∧ s.size ≤ maxLen := by
  obtain ⟨s, e, _, b⟩ := DataW.trod_string Try.underlying9 h
  exact ⟨s, by simpa using e, b⟩
set_option maxRecDepth 100000 in
theorem item_el {n : Nat} {cs : List Value} {y : DataW H × List MemPlace} (hc : cs.length = 7) (h : DataW.trod enc Try.prog w base spare held n 39 cs = some y) : ∃ x : It, cs = itC x ∧ trueI x := by
  match cs, hc with
  | [c0, c1, c2, c3, c4, c5, c6], _ =>
    obtain ⟨xs, k, _, _, _, hl, hf⟩ := DataW.trod_struct Try.underlying39 h
    have h0 : DataW.trod enc Try.prog w base spare held k 3 (([c0, c1, c2, c3, c4, c5, c6].drop 0).take (Try.prog.cellsOf 3)) = xs[0]? := hf 0 _ rfl
    have h1 : DataW.trod enc Try.prog w base spare held k 3 (([c0, c1, c2, c3, c4, c5, c6].drop 1).take (Try.prog.cellsOf 3)) = xs[1]? := hf 1 _ rfl
    have h2 : DataW.trod enc Try.prog w base spare held k 3 (([c0, c1, c2, c3, c4, c5, c6].drop 2).take (Try.prog.cellsOf 3)) = xs[2]? := hf 2 _ rfl
    have h3 : DataW.trod enc Try.prog w base spare held k 3 (([c0, c1, c2, c3, c4, c5, c6].drop 3).take (Try.prog.cellsOf 3)) = xs[3]? := hf 3 _ rfl
    have h4 : DataW.trod enc Try.prog w base spare held k 3 (([c0, c1, c2, c3, c4, c5, c6].drop 4).take (Try.prog.cellsOf 3)) = xs[4]? := hf 4 _ rfl
    have h5 : DataW.trod enc Try.prog w base spare held k 3 (([c0, c1, c2, c3, c4, c5, c6].drop 5).take (Try.prog.cellsOf 3)) = xs[5]? := hf 5 _ rfl
    have h6 : DataW.trod enc Try.prog w base spare held k 3 (([c0, c1, c2, c3, c4, c5, c6].drop 6).take (Try.prog.cellsOf 3)) = xs[6]? := hf 6 _ rfl
    simp only [celt3, List.drop_zero, List.drop_succ_cons, List.take_succ_cons, List.take_zero] at h0 h1 h2 h3 h4 h5 h6
    rw [List.getElem?_eq_getElem (by rw [hl]; decide)] at h0 h1 h2 h3 h4 h5 h6
    obtain ⟨z0, rfl, r0⟩ := int_el h0
    obtain ⟨z1, rfl, r1⟩ := int_el h1
    obtain ⟨z2, rfl, r2⟩ := int_el h2
    obtain ⟨z3, rfl, r3⟩ := int_el h3
    obtain ⟨z4, rfl, r4⟩ := int_el h4
    obtain ⟨z5, rfl, r5⟩ := int_el h5
    obtain ⟨z6, rfl, r6⟩ := int_el h6
    exact ⟨⟨z0, z1, z2, z3, z4, z5, z6⟩, rfl, trivial⟩
set_option maxRecDepth 100000 in
theorem items_in {fuel : Nat} {cs : List Value} {x : DataW H × List MemPlace} (h : DataW.trod enc Try.prog w base spare held fuel 28 cs = some x) :
    ∃ A n c l, cs = [.slice A n c] ∧ LAt itC 7 w w.heap.size A n l ∧ n ≤ c ∧ c ≤ maxLen ∧ ∀ x ∈ l, trueI x :=
  slice_el (f := itC) (s := 7) trueI Try.underlying28 celt39 itC_len (by decide) (fun n cs y hc hy => item_el hc hy) h
set_option maxRecDepth 100000 in
theorem items_in1 {fuel : Nat} {v : Value} {x : DataW H × List MemPlace} (h : DataW.trod enc Try.prog w base spare held fuel 28 [v] = some x) :
    ∃ A n c l, v = .slice A n c ∧ LAt itC 7 w w.heap.size A n l ∧ n ≤ c ∧ c ≤ maxLen ∧ ∀ x ∈ l, trueI x := by
  obtain ⟨A, n, c, l, e, h1⟩ := items_in h
  exact ⟨A, n, c, l, by simpa using e, h1⟩
set_option maxRecDepth 100000 in
theorem items_in_of {r : Reach} {b0 : Nat} {v : Value} {d : DataW H} {p : List MemPlace} (hv : Value.okWide Try.prog w r b0 28 v) (h : DataW.Trod enc Try.prog w base spare held 28 v d p) :
    ∃ A n c l, v = .slice A n c ∧ LAt itC 7 w w.heap.size A n l ∧ n ≤ c ∧ c ≤ maxLen ∧ ∀ x ∈ l, trueI x := by
  obtain ⟨A, n, c, rfl⟩ := okWide_slice Try.underlying28 hv
  obtain ⟨fuel, hf⟩ := h
  obtain ⟨A', n', c', l, e, h1⟩ := items_in hf
  simp [Value.cells] at e
  obtain ⟨rfl, rfl, rfl⟩ := e
  exact ⟨A, n, c, l, rfl, h1⟩
set_option maxRecDepth 100000 in
theorem op_el {n : Nat} {cs : List Value} {y : DataW H × List MemPlace} (hc : cs.length = 6) (h : DataW.trod enc Try.prog w base spare held n 30 cs = some y) : ∃ o : Ox, cs = oC o ∧ OxAt w o := by
  match cs, hc with
  | [c0, c1, c2, c3, c4, c5], _ =>
    obtain ⟨xs, k, _, _, _, hl, hf⟩ := DataW.trod_struct Try.underlying30 h
    have h0 : DataW.trod enc Try.prog w base spare held k 3 (([c0, c1, c2, c3, c4, c5].drop 0).take (Try.prog.cellsOf 3)) = xs[0]? := hf 0 _ rfl
    have h1 : DataW.trod enc Try.prog w base spare held k 9 (([c0, c1, c2, c3, c4, c5].drop 1).take (Try.prog.cellsOf 9)) = xs[1]? := hf 1 _ rfl
    have h2 : DataW.trod enc Try.prog w base spare held k 9 (([c0, c1, c2, c3, c4, c5].drop 2).take (Try.prog.cellsOf 9)) = xs[2]? := hf 2 _ rfl
    have h3 : DataW.trod enc Try.prog w base spare held k 3 (([c0, c1, c2, c3, c4, c5].drop 3).take (Try.prog.cellsOf 3)) = xs[3]? := hf 3 _ rfl
    have h4 : DataW.trod enc Try.prog w base spare held k 3 (([c0, c1, c2, c3, c4, c5].drop 4).take (Try.prog.cellsOf 3)) = xs[4]? := hf 4 _ rfl
    have h5 : DataW.trod enc Try.prog w base spare held k 28 (([c0, c1, c2, c3, c4, c5].drop 5).take (Try.prog.cellsOf 28)) = xs[5]? := hf 5 _ rfl
    simp only [celt3, celt9, celt28, List.drop_zero, List.drop_succ_cons, List.take_succ_cons, List.take_zero] at h0 h1 h2 h3 h4 h5
    rw [List.getElem?_eq_getElem (by rw [hl]; decide)] at h0 h1 h2 h3 h4 h5
    obtain ⟨z0, rfl, r0⟩ := int_el h0
    obtain ⟨z1, rfl, r1⟩ := str_el h1
    obtain ⟨z2, rfl, r2⟩ := str_el h2
    obtain ⟨z3, rfl, r3⟩ := int_el h3
    obtain ⟨z4, rfl, r4⟩ := int_el h4
    obtain ⟨z5A, z5n, z5c, z5, rfl, r5⟩ := items_in1 h5
    exact ⟨⟨z0, z1, z2, z3, z4, z5A, z5n, z5c, z5⟩, rfl, r5.1, r5.2.1, r5.2.2.1⟩
set_option maxRecDepth 100000 in
theorem ops_in {fuel : Nat} {cs : List Value} {x : DataW H × List MemPlace} (h : DataW.trod enc Try.prog w base spare held fuel 22 cs = some x) :
    ∃ A n c l, cs = [.slice A n c] ∧ LAt oC 6 w w.heap.size A n l ∧ n ≤ c ∧ c ≤ maxLen ∧ ∀ x ∈ l, (OxAt w) x :=
  slice_el (f := oC) (s := 6) (OxAt w) Try.underlying22 celt30 oC_len (by decide) (fun n cs y hc hy => op_el hc hy) h
set_option maxRecDepth 100000 in
theorem ops_in1 {fuel : Nat} {v : Value} {x : DataW H × List MemPlace} (h : DataW.trod enc Try.prog w base spare held fuel 22 [v] = some x) :
    ∃ A n c l, v = .slice A n c ∧ LAt oC 6 w w.heap.size A n l ∧ n ≤ c ∧ c ≤ maxLen ∧ ∀ x ∈ l, (OxAt w) x := by
  obtain ⟨A, n, c, l, e, h1⟩ := ops_in h
  exact ⟨A, n, c, l, by simpa using e, h1⟩
set_option maxRecDepth 100000 in
theorem ops_in_of {r : Reach} {b0 : Nat} {v : Value} {d : DataW H} {p : List MemPlace} (hv : Value.okWide Try.prog w r b0 22 v) (h : DataW.Trod enc Try.prog w base spare held 22 v d p) :
    ∃ A n c l, v = .slice A n c ∧ LAt oC 6 w w.heap.size A n l ∧ n ≤ c ∧ c ≤ maxLen ∧ ∀ x ∈ l, (OxAt w) x := by
  obtain ⟨A, n, c, rfl⟩ := okWide_slice Try.underlying22 hv
  obtain ⟨fuel, hf⟩ := h
  obtain ⟨A', n', c', l, e, h1⟩ := ops_in hf
  simp [Value.cells] at e
  obtain ⟨rfl, rfl, rfl⟩ := e
  exact ⟨A, n, c, l, rfl, h1⟩
set_option maxRecDepth 100000 in
theorem op_of {r : Reach} {b0 : Nat} {v : Value} {d : DataW H} {p : List MemPlace} (hv : Value.okWide Try.prog w r b0 30 v) (h : DataW.Trod enc Try.prog w base spare held 30 v d p) : ∃ o : Ox, v = .agg (oC o).toArray ∧ OxAt w o := by
  obtain ⟨cs, rfl, hsz⟩ := okWide_struct Try.underlying30 hv
  obtain ⟨fuel, hf⟩ := h
  obtain ⟨l9, e, b⟩ := op_el (show cs.toList.length = 6 by simpa using hsz.trans celt30) hf
  obtain ⟨l⟩ := cs
  simp only at e; subst e; exact ⟨l9, rfl, b⟩
end
theorem cells6 {t : TypeId} (w : World) (g : Nat) (v0 v1 v2 v3 v4 v5 : Value) (h : Blk w g t #[v0, v1, v2, v3, v4, v5]) : w.cell? ⟨g, 0, none⟩ = some v0 ∧ w.cell? ⟨g, 1, none⟩ = some v1 ∧ w.cell? ⟨g, 2, none⟩ = some v2 ∧ w.cell? ⟨g, 3, none⟩ = some v3 ∧ w.cell? ⟨g, 4, none⟩ = some v4 ∧ w.cell? ⟨g, 5, none⟩ = some v5 := ⟨h.cell 0, h.cell 1, h.cell 2, h.cell 3, h.cell 4, h.cell 5⟩
theorem cells6z {t : TypeId} (w : World) (g : Nat) (v0 v1 v2 v3 v4 v5 : Value) (h : Blk w g t #[v0, v1, v2, v3, v4, v5]) : w.cell? ⟨g, 0, none⟩ = some v0 ∧ w.cell? ⟨g, 1, none⟩ = some v1 ∧ w.cell? ⟨g, 2, none⟩ = some v2 ∧ w.cell? ⟨g, 3, none⟩ = some v3 ∧ w.cell? ⟨g, 4, none⟩ = some v4 ∧ w.cell? ⟨g, 5, none⟩ = some v5 ∧ w.frozen? ⟨g, 0, none⟩ = false ∧ w.frozen? ⟨g, 1, none⟩ = false ∧ w.frozen? ⟨g, 2, none⟩ = false ∧ w.frozen? ⟨g, 3, none⟩ = false ∧ w.frozen? ⟨g, 4, none⟩ = false ∧ w.frozen? ⟨g, 5, none⟩ = false := ⟨h.cell 0, h.cell 1, h.cell 2, h.cell 3, h.cell 4, h.cell 5, h.frozen 0, h.frozen 1, h.frozen 2, h.frozen 3, h.frozen 4, h.frozen 5⟩
theorem ox_cells {w : World} {B n k : Nat} {A : Option Addr} {L : List Ox} (h : LAt oC 6 w B A n L) (hk : k < n) :
    ∃ ad, A = some ad ∧ ad.block < B ∧ w.cell? (ad.add (k * 6)) = some (Value.int .i64 (L[k]'(by rw [h.len]; exact hk)).kind) ∧ w.cell? ⟨(ad.add (k * 6)).block, (ad.add (k * 6)).off + 1, none⟩ = some (Value.string (L[k]'(by rw [h.len]; exact hk)).cust) ∧ w.cell? ⟨(ad.add (k * 6)).block, (ad.add (k * 6)).off + 2, none⟩ = some (Value.string (L[k]'(by rw [h.len]; exact hk)).cur) ∧ w.cell? ⟨(ad.add (k * 6)).block, (ad.add (k * 6)).off + 3, none⟩ = some (Value.int .i64 (L[k]'(by rw [h.len]; exact hk)).at_) ∧ w.cell? ⟨(ad.add (k * 6)).block, (ad.add (k * 6)).off + 4, none⟩ = some (Value.int .i64 (L[k]'(by rw [h.len]; exact hk)).num) ∧ w.cell? ⟨(ad.add (k * 6)).block, (ad.add (k * 6)).off + 5, none⟩ = some (Value.slice (L[k]'(by rw [h.len]; exact hk)).A (L[k]'(by rw [h.len]; exact hk)).n (L[k]'(by rw [h.len]; exact hk)).c) := by
  obtain ⟨ad, rfl, hb, hc⟩ := h.at_ hk
  have g := fun j u hj => (add_next ad (k * 6) j) ▸ hc (j + 1) u hj
  exact ⟨ad, rfl, hb, hc 0 _ rfl, g 0 _ rfl, g 1 _ rfl, g 2 _ rfl, g 3 _ rfl, g 4 _ rfl⟩
set_option maxRecDepth 100000 in
set_option maxHeartbeats 8000000 in
theorem smallO_any (A : Option Addr) (n c : Nat) (l : List Ox) (w : World) (h : LAt oC 6 w w.heap.size A n l) (hn : n ≤ maxLen) : Calls Try.prog 7 #[.slice A n c] w fun e w' => (∃ b, e = .returned (.bool b) ∧ (b = true → n ≤ 40 ∧ ∀ o ∈ l, o.n ≤ 70)) ∧ Below w.heap.size w w' := by
  have hl := Lib.hid h.len
  have hn2 : (n : Int) ≤ 9223372036854775807 := by simp only [maxLen] at hn; omega
  replace h := Lib.hid h
  clear hn
  go_enter Try.func7, Try.ntmps7
  go_wp2_with fail
  go_loopw [7] (fun i wr => ∃ k : Nat, k ≤ n ∧ i = .int .i64 k ∧ Hid (∀ o ∈ l.take k, o.n ≤ 70) ∧ Hid (Below w.heap.size w wr)) (fun i _ => n - (intOf i).toNat)
  case atStart => exact ⟨0, Nat.zero_le _, rfl, Lib.hid (fun o ho => by simp at ho), Below.refl _ _⟩
  case round =>
    obtain ⟨k, hkn, rfl, hx, hb⟩ := hrel
    by_cases hlt : k < n
    · have hk0 : (0 : Int) ≤ k := by omega
      have hk1 : (k : Int) < n := by omega
      have hkl : k < l.length := by have := hl.out; omega
      obtain ⟨ad, hA, -, e0, e1, e2, e3, e4, e5⟩ := ox_cells (h.out.more hb.out) hlt
      have hst : Hid (l[k].n ≤ 70 → ∀ o ∈ l.take (k + 1), o.n ≤ 70) := fun h7 o ho => by
        rw [List.take_succ_eq_append_getElem hkl] at ho
        rcases List.mem_append.1 ho with h1 | h1
        · exact hx.out o h1
        · rw [List.mem_singleton.1 h1]; exact h7
      obtain ⟨x, hx9⟩ : ∃ x, x = l[k] := ⟨_, rfl⟩
      rw [← hx9] at e0 e1 e2 e3 e4 e5 hst
      clear hx9
      obtain ⟨kind, cust, cur, t, num, iA, iN, iC2, its⟩ := x
      simp only at e0 e1 e2 e3 e4 e5 hst
      subst hA
      have hy := Blk.new wr 30 #[Value.int .i64 kind, Value.string cust, Value.string cur, Value.int .i64 t, Value.int .i64 num, Value.slice iA iN iC2]
      obtain ⟨m0, m1, m2, m3, m4, m5⟩ := cells6 ((wr.alloc (.cells #[Value.int .i64 kind, Value.string cust, Value.string cur, Value.int .i64 t, Value.int .i64 num, Value.slice iA iN iC2] 30))) (wr.heap.size) (Value.int .i64 kind) (Value.string cust) (Value.string cur) (Value.int .i64 t) (Value.int .i64 num) (Value.slice iA iN iC2) (hy)
      have hb2 : Hid (Below w.heap.size w (wr.alloc (.cells #[Value.int .i64 kind, Value.string cust, Value.string cur, Value.int .i64 t, Value.int .i64 num, Value.slice iA iN iC2] 30))) := hb.out.alloc hb.out.size _
      clear hy hb
      by_cases q1 : 70 < iN
      · have d1 : decide ((70 : Int) < (iN : Int)) = true := by apply decide_eq_true; omega
        go_wp2_with fail
        go_ret
        exact ⟨⟨_, rfl, fun e => Bool.noConfusion e⟩, hb2.out⟩
      have d1 : decide ((70 : Int) < (iN : Int)) = false := by apply decide_eq_false; omega
      by_cases q2 : 100 < cust.size
      · have d2 : decide ((100 : Int) < (cust.size : Int)) = true := by apply decide_eq_true; omega
        go_wp2_with fail
        go_ret
        exact ⟨⟨_, rfl, fun e => Bool.noConfusion e⟩, hb2.out⟩
      have d2 : decide ((100 : Int) < (cust.size : Int)) = false := by apply decide_eq_false; omega
      by_cases q3 : 20 < cur.size
      · have d3 : decide ((20 : Int) < (cur.size : Int)) = true := by apply decide_eq_true; omega
        go_wp2_with fail
        go_ret
        exact ⟨⟨_, rfl, fun e => Bool.noConfusion e⟩, hb2.out⟩
      have d3 : decide ((20 : Int) < (cur.size : Int)) = false := by apply decide_eq_false; omega
      have hx2 := Lib.hid (hst.out (by omega))
      go_wp2_with fail
      go_roundw
      case rel => exact ⟨k + 1, by omega, by go_num, hx2.out, hb2.out⟩
      case measure => simp [intOf]; omega
    · by_cases q4 : n ≤ 40
      · have d4 : decide ((n : Int) ≤ 40) = true := by apply decide_eq_true; omega
        have hx2 : Hid (∀ o ∈ l, o.n ≤ 70) := fun o ho => hx.out o (by rw [List.take_of_length_le (by have := hl.out; omega)]; exact ho)
        have q4h := Lib.hid q4
        go_wp2_with fail
        go_ret
        exact ⟨⟨_, rfl, fun _ => ⟨q4h.out, hx2.out⟩⟩, hb.out⟩
      · have d4 : decide ((n : Int) ≤ 40) = false := by apply decide_eq_false; omega
        go_wp2_with fail
        go_ret
        exact ⟨⟨_, rfl, fun e => Bool.noConfusion e⟩, hb.out⟩
def cA : ByteArray := ⟨#[65]⟩
def cE : ByteArray := ⟨#[69, 85, 82]⟩
def exI : It := ⟨2, 300, 1900, 1260000, 6300, 1197, 7497⟩
def exB1 : List Iv := [mkIv [] cA cE 5 [exI] 0]
def exB2 : List Iv := exB1 ++ [mkIv exB1 cA cE 6 [negIt exI] 1]
theorem exN : nameB cA = true := by decide +kernel
theorem exC : curB cE = true := by decide +kernel
theorem exS : smallI [exI] = true := by decide +kernel
theorem exIss : issueB [] cA cE 5 [exI] = (exB1, 0) := (issue_ok (b := []) rfl (Nat.zero_le _)).2.2.2.2.2 exN exC (by decide +kernel) (by decide) exS
theorem exV1 : validB exB1 = 0 := by
  have h := (issue_valid2 (b := []) (cust := cA) (cur := cE) (t := 5) (l := [exI]) rfl (Nat.zero_le _)).1
  rw [exIss] at h
  exact h
theorem exCr : creditB exB1 1 6 = (exB2, 0) := by
  have h := ((credit_ok (b := exB1) (num := 1) (t := 6) exV1 (by decide)).2 (mkIv [] cA cE 5 [exI] 0) (by decide) (by decide) rfl).2 rfl
  exact h.2.2 (by decide +kernel) (by decide +kernel)
theorem exV2 : validB exB2 = 0 := by
  have h := (credit_valid (b := exB1) (num := 1) (t := 6) exV1 (by decide)).1
  rw [exCr] at h
  exact h
theorem exD1 : dueS exB1 cA cE = 7497 := by
  have h := due_add [] (mkIv [] cA cE 5 [exI] 0) cA cE
  rw [show (if strEq (mkIv [] cA cE 5 [exI] 0).cust cA && strEq (mkIv [] cA cE 5 [exI] 0).cur cE then (mkIv [] cA cE 5 [exI] 0).gross else 0) = 7497 by show (if strEq cA cA && strEq cE cE then _ else _) = _; rw [strEq_self, strEq_self]; rfl] at h
  exact h
theorem exD2 : dueS exB2 cA cE = 0 := by
  have h := due_add exB1 (mkIv exB1 cA cE 6 [negIt exI] 1) cA cE
  rw [exD1, show (if strEq (mkIv exB1 cA cE 6 [negIt exI] 1).cust cA && strEq (mkIv exB1 cA cE 6 [negIt exI] 1).cur cE then (mkIv exB1 cA cE 6 [negIt exI] 1).gross else 0) = -7497 by show (if strEq cA cA && strEq cE cE then _ else _) = _; rw [strEq_self, strEq_self]; rfl] at h
  exact h
theorem exX : creditB exB2 1 6 = (exB2, 9) := by
  have h := ((credit_ok (b := exB2) (num := 1) (t := 6) exV2 (by decide)).2 (mkIv [] cA cE 5 [exI] 0) (by decide) (by decide) rfl).2 rfl
  exact h.1 (by decide +kernel)
theorem exY : creditB exB2 2 6 = (exB2, 10) := ((credit_ok (b := exB2) (num := 2) (t := 6) exV2 (by decide)).2 (mkIv exB1 cA cE 6 [negIt exI] 1) (by decide) (by decide) rfl).1 (by decide)
/-- what a call hands back, at plain values that are known -/
theorem ResB.of {w w' : World} {R : List Iv × Int} {B : List Iv} {E : Int} {e : Ending} (h : ResB w w' R.1 R.2 e) (hr : R = (B, E)) (hv : validB B = 0) : ∃ A n c L, e = .returned (.tuple #[.agg #[.slice A n c], .int .i64 E]) ∧ GoodM w' A n c L ∧ L.map Im.val = B := by
  obtain ⟨A, n, c, L, h1, h2, h3⟩ := h
  rw [hr] at h1 h3
  exact ⟨A, n, c, L, h1, ⟨h2, by rw [h3]; exact hv⟩, h3⟩
theorem GoodM.nlen {w : World} {A : Option Addr} {n c : Nat} {L : List Im} {B : List Iv} (h : GoodM w A n c L) (hv : L.map Im.val = B) : n = B.length := by rw [← hv, List.length_map, h.at_.len]
set_option maxRecDepth 100000 in
set_option maxHeartbeats 8000000 in
theorem ex_any (w : World) : Calls Try.prog 8 #[] w fun e w' => e = .returned (.bool true) ∧ Below w.heap.size w w' := by
  have hlit := (lit_at (e := 39) itC_len w [exI] #[Value.int .i64 2, Value.int .i64 300, Value.int .i64 1900, Value.int .i64 1260000, Value.int .i64 6300, Value.int .i64 1197, Value.int .i64 7497] (by simp [flat, itC, exI]))
  rw [show w.heap.size + 1 = (w.alloc (.cells #[Value.int .i64 2, Value.int .i64 300, Value.int .i64 1900, Value.int .i64 1260000, Value.int .i64 6300, Value.int .i64 1197, Value.int .i64 7497] 39)).heap.size by simp] at hlit
  have hb0 : Below w.heap.size w (w.alloc (.cells #[Value.int .i64 2, Value.int .i64 300, Value.int .i64 1900, Value.int .i64 1260000, Value.int .i64 6300, Value.int .i64 1197, Value.int .i64 7497] 39)) := a1 w _
  have hc1 := Lib.hid (issue_any none 0 0 [] cA cE 5 (some ⟨w.heap.size, 0, none⟩) 1 1 [exI] (w.alloc (.cells #[Value.int .i64 2, Value.int .i64 300, Value.int .i64 1900, Value.int .i64 1260000, Value.int .i64 6300, Value.int .i64 1197, Value.int .i64 7497] 39)) (GoodM.nil _) ⟨hlit, Nat.le_refl _, by simp only [maxLen]; omega⟩ (by omega) (by omega))
  replace hb0 := Lib.hid hb0
  clear hlit
  go_enter Try.func8, Try.ntmps8
  go_wp2_with fail
  refine hc1.out.mono ?_; rintro e w1 ⟨hr, hq⟩
  obtain ⟨A1, n1, c1, L1, rfl, hG1, hv1⟩ := hr.of exIss exV1
  have hn1 : Hid (n1 ≤ 255) := by show _ ≤ _; rw [hG1.nlen hv1]; decide
  have hb1 := Lib.hid ((hb0.out.trans (hq.mono hb0.out.size)).alloc (hb0.out.trans (hq.mono hb0.out.size)).size (.cells #[Value.slice A1 n1 c1] 27))
  have hG1 := Lib.hid (hG1.more (a1 w1 (.cells #[Value.slice A1 n1 c1] 27)))
  have hx1 := Lib.hid (Blk.new w1 27 #[Value.slice A1 n1 c1])
  replace hv1 := Lib.hid hv1
  clear hq hr hc1 hb0
  have x0 : ((w1.alloc (.cells #[Value.slice A1 n1 c1] 27))).cell? ⟨w1.heap.size, 0, none⟩ = some (Value.slice A1 n1 c1) := (hx1.out).cell 0
  go_wp2_with fail
  clear x0
  generalize (w1.alloc (.cells #[Value.slice A1 n1 c1] 27)) = w2 at *
  obtain ⟨gx, hgx⟩ : ∃ gx, gx = w1.heap.size := ⟨_, rfl⟩
  rw [← hgx] at hx1 ⊢
  replace hgx := Lib.hid hgx
  have hc2 := due_any A1 n1 c1 L1 cA cE w2 hG1.out
  rw [hv1.out, exD1] at hc2
  replace hc2 := Lib.hid hc2
  refine hc2.out.mono ?_; rintro e w3 ⟨rfl, hq⟩
  have hb3 := Lib.hid (hb1.out.trans (hq.mono hb1.out.size))
  have hG3 := Lib.hid (hG1.out.more hq)
  have hx3 := Lib.hid (hx1.out.below hq hx1.out.lt)
  have hc3 := credit_any A1 n1 c1 L1 1 6 w3 hG3.out hn1.out
  rw [hv1.out] at hc3
  replace hc3 := Lib.hid hc3
  clear hq hc2 hb1 hG1 hx1
  have x0 : (w3).cell? ⟨gx, 0, none⟩ = some (Value.slice A1 n1 c1) := (hx3.out).cell 0
  go_wp2_with fail
  clear x0
  refine hc3.out.mono ?_; rintro e w4 ⟨hr, hq⟩
  obtain ⟨A2, n2, c2, L2, rfl, hG2, hv2⟩ := hr.of exCr exV2
  have hn2 : Hid (n2 ≤ 255) := by show _ ≤ _; rw [hG2.nlen hv2]; decide
  have hb4 := Lib.hid ((hb3.out.trans (hq.mono hb3.out.size)).alloc (hb3.out.trans (hq.mono hb3.out.size)).size (.cells #[Value.slice A2 n2 c2] 27))
  have hG4 := Lib.hid (hG2.more (a1 w4 (.cells #[Value.slice A2 n2 c2] 27)))
  have hy4 := Lib.hid (Blk.new w4 27 #[Value.slice A2 n2 c2])
  replace hv2 := Lib.hid hv2
  clear hq hr hc3 hb3 hG3 hx3 hG2
  have x0 : ((w4.alloc (.cells #[Value.slice A2 n2 c2] 27))).cell? ⟨w4.heap.size, 0, none⟩ = some (Value.slice A2 n2 c2) := (hy4.out).cell 0
  go_wp2_with fail
  clear x0
  generalize (w4.alloc (.cells #[Value.slice A2 n2 c2] 27)) = w5 at *
  obtain ⟨gy, hgy⟩ : ∃ gy, gy = w4.heap.size := ⟨_, rfl⟩
  rw [← hgy] at hy4 ⊢
  replace hgy := Lib.hid hgy
  have hc4 := due_any A2 n2 c2 L2 cA cE w5 hG4.out
  rw [hv2.out, exD2] at hc4
  replace hc4 := Lib.hid hc4
  refine hc4.out.mono ?_; rintro e w6 ⟨rfl, hq⟩
  have hb6 := Lib.hid (hb4.out.trans (hq.mono hb4.out.size))
  have hG6 := Lib.hid (hG4.out.more hq)
  have hy6 := Lib.hid (hy4.out.below hq hy4.out.lt)
  have hc5 := credit_any A2 n2 c2 L2 1 6 w6 hG6.out hn2.out
  rw [hv2.out] at hc5
  replace hc5 := Lib.hid hc5
  clear hq hc4 hb4 hG4 hy4
  have x0 : (w6).cell? ⟨gy, 0, none⟩ = some (Value.slice A2 n2 c2) := (hy6.out).cell 0
  go_wp2_with fail
  clear x0
  refine hc5.out.mono ?_; rintro e w7 ⟨hr, hq⟩
  obtain ⟨A3, n3, c3, L3, rfl, -, -⟩ := hr.of exX exV2
  have hq7 : Below w6.heap.size w6 (w7.alloc (.cells #[Value.slice A3 n3 c3] 27)) := hq.alloc hq.size _
  have hb7 := Lib.hid (hb6.out.trans (hq7.mono hb6.out.size))
  have hG7 := Lib.hid (hG6.out.more hq7)
  have hy7 := Lib.hid (hy6.out.below hq7 hy6.out.lt)
  have hc6 := credit_any A2 n2 c2 L2 2 6 (w7.alloc (.cells #[Value.slice A3 n3 c3] 27)) hG7.out hn2.out
  rw [hv2.out] at hc6
  replace hc6 := Lib.hid hc6
  clear hq hr hc5 hb6 hG6 hy6 hq7
  have x0 : ((w7.alloc (.cells #[Value.slice A3 n3 c3] 27))).cell? ⟨gy, 0, none⟩ = some (Value.slice A2 n2 c2) := (hy7.out).cell 0
  go_wp2_with fail
  clear x0
  refine hc6.out.mono ?_; rintro e w8 ⟨hr, hq⟩
  obtain ⟨A4, n4, c4, L4, rfl, -, -⟩ := hr.of exY exV2
  have hq8 : Below (w7.alloc (.cells #[Value.slice A3 n3 c3] 27)).heap.size (w7.alloc (.cells #[Value.slice A3 n3 c3] 27)) (w8.alloc (.cells #[Value.slice A4 n4 c4] 27)) := hq.alloc hq.size _
  have hb8 := Lib.hid (hb7.out.trans (hq8.mono hb7.out.size))
  clear hq hr hc6 hb7 hG7 hy7 hq8
  go_wp2_with fail
  go_ret
  exact ⟨rfl, hb8.out⟩
end Go.Proofs.Ytadgdbakgmjekaa
