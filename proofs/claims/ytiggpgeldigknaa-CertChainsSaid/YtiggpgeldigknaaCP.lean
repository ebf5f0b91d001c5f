/- How the arguments of the certificates' laws read. -/
import Derived.Test.YtiggpgeldigknaaEl
import Derived.Test.YtiggpgeldigknaaCG
set_option linter.unusedVariables false
set_option linter.unusedSimpArgs false
namespace Go.Proofs.Ytiggpgeldigknaa
open Go.ChangeShapes Go.WideShapes Go.Deep Go.Joins Go.RowKit
theorem cells3 : Try.prog.cellsOf 3 = 1 := by kernel_rfl
theorem cells4 : Try.prog.cellsOf 4 = 1 := by kernel_rfl
theorem cells9 : Try.prog.cellsOf 9 = 1 := by kernel_rfl
theorem cells50 : Try.prog.cellsOf 50 = 1 := by kernel_rfl
theorem cells49 : Try.prog.cellsOf 49 = 2 := by kernel_rfl
theorem cells52 : Try.prog.cellsOf 52 = 8 := by kernel_rfl
theorem cells55 : Try.prog.cellsOf 55 = 1 := by kernel_rfl
theorem cells57 : Try.prog.cellsOf 57 = 1 := by kernel_rfl
theorem cells59 : Try.prog.cellsOf 59 = 2 := by kernel_rfl
theorem cells92 : Try.prog.cellsOf 92 = 10 := by kernel_rfl
/-- the ranges of a certificate's numbers -/
structure CtR (c : Ct) : Prop where
  s : -9223372036854775808 ≤ c.serial ∧ c.serial ≤ 9223372036854775807
  f : -9223372036854775808 ≤ c.from_ ∧ c.from_ ≤ 9223372036854775807
  t : -9223372036854775808 ≤ c.to_ ∧ c.to_ ≤ 9223372036854775807
  k : 0 ≤ c.key ∧ c.key < 18446744073709551616
def trueI (_ : Int) : Prop := True
theorem wf_i64' {n : Int} (h : (Lit.int .i64 n).wf = true) : -9223372036854775808 ≤ n ∧ n ≤ 9223372036854775807 := by simpa [Lit.wf, IntKind.min, IntKind.max, IntKind.signed, IntKind.bits] using h
theorem wf_u64' {n : Int} (h : (Lit.int .u64 n).wf = true) : 0 ≤ n ∧ n < 18446744073709551616 := by
  have : 0 ≤ n ∧ n ≤ 18446744073709551615 := by simpa [Lit.wf, IntKind.min, IntKind.max, IntKind.signed, IntKind.bits] using h
  omega
section
variable {H : Type} {enc : TypeId × Value → H} {w : World} {base : Nat} {spare : Nat → Bool} {held : Bool}
theorem int_el {n : Nat} {v : Value} {y : DataW H × List MemPlace} (h : DataW.trod enc Try.prog w base spare held n 3 [v] = some y) : ∃ z : Int, v = .int .i64 z ∧ (-9223372036854775808 ≤ z ∧ z ≤ 9223372036854775807) := by
  obtain ⟨z, e, _, hw⟩ := DataW.trod_int Try.underlying3 h
  exact ⟨z, by simpa using e, wf_i64' hw⟩
theorem str_el {n : Nat} {v : Value} {y : DataW H × List MemPlace} (h : DataW.trod enc Try.prog w base spare held n 9 [v] = some y) : ∃ s : ByteArray, v = .string s ∧ s.size ≤ maxLen := by
  obtain ⟨s, e, _, b⟩ := DataW.trod_string Try.underlying9 h
  exact ⟨s, by simpa using e, b⟩
theorem bool_el {n : Nat} {v : Value} {y : DataW H × List MemPlace} (h : DataW.trod enc Try.prog w base spare held n 4 [v] = some y) : ∃ b : Bool, v = .bool b := by
  obtain ⟨b, e, _⟩ := DataW.trod_bool Try.underlying4 h
  exact ⟨b, by simpa using e⟩
theorem u64_el {n : Nat} {v : Value} {y : DataW H × List MemPlace} (h : DataW.trod enc Try.prog w base spare held n 50 [v] = some y) : ∃ z : Int, v = .int .u64 z ∧ (0 ≤ z ∧ z < 18446744073709551616) := by
  obtain ⟨z, e, _, hw⟩ := DataW.trod_int Try.underlying50 h
  exact ⟨z, by simpa using e, wf_u64' hw⟩
set_option maxRecDepth 100000 in
theorem span_el {n : Nat} {cs : List Value} {y : DataW H × List MemPlace} (hc : cs.length = 2) (h : DataW.trod enc Try.prog w base spare held n 49 cs = some y) : ∃ f t : Int, cs = [.int .i64 f, .int .i64 t] ∧ (-9223372036854775808 ≤ f ∧ f ≤ 9223372036854775807) ∧ (-9223372036854775808 ≤ t ∧ t ≤ 9223372036854775807) := by
  match cs, hc with
  | [c0, c1], _ =>
    obtain ⟨xs, k, _, _, _, hl, hf⟩ := DataW.trod_struct Try.underlying49 h
    have h0 : DataW.trod enc Try.prog w base spare held k 3 (([c0, c1].drop 0).take (Try.prog.cellsOf 3)) = xs[0]? := hf 0 _ rfl
    have h1 : DataW.trod enc Try.prog w base spare held k 3 (([c0, c1].drop 1).take (Try.prog.cellsOf 3)) = xs[1]? := hf 1 _ rfl
    simp only [cells3, List.drop_zero, List.drop_succ_cons, List.take_succ_cons, List.take_zero] at h0 h1
    rw [List.getElem?_eq_getElem (by rw [hl]; decide)] at h0 h1
    obtain ⟨z0, rfl, r0⟩ := int_el h0
    obtain ⟨z1, rfl, r1⟩ := int_el h1
    exact ⟨z0, z1, rfl, r0, r1⟩
set_option maxRecDepth 100000 in
theorem cert_el {n : Nat} {cs : List Value} {y : DataW H × List MemPlace} (hc : cs.length = 8) (h : DataW.trod enc Try.prog w base spare held n 52 cs = some y) : ∃ c : Ct, cs = ctC c ∧ CtR c := by
  match cs, hc with
  | [c0, c1, c2, c3, c4, c5, c6, c7], _ =>
    obtain ⟨xs, k, _, _, _, hl, hf⟩ := DataW.trod_struct Try.underlying52 h
    have h0 : DataW.trod enc Try.prog w base spare held k 3 (([c0, c1, c2, c3, c4, c5, c6, c7].drop 0).take (Try.prog.cellsOf 3)) = xs[0]? := hf 0 _ rfl
    have h1 : DataW.trod enc Try.prog w base spare held k 9 (([c0, c1, c2, c3, c4, c5, c6, c7].drop 1).take (Try.prog.cellsOf 9)) = xs[1]? := hf 1 _ rfl
    have h2 : DataW.trod enc Try.prog w base spare held k 9 (([c0, c1, c2, c3, c4, c5, c6, c7].drop 2).take (Try.prog.cellsOf 9)) = xs[2]? := hf 2 _ rfl
    have h3 : DataW.trod enc Try.prog w base spare held k 49 (([c0, c1, c2, c3, c4, c5, c6, c7].drop 3).take (Try.prog.cellsOf 49)) = xs[3]? := hf 3 _ rfl
    have h4 : DataW.trod enc Try.prog w base spare held k 4 (([c0, c1, c2, c3, c4, c5, c6, c7].drop 5).take (Try.prog.cellsOf 4)) = xs[4]? := hf 4 _ rfl
    have h5 : DataW.trod enc Try.prog w base spare held k 50 (([c0, c1, c2, c3, c4, c5, c6, c7].drop 6).take (Try.prog.cellsOf 50)) = xs[5]? := hf 5 _ rfl
    have h6 : DataW.trod enc Try.prog w base spare held k 50 (([c0, c1, c2, c3, c4, c5, c6, c7].drop 7).take (Try.prog.cellsOf 50)) = xs[6]? := hf 6 _ rfl
    simp only [cells3, cells4, cells9, cells49, cells50, List.drop_zero, List.drop_succ_cons, List.take_succ_cons, List.take_zero] at h0 h1 h2 h3 h4 h5 h6
    rw [List.getElem?_eq_getElem (by rw [hl]; decide)] at h0 h1 h2 h3 h4 h5 h6
    obtain ⟨z0, rfl, r0⟩ := int_el h0
    obtain ⟨z1, rfl, r1⟩ := str_el h1
    obtain ⟨z2, rfl, r2⟩ := str_el h2
    obtain ⟨z3, z3t, ez3, r3, r3t⟩ := span_el (by rfl) h3
    obtain ⟨z4, rfl⟩ := bool_el h4
    obtain ⟨z5, rfl, r5⟩ := u64_el h5
    obtain ⟨z6, rfl, r6⟩ := u64_el h6
    exact by
      simp only [List.cons.injEq, and_true] at ez3
      obtain ⟨rfl, rfl⟩ := ez3
      exact ⟨⟨z0, z1, z2, z3, z3t, z4, z5, z6⟩, rfl, r0, r3, r3t, r5⟩
set_option maxRecDepth 100000 in
theorem certs_in {fuel : Nat} {cs : List Value} {x : DataW H × List MemPlace} (h : DataW.trod enc Try.prog w base spare held fuel 55 cs = some x) :
    ∃ A n c l, cs = [.slice A n c] ∧ LAt ctC 8 w w.heap.size A n l ∧ n ≤ c ∧ c ≤ maxLen ∧ ∀ x ∈ l, CtR x :=
  slice_el (f := ctC) (s := 8) CtR Try.underlying55 cells52 ctC_len (by decide) (fun n cs y hc hy => cert_el hc hy) h
set_option maxRecDepth 100000 in
theorem certs_in1 {fuel : Nat} {v : Value} {x : DataW H × List MemPlace} (h : DataW.trod enc Try.prog w base spare held fuel 55 [v] = some x) :
    ∃ A n c l, v = .slice A n c ∧ LAt ctC 8 w w.heap.size A n l ∧ n ≤ c ∧ c ≤ maxLen ∧ ∀ x ∈ l, CtR x := by
  obtain ⟨A, n, c, l, e, h1⟩ := certs_in h
  exact ⟨A, n, c, l, by simpa using e, h1⟩
set_option maxRecDepth 100000 in
theorem certs_in_of {r : Reach} {b0 : Nat} {v : Value} {d : DataW H} {p : List MemPlace} (hv : Value.okWide Try.prog w r b0 55 v) (h : DataW.Trod enc Try.prog w base spare held 55 v d p) :
    ∃ A n c l, v = .slice A n c ∧ LAt ctC 8 w w.heap.size A n l ∧ n ≤ c ∧ c ≤ maxLen ∧ ∀ x ∈ l, CtR x := by
  obtain ⟨A, n, c, rfl⟩ := okWide_slice Try.underlying55 hv
  obtain ⟨fuel, hf⟩ := h
  obtain ⟨A', n', c', l, e, h1⟩ := certs_in hf
  simp [Value.cells] at e
  obtain ⟨rfl, rfl, rfl⟩ := e
  exact ⟨A, n, c, l, rfl, h1⟩
set_option maxRecDepth 100000 in
theorem ints_in {fuel : Nat} {cs : List Value} {x : DataW H × List MemPlace} (h : DataW.trod enc Try.prog w base spare held fuel 57 cs = some x) :
    ∃ A n c l, cs = [.slice A n c] ∧ LAt iC 1 w w.heap.size A n l ∧ n ≤ c ∧ c ≤ maxLen ∧ ∀ x ∈ l, trueI x :=
  slice_el (f := iC) (s := 1) trueI Try.underlying57 cells3 iC_len (by decide) (fun n cs y hc hy => by
    match cs, hc with
    | [c], _ =>
      obtain ⟨z, rfl, _⟩ := int_el hy
      exact ⟨z, rfl, trivial⟩) h
set_option maxRecDepth 100000 in
theorem ints_in1 {fuel : Nat} {v : Value} {x : DataW H × List MemPlace} (h : DataW.trod enc Try.prog w base spare held fuel 57 [v] = some x) :
    ∃ A n c l, v = .slice A n c ∧ LAt iC 1 w w.heap.size A n l ∧ n ≤ c ∧ c ≤ maxLen ∧ ∀ x ∈ l, trueI x := by
  obtain ⟨A, n, c, l, e, h1⟩ := ints_in h
  exact ⟨A, n, c, l, by simpa using e, h1⟩
set_option maxRecDepth 100000 in
theorem ints_in_of {r : Reach} {b0 : Nat} {v : Value} {d : DataW H} {p : List MemPlace} (hv : Value.okWide Try.prog w r b0 57 v) (h : DataW.Trod enc Try.prog w base spare held 57 v d p) :
    ∃ A n c l, v = .slice A n c ∧ LAt iC 1 w w.heap.size A n l ∧ n ≤ c ∧ c ≤ maxLen ∧ ∀ x ∈ l, trueI x := by
  obtain ⟨A, n, c, rfl⟩ := okWide_slice Try.underlying57 hv
  obtain ⟨fuel, hf⟩ := h
  obtain ⟨A', n', c', l, e, h1⟩ := ints_in hf
  simp [Value.cells] at e
  obtain ⟨rfl, rfl, rfl⟩ := e
  exact ⟨A, n, c, l, rfl, h1⟩
set_option maxRecDepth 100000 in
theorem trust_el {n : Nat} {cs : List Value} {y : DataW H × List MemPlace} (hc : cs.length = 2) (h : DataW.trod enc Try.prog w base spare held n 59 cs = some y) : ∃ A2 n2 c2 R A3 n3 c3 V, cs = [.slice A2 n2 c2, .slice A3 n3 c3] ∧ LAt ctC 8 w w.heap.size A2 n2 R ∧ LAt iC 1 w w.heap.size A3 n3 V ∧ ∀ x ∈ R, CtR x := by
  match cs, hc with
  | [c0, c1], _ =>
    obtain ⟨xs, k, _, _, _, hl, hf⟩ := DataW.trod_struct Try.underlying59 h
    have h0 : DataW.trod enc Try.prog w base spare held k 55 (([c0, c1].drop 0).take (Try.prog.cellsOf 55)) = xs[0]? := hf 0 _ rfl
    have h1 : DataW.trod enc Try.prog w base spare held k 57 (([c0, c1].drop 1).take (Try.prog.cellsOf 57)) = xs[1]? := hf 1 _ rfl
    simp only [cells55, cells57, List.drop_zero, List.drop_succ_cons, List.take_succ_cons, List.take_zero] at h0 h1
    rw [List.getElem?_eq_getElem (by rw [hl]; decide)] at h0 h1
    obtain ⟨z0A, z0n, z0c, z0, rfl, r0⟩ := certs_in1 h0
    obtain ⟨z1A, z1n, z1c, z1, rfl, r1⟩ := ints_in1 h1
    exact ⟨z0A, z0n, z0c, z0, z1A, z1n, z1c, z1, rfl, r0.1, r1.1, r0.2.2.2⟩
set_option maxRecDepth 100000 in
theorem descent_el {n : Nat} {cs : List Value} {y : DataW H × List MemPlace} (hc : cs.length = 10) (h : DataW.trod enc Try.prog w base spare held n 92 cs = some y) : ∃ (c : Ct) (A : Option Addr) (n k : Nat) (B : List Ct) (now : Int), cs = ctC c ++ [.slice A n k, .int .i64 now] ∧ CtR c ∧ LAt ctC 8 w w.heap.size A n B ∧ n ≤ maxLen ∧ ∀ x ∈ B, CtR x := by
  match cs, hc with
  | [c0, c1, c2, c3, c4, c5, c6, c7, c8, c9], _ =>
    obtain ⟨xs, k, _, _, _, hl, hf⟩ := DataW.trod_struct Try.underlying92 h
    have h0 : DataW.trod enc Try.prog w base spare held k 52 (([c0, c1, c2, c3, c4, c5, c6, c7, c8, c9].drop 0).take (Try.prog.cellsOf 52)) = xs[0]? := hf 0 _ rfl
    have h1 : DataW.trod enc Try.prog w base spare held k 55 (([c0, c1, c2, c3, c4, c5, c6, c7, c8, c9].drop 8).take (Try.prog.cellsOf 55)) = xs[1]? := hf 1 _ rfl
    have h2 : DataW.trod enc Try.prog w base spare held k 3 (([c0, c1, c2, c3, c4, c5, c6, c7, c8, c9].drop 9).take (Try.prog.cellsOf 3)) = xs[2]? := hf 2 _ rfl
    simp only [cells3, cells52, cells55, List.drop_zero, List.drop_succ_cons, List.take_succ_cons, List.take_zero] at h0 h1 h2
    rw [List.getElem?_eq_getElem (by rw [hl]; decide)] at h0 h1 h2
    obtain ⟨z0, ez0, r0⟩ := cert_el (by rfl) h0
    obtain ⟨z1A, z1n, z1c, z1, rfl, r1⟩ := certs_in1 h1
    obtain ⟨z2, rfl, r2⟩ := int_el h2
    exact by
      rw [show ([c0, c1, c2, c3, c4, c5, c6, c7, .slice z1A z1n z1c, .int .i64 z2] : List Value) = [c0, c1, c2, c3, c4, c5, c6, c7] ++ [.slice z1A z1n z1c, .int .i64 z2] from rfl, ez0]
      exact ⟨z0, z1A, z1n, z1c, z1, z2, rfl, r0, r1.1, Nat.le_trans r1.2.1 r1.2.2.1, r1.2.2.2⟩
set_option maxRecDepth 100000 in
theorem cert_of {r : Reach} {b0 : Nat} {v : Value} {d : DataW H} {p : List MemPlace} (hv : Value.okWide Try.prog w r b0 52 v) (h : DataW.Trod enc Try.prog w base spare held 52 v d p) : ∃ c : Ct, v = .agg (ctC c).toArray ∧ CtR c := by
  obtain ⟨cs, rfl, hsz⟩ := okWide_struct Try.underlying52 hv
  obtain ⟨fuel, hf⟩ := h
  obtain ⟨c, e, b⟩ := cert_el (show cs.toList.length = 8 by simpa using hsz.trans cells52) hf
  obtain ⟨l⟩ := cs
  exact ⟨c, by rw [← e], b⟩
set_option maxRecDepth 100000 in
theorem trust_of {r : Reach} {b0 : Nat} {v : Value} {d : DataW H} {p : List MemPlace} (hv : Value.okWide Try.prog w r b0 59 v) (h : DataW.Trod enc Try.prog w base spare held 59 v d p) : ∃ A2 n2 c2 R A3 n3 c3 V, v = .agg #[.slice A2 n2 c2, .slice A3 n3 c3] ∧ LAt ctC 8 w w.heap.size A2 n2 R ∧ LAt iC 1 w w.heap.size A3 n3 V ∧ ∀ x ∈ R, CtR x := by
  obtain ⟨cs, rfl, hsz⟩ := okWide_struct Try.underlying59 hv
  obtain ⟨fuel, hf⟩ := h
  obtain ⟨A2, n2, c2, R, A3, n3, c3, V, e, b⟩ := trust_el (show cs.toList.length = 2 by simpa using hsz.trans cells59) hf
  obtain ⟨l⟩ := cs
  exact ⟨A2, n2, c2, R, A3, n3, c3, V, by rw [← e], b⟩
set_option maxRecDepth 100000 in
theorem descent_of {r : Reach} {b0 : Nat} {v : Value} {d : DataW H} {p : List MemPlace} (hv : Value.okWide Try.prog w r b0 92 v) (h : DataW.Trod enc Try.prog w base spare held 92 v d p) : ∃ (c : Ct) (A : Option Addr) (n k : Nat) (B : List Ct) (now : Int), v = .agg (ctC c ++ [Value.slice A n k, Value.int .i64 now]).toArray ∧ CtR c ∧ LAt ctC 8 w w.heap.size A n B ∧ n ≤ maxLen ∧ ∀ x ∈ B, CtR x := by
  obtain ⟨cs, rfl, hsz⟩ := okWide_struct Try.underlying92 hv
  obtain ⟨fuel, hf⟩ := h
  obtain ⟨c, A, n, k, B, now, e, b⟩ := descent_el (show cs.toList.length = 10 by simpa using hsz.trans cells92) hf
  obtain ⟨l⟩ := cs
  exact ⟨c, A, n, k, B, now, by rw [← e], b⟩
end
end Go.Proofs.Ytiggpgeldigknaa
