/- How the arguments of the orders' laws read. -/
import Derived.Test.YtpejfnfhbpckiaaEl
import Derived.Test.YtpejfnfhbpckiaaOA
set_option linter.unusedVariables false
set_option linter.unusedSimpArgs false
namespace Go.Proofs.Ytpejfnfhbpckiaa
open Go.ChangeShapes Go.WideShapes Go.Deep Go.Joins Go.RowKit Go.Proofs.Ytpejfnfhbpckiaa.Ord
theorem cells33 : Try.prog.cellsOf 33 = 7 := by kernel_rfl
theorem cells9 : Try.prog.cellsOf 9 = 1 := by kernel_rfl
theorem cells3 : Try.prog.cellsOf 3 = 1 := by kernel_rfl
theorem cells4 : Try.prog.cellsOf 4 = 1 := by kernel_rfl
theorem cells31 : Try.prog.cellsOf 31 = 2 := by kernel_rfl
theorem cells35 : Try.prog.cellsOf 35 = 8 := by kernel_rfl
structure Opn where
  kind : Int
  st : ByteArray
  conn : Int
  id : Int
  fr : Int
  tt : Int
  now : Int
  done : Bool
def opC (o : Opn) : List Value := [.int .i64 o.kind, .string o.st, .int .i64 o.conn, .int .i64 o.id, .int .i64 o.fr, .int .i64 o.tt, .int .i64 o.now, .bool o.done]
def opV (o : Opn) : Value := .agg #[.int .i64 o.kind, .string o.st, .int .i64 o.conn, .int .i64 o.id, .int .i64 o.fr, .int .i64 o.tt, .int .i64 o.now, .bool o.done]
theorem opC_len (o : Opn) : (opC o).length = 8 := rfl
section
variable {H : Type} {enc : TypeId × Value → H} {w : World} {base : Nat} {spare : Nat → Bool} {held : Bool}
theorem int_el {n : Nat} {v : Value} {y : DataW H × List MemPlace} (h : DataW.trod enc Try.prog w base spare held n 3 [v] = some y) : ∃ z : Int, v = .int .i64 z := by
  obtain ⟨z, e, _, _⟩ := DataW.trod_int Try.underlying3 h
  exact ⟨z, by simpa using e⟩
theorem str_el {n : Nat} {v : Value} {y : DataW H × List MemPlace} (h : DataW.trod enc Try.prog w base spare held n 9 [v] = some y) : ∃ s : ByteArray, v = .string s ∧ s.size ≤ maxLen := by
  obtain ⟨s, e, _, b⟩ := DataW.trod_string Try.underlying9 h
  exact ⟨s, by simpa using e, b⟩
theorem bool_el {n : Nat} {v : Value} {y : DataW H × List MemPlace} (h : DataW.trod enc Try.prog w base spare held n 4 [v] = some y) : ∃ b : Bool, v = .bool b := by
  obtain ⟨b, e, _⟩ := DataW.trod_bool Try.underlying4 h
  exact ⟨b, by simpa using e⟩
theorem span_el {n : Nat} {v0 v1 : Value} {y : DataW H × List MemPlace} (h : DataW.trod enc Try.prog w base spare held n 31 [v0, v1] = some y) : ∃ f t : Int, v0 = .int .i64 f ∧ v1 = .int .i64 t := by
  obtain ⟨xs, k, _, _, _, hl, hf⟩ := DataW.trod_struct Try.underlying31 h
  have h0 : DataW.trod enc Try.prog w base spare held k 3 (([v0, v1].drop 0).take (Try.prog.cellsOf 3)) = xs[0]? := hf 0 _ rfl
  have h1 : DataW.trod enc Try.prog w base spare held k 3 (([v0, v1].drop 1).take (Try.prog.cellsOf 3)) = xs[1]? := hf 1 _ rfl
  simp only [cells3, List.drop_zero, List.drop_succ_cons, List.take_succ_cons, List.take_zero] at h0 h1
  rw [List.getElem?_eq_getElem (by rw [hl]; decide)] at h0 h1
  obtain ⟨f, rfl⟩ := int_el h0
  obtain ⟨t, rfl⟩ := int_el h1
  exact ⟨f, t, rfl, rfl⟩
set_option maxRecDepth 100000 in
theorem order_el {n : Nat} {cs : List Value} {y : DataW H × List MemPlace} (hc : cs.length = 7) (h : DataW.trod enc Try.prog w base spare held n 33 cs = some y) : ∃ o : O, cs = oC o ∧ o.st.size ≤ maxLen := by
  match cs, hc with
  | [c0, c1, c2, c3, c4, c5, c6], _ =>
    obtain ⟨xs, k, _, _, _, hl, hf⟩ := DataW.trod_struct Try.underlying33 h
    have h0 : DataW.trod enc Try.prog w base spare held k 3 (([c0, c1, c2, c3, c4, c5, c6].drop 0).take (Try.prog.cellsOf 3)) = xs[0]? := hf 0 _ rfl
    have h1 : DataW.trod enc Try.prog w base spare held k 3 (([c0, c1, c2, c3, c4, c5, c6].drop 1).take (Try.prog.cellsOf 3)) = xs[1]? := hf 1 _ rfl
    have h2 : DataW.trod enc Try.prog w base spare held k 9 (([c0, c1, c2, c3, c4, c5, c6].drop 2).take (Try.prog.cellsOf 9)) = xs[2]? := hf 2 _ rfl
    have h3 : DataW.trod enc Try.prog w base spare held k 31 (([c0, c1, c2, c3, c4, c5, c6].drop 3).take (Try.prog.cellsOf 31)) = xs[3]? := hf 3 _ rfl
    have h4 : DataW.trod enc Try.prog w base spare held k 3 (([c0, c1, c2, c3, c4, c5, c6].drop 5).take (Try.prog.cellsOf 3)) = xs[4]? := hf 4 _ rfl
    have h5 : DataW.trod enc Try.prog w base spare held k 3 (([c0, c1, c2, c3, c4, c5, c6].drop 6).take (Try.prog.cellsOf 3)) = xs[5]? := hf 5 _ rfl
    simp only [cells3, cells9, cells31, List.drop_zero, List.drop_succ_cons, List.take_succ_cons, List.take_zero] at h0 h1 h2 h3 h4 h5
    rw [List.getElem?_eq_getElem (by rw [hl]; decide)] at h0 h1 h2 h3 h4 h5
    obtain ⟨z0, rfl⟩ := int_el h0
    obtain ⟨z1, rfl⟩ := int_el h1
    obtain ⟨s2, rfl, b2⟩ := str_el h2
    obtain ⟨z3, z4, rfl, rfl⟩ := span_el h3
    obtain ⟨z5, rfl⟩ := int_el h4
    obtain ⟨z6, rfl⟩ := int_el h5
    exact ⟨⟨z0, z1, s2, z3, z4, z5, z6⟩, rfl, b2⟩
set_option maxRecDepth 100000 in
theorem op_el {n : Nat} {cs : List Value} {y : DataW H × List MemPlace} (hc : cs.length = 8) (h : DataW.trod enc Try.prog w base spare held n 35 cs = some y) : ∃ o : Opn, cs = opC o ∧ o.st.size ≤ maxLen := by
  match cs, hc with
  | [c0, c1, c2, c3, c4, c5, c6, c7], _ =>
    obtain ⟨xs, k, _, _, _, hl, hf⟩ := DataW.trod_struct Try.underlying35 h
    have h0 : DataW.trod enc Try.prog w base spare held k 3 (([c0, c1, c2, c3, c4, c5, c6, c7].drop 0).take (Try.prog.cellsOf 3)) = xs[0]? := hf 0 _ rfl
    have h1 : DataW.trod enc Try.prog w base spare held k 9 (([c0, c1, c2, c3, c4, c5, c6, c7].drop 1).take (Try.prog.cellsOf 9)) = xs[1]? := hf 1 _ rfl
    have h2 : DataW.trod enc Try.prog w base spare held k 3 (([c0, c1, c2, c3, c4, c5, c6, c7].drop 2).take (Try.prog.cellsOf 3)) = xs[2]? := hf 2 _ rfl
    have h3 : DataW.trod enc Try.prog w base spare held k 3 (([c0, c1, c2, c3, c4, c5, c6, c7].drop 3).take (Try.prog.cellsOf 3)) = xs[3]? := hf 3 _ rfl
    have h4 : DataW.trod enc Try.prog w base spare held k 31 (([c0, c1, c2, c3, c4, c5, c6, c7].drop 4).take (Try.prog.cellsOf 31)) = xs[4]? := hf 4 _ rfl
    have h5 : DataW.trod enc Try.prog w base spare held k 3 (([c0, c1, c2, c3, c4, c5, c6, c7].drop 6).take (Try.prog.cellsOf 3)) = xs[5]? := hf 5 _ rfl
    have h6 : DataW.trod enc Try.prog w base spare held k 4 (([c0, c1, c2, c3, c4, c5, c6, c7].drop 7).take (Try.prog.cellsOf 4)) = xs[6]? := hf 6 _ rfl
    simp only [cells3, cells9, cells4, cells31, List.drop_zero, List.drop_succ_cons, List.take_succ_cons, List.take_zero] at h0 h1 h2 h3 h4 h5 h6
    rw [List.getElem?_eq_getElem (by rw [hl]; decide)] at h0 h1 h2 h3 h4 h5 h6
    obtain ⟨z0, rfl⟩ := int_el h0
    obtain ⟨s1, rfl, b1⟩ := str_el h1
    obtain ⟨z2, rfl⟩ := int_el h2
    obtain ⟨z3, rfl⟩ := int_el h3
    obtain ⟨z4, z5, rfl, rfl⟩ := span_el h4
    obtain ⟨z6, rfl⟩ := int_el h5
    obtain ⟨b7, rfl⟩ := bool_el h6
    exact ⟨⟨z0, s1, z2, z3, z4, z5, z6, b7⟩, rfl, b1⟩
theorem orders_of {r : Reach} {b0 : Nat} {v : Value} {d : DataW H} {p : List MemPlace} (hv : Value.okWide Try.prog w r b0 22 v) (h : DataW.Trod enc Try.prog w base spare held 22 v d p) :
    ∃ A n c l, v = .slice A n c ∧ OAt w w.heap.size A n l ∧ n ≤ c ∧ c ≤ maxLen ∧ ∀ o ∈ l, o.st.size ≤ maxLen := by
  obtain ⟨A, n, c, rfl⟩ := okWide_slice Try.underlying22 hv
  obtain ⟨fuel, hf⟩ := h
  obtain ⟨A', n', c', l, e, h1⟩ := slice_el (f := oC) (s := 7) (fun o => o.st.size ≤ maxLen) Try.underlying22 cells33 oC_len (by decide) (fun n cs y hc hy => order_el hc hy) hf
  simp [Value.cells] at e
  obtain ⟨rfl, rfl, rfl⟩ := e
  exact ⟨A, n, c, l, rfl, h1⟩
theorem ops_of {r : Reach} {b0 : Nat} {v : Value} {d : DataW H} {p : List MemPlace} (hv : Value.okWide Try.prog w r b0 40 v) (h : DataW.Trod enc Try.prog w base spare held 40 v d p) :
    ∃ A n c l, v = .slice A n c ∧ LAt opC 8 w w.heap.size A n l ∧ n ≤ c ∧ c ≤ maxLen ∧ ∀ o ∈ l, o.st.size ≤ maxLen := by
  obtain ⟨A, n, c, rfl⟩ := okWide_slice Try.underlying40 hv
  obtain ⟨fuel, hf⟩ := h
  obtain ⟨A', n', c', l, e, h1⟩ := slice_el (f := opC) (s := 8) (fun o => o.st.size ≤ maxLen) Try.underlying40 cells35 opC_len (by decide) (fun n cs y hc hy => op_el hc hy) hf
  simp [Value.cells] at e
  obtain ⟨rfl, rfl, rfl⟩ := e
  exact ⟨A, n, c, l, rfl, h1⟩
theorem op_of {r : Reach} {b0 : Nat} {v : Value} {d : DataW H} {p : List MemPlace} (hv : Value.okWide Try.prog w r b0 35 v) (h : DataW.Trod enc Try.prog w base spare held 35 v d p) :
    ∃ o : Opn, v = opV o ∧ o.st.size ≤ maxLen := by
  obtain ⟨cs, rfl, hsz⟩ := okWide_struct Try.underlying35 hv
  obtain ⟨fuel, hf⟩ := h
  obtain ⟨o, e, b⟩ := op_el (show cs.toList.length = 8 by simpa using hsz.trans cells35) hf
  have e2 : cs.toList = opC o := e
  obtain ⟨l⟩ := cs
  simp only at e2
  exact ⟨o, by rw [e2]; rfl, b⟩
end
end Go.Proofs.Ytpejfnfhbpckiaa
