/- How the arguments of the authorization laws read. -/
import Derived.Test.YtiggpgeldigknaaArgs
import Derived.Test.YtiggpgeldigknaaAu
set_option linter.unusedVariables false
set_option linter.unusedSimpArgs false
namespace Go.Proofs.Ytiggpgeldigknaa
open Go.ChangeShapes Go.WideShapes Go.Deep Go.Joins Go.RowKit
theorem cells33 : Try.prog.cellsOf 33 = 6 := by kernel_rfl
theorem cells9 : Try.prog.cellsOf 9 = 1 := by kernel_rfl
theorem cells24 : Try.prog.cellsOf 24 = 4 := by kernel_rfl
section
variable {H : Type} {enc : TypeId × Value → H} {w : World} {base : Nat} {spare : Nat → Bool} {held : Bool}
set_option maxRecDepth 100000 in
theorem toks_in {fuel : Nat} {cs : List Value} {x : DataW H × List MemPlace} (h : DataW.trod enc Try.prog w base spare held fuel 22 cs = some x) :
    ∃ A n c l, cs = [.slice A n c] ∧ TAt w w.heap.size A n l ∧ n ≤ c ∧ c ≤ maxLen ∧ ∀ t ∈ l, TkOk t :=
  slice_of (f := tkC) TkOk Try.underlying22 Try.underlying33 (by kernel_rfl) cells33 tkC_len (by decide) (fun n g ys hf => by
    obtain ⟨y0, t0⟩ := hf 0 _ rfl
    obtain ⟨y1, t1⟩ := hf 1 _ rfl
    obtain ⟨y2, t2⟩ := hf 2 _ rfl
    obtain ⟨y3, t3⟩ := hf 3 _ rfl
    obtain ⟨y4, t4⟩ := hf 4 _ rfl
    obtain ⟨y5, t5⟩ := hf 5 _ rfl
    obtain ⟨s0, e0, _, b0⟩ := DataW.trod_string Try.underlying9 t0
    obtain ⟨s1, e1, _, b1⟩ := DataW.trod_string Try.underlying9 t1
    obtain ⟨s2, e2, _, b2⟩ := DataW.trod_string Try.underlying9 t2
    obtain ⟨z3, e3, _, _⟩ := DataW.trod_int Try.underlying3 t3
    obtain ⟨z4, e4, _, _⟩ := DataW.trod_int Try.underlying3 t4
    obtain ⟨z5, e5, _, _⟩ := DataW.trod_int Try.underlying3 t5
    simp only [List.cons.injEq, and_true] at e0 e1 e2 e3 e4 e5
    refine ⟨⟨s0, s1, s2, z3, z4, z5⟩, fun j u hu => ?_, b0, b1, b2⟩
    match j, hu with
    | 0, hu => simp [tkC] at hu; rw [e0, ← hu]
    | 1, hu => simp [tkC] at hu; rw [e1, ← hu]
    | 2, hu => simp [tkC] at hu; rw [e2, ← hu]
    | 3, hu => simp [tkC] at hu; rw [e3, ← hu]
    | 4, hu => simp [tkC] at hu; rw [e4, ← hu]
    | 5, hu => simp [tkC] at hu; rw [e5, ← hu]
    | j + 6, hu => simp [tkC] at hu) h
set_option maxRecDepth 100000 in
theorem strs_in {fuel : Nat} {cs : List Value} {x : DataW H × List MemPlace} (h : DataW.trod enc Try.prog w base spare held fuel 25 cs = some x) :
    ∃ A n c l, cs = [.slice A n c] ∧ GAt w w.heap.size A n l ∧ n ≤ c ∧ c ≤ maxLen ∧ SOk l :=
  ones_of Value.string (fun s => s.size ≤ maxLen) Try.underlying25 cells9 (fun n v y hy => by
    obtain ⟨s, e, _, b⟩ := DataW.trod_string Try.underlying9 hy
    exact ⟨s, by simpa using e, b⟩) h
set_option maxRecDepth 100000 in
theorem toks_of {r : Reach} {b0 : Nat} {v : Value} {d : DataW H} {p : List MemPlace} (hv : Value.okWide Try.prog w r b0 22 v) (h : DataW.Trod enc Try.prog w base spare held 22 v d p) :
    ∃ A n c l, v = .slice A n c ∧ TAt w w.heap.size A n l ∧ n ≤ c ∧ c ≤ maxLen ∧ ∀ t ∈ l, TkOk t := by
  obtain ⟨A, n, c, rfl⟩ := okWide_slice Try.underlying22 hv
  obtain ⟨fuel, hf⟩ := h
  obtain ⟨A', n', c', l, e, h1⟩ := toks_in hf
  simp [Value.cells] at e
  obtain ⟨rfl, rfl, rfl⟩ := e
  exact ⟨A, n, c, l, rfl, h1⟩
set_option maxRecDepth 100000 in
theorem strs_of {r : Reach} {b0 : Nat} {v : Value} {d : DataW H} {p : List MemPlace} (hv : Value.okWide Try.prog w r b0 25 v) (h : DataW.Trod enc Try.prog w base spare held 25 v d p) :
    ∃ A n c l, v = .slice A n c ∧ GAt w w.heap.size A n l ∧ n ≤ c ∧ c ≤ maxLen ∧ SOk l := by
  obtain ⟨A, n, c, rfl⟩ := okWide_slice Try.underlying25 hv
  obtain ⟨fuel, hf⟩ := h
  obtain ⟨A', n', c', l, e, h1⟩ := strs_in hf
  simp [Value.cells] at e
  obtain ⟨rfl, rfl, rfl⟩ := e
  exact ⟨A, n, c, l, rfl, h1⟩
set_option maxRecDepth 100000 in
theorem tok_of {r : Reach} {b0 : Nat} {v : Value} {d : DataW H} {p : List MemPlace} (hv : Value.okWide Try.prog w r b0 33 v) (h : DataW.Trod enc Try.prog w base spare held 33 v d p) :
    ∃ t : Tk, v = tkV t ∧ TkOk t := by
  obtain ⟨v0, v1, v2, v3, v4, v5, y0, y1, y2, y3, y4, y5, n, rfl, _, _, t0, t1, t2, t3, t4, t5⟩ := open_agg6 Try.underlying33 (by kernel_rfl) cells33 hv h
  obtain ⟨s0, e0, _, b0⟩ := DataW.trod_string Try.underlying9 t0
  obtain ⟨s1, e1, _, b1⟩ := DataW.trod_string Try.underlying9 t1
  obtain ⟨s2, e2, _, b2⟩ := DataW.trod_string Try.underlying9 t2
  obtain ⟨z3, e3, _, _⟩ := DataW.trod_int Try.underlying3 t3
  obtain ⟨z4, e4, _, _⟩ := DataW.trod_int Try.underlying3 t4
  obtain ⟨z5, e5, _, _⟩ := DataW.trod_int Try.underlying3 t5
  cases e0; cases e1; cases e2; cases e3; cases e4; cases e5
  exact ⟨⟨s0, s1, s2, z3, z4, z5⟩, rfl, b0, b1, b2⟩
set_option maxRecDepth 100000 in
theorem case_of {r : Reach} {b0 : Nat} {v : Value} {d : DataW H} {p : List MemPlace} (hv : Value.okWide Try.prog w r b0 24 v) (h : DataW.Trod enc Try.prog w base spare held 24 v d p) :
    ∃ (A : Option Addr) (n c : Nat) (l : List Tk) (C : Option Addr) (m k : Nat) (cc : List Tk) (id : ByteArray) (now : Int), v = .agg #[.slice A n c, .slice C m k, .string id, .int .i64 now] ∧
      TAt w w.heap.size A n l ∧ n ≤ maxLen ∧ TAt w w.heap.size C m cc ∧ m ≤ maxLen ∧ id.size ≤ maxLen ∧ (∀ t ∈ l, TkOk t) ∧ (∀ t ∈ cc, TkOk t) := by
  obtain ⟨v0, v1, v2, v3, y0, y1, y2, y3, n, rfl, _, _, t0, t1, t2, t3⟩ := open_agg4 Try.underlying24 (by kernel_rfl) cells24 hv h
  obtain ⟨A, n, c, l, e0, h0, g0, g0', k0⟩ := toks_in t0
  obtain ⟨C, m, k, cc, e1, h1, g1, g1', k1⟩ := toks_in t1
  obtain ⟨s2, e2, _, b2⟩ := DataW.trod_string Try.underlying9 t2
  obtain ⟨z3, e3, _, _⟩ := DataW.trod_int Try.underlying3 t3
  cases e0; cases e1; cases e2; cases e3
  exact ⟨A, n, c, l, C, m, k, cc, s2, z3, rfl, h0, Nat.le_trans g0 g0', h1, Nat.le_trans g1 g1', b2, k0, k1⟩
end
end Go.Proofs.Ytiggpgeldigknaa
