/- Replicated servers: how the arguments read; long, walked. -/
import Derived.Test.YtiapeenfggjpnaaPQ
import Derived.Test.YtiapeenfggjpnaaOpen
set_option linter.unusedVariables false
set_option linter.unusedSimpArgs false
namespace Go.Proofs.Ytiapeenfggjpnaa
open Go.ChangeShapes Go.WideShapes Go.Deep Go.Joins Go.RowKit
theorem celt3 : Try.prog.cellsOf 3 = 1 := by kernel_rfl
theorem celt4 : Try.prog.cellsOf 4 = 1 := by kernel_rfl
theorem celt5 : Try.prog.cellsOf 5 = 1 := by kernel_rfl
theorem celt22 : Try.prog.cellsOf 22 = 1 := by kernel_rfl
theorem celt24 : Try.prog.cellsOf 24 = 4 := by kernel_rfl
theorem celt25 : Try.prog.cellsOf 25 = 1 := by kernel_rfl
theorem celt27 : Try.prog.cellsOf 27 = 3 := by kernel_rfl
theorem celt45 : Try.prog.cellsOf 45 = 1 := by kernel_rfl
theorem celt47 : Try.prog.cellsOf 47 = 3 := by kernel_rfl
theorem celt54 : Try.prog.cellsOf 54 = 1 := by kernel_rfl
theorem celt59 : Try.prog.cellsOf 59 = 2 := by kernel_rfl
/-- a call: its kind, its number and its bytes -/
structure Ox where
  kind : Int
  num : Int
  A : Option Addr
  n : Nat
  c : Nat
  d : List UInt8
def oC (o : Ox) : List Value := [.int .i64 o.kind, .int .i64 o.num, .slice o.A o.n o.c]
theorem oC_len (o : Ox) : (oC o).length = 3 := rfl
def i64In (n : Int) : Prop := -9223372036854775808 ≤ n ∧ n ≤ 9223372036854775807
def OxAt (w : World) (o : Ox) : Prop := (BAt w w.heap.size o.A o.n o.d ∧ o.n ≤ o.c ∧ o.c ≤ maxLen) ∧ i64In o.num
theorem OxAt.more {w w' : World} {o : Ox} (h : OxAt w o) (hb : Below w.heap.size w w') : OxAt w' o := ⟨⟨h.1.1.more hb, h.1.2⟩, h.2⟩
def Ox.val (o : Ox) : Oc := ⟨o.kind, o.num, o.d⟩
def anyE (w : World) (e : Em) : Prop := EmAt w anyB e
def anyS (w : World) (s : Sm) : Prop := SmAt w anyB s
def trueB (_ : UInt8) : Prop := True
def hC (x : Int) : List Value := [.int .u16 x]
theorem hC_len (x : Int) : (hC x).length = 1 := rfl
def u16In (n : Int) : Prop := 0 ≤ n ∧ n ≤ 65535
theorem wf_i64' {n : Int} (h : (Lit.int .i64 n).wf = true) : -9223372036854775808 ≤ n ∧ n ≤ 9223372036854775807 := by simpa [Lit.wf, IntKind.min, IntKind.max, IntKind.signed, IntKind.bits] using h
theorem wf_u8' {n : Int} (h : (Lit.int .u8 n).wf = true) : 0 ≤ n ∧ n ≤ 255 := by simpa [Lit.wf, IntKind.min, IntKind.max, IntKind.signed, IntKind.bits] using h
theorem wf_u16' {n : Int} (h : (Lit.int .u16 n).wf = true) : 0 ≤ n ∧ n ≤ 65535 := by simpa [Lit.wf, IntKind.min, IntKind.max, IntKind.signed, IntKind.bits] using h
theorem wf_u64' {n : Int} (h : (Lit.int .u64 n).wf = true) : 0 ≤ n ∧ n < 18446744073709551616 := by
  have : 0 ≤ n ∧ n ≤ 18446744073709551615 := by simpa [Lit.wf, IntKind.min, IntKind.max, IntKind.signed, IntKind.bits] using h
  omega
section
variable {H : Type} {enc : TypeId × Value → H} {w : World} {base : Nat} {spare : Nat → Bool} {held : Bool}
theorem int_el {n : Nat} {v : Value} {y : DataW H × List MemPlace} (h : DataW.trod enc Try.prog w base spare held n 3 [v] = some y) : ∃ z : Int, v = .int .i64 z ∧ (-9223372036854775808 ≤ z ∧ z ≤ 9223372036854775807) := by
  obtain ⟨z, e, _, hw⟩ := DataW.trod_int Try.underlying3 h
  exact ⟨z, by simpa using e, wf_i64' hw⟩
theorem bool_el {n : Nat} {v : Value} {y : DataW H × List MemPlace} (h : DataW.trod enc Try.prog w base spare held n 4 [v] = some y) : ∃ b : Bool, v = .bool b := by
  obtain ⟨b, e, _⟩ := DataW.trod_bool Try.underlying4 h
  exact ⟨b, by simpa using e⟩
theorem half_el {n : Nat} {v : Value} {y : DataW H × List MemPlace} (h : DataW.trod enc Try.prog w base spare held n 54 [v] = some y) : ∃ z : Int, v = .int .u16 z ∧ (0 ≤ z ∧ z ≤ 65535) := by
  obtain ⟨z, e, _, hw⟩ := DataW.trod_int Try.underlying54 h
  exact ⟨z, by simpa using e, wf_u16' hw⟩
theorem byte_el {n : Nat} {v : Value} {y : DataW H × List MemPlace} (h : DataW.trod enc Try.prog w base spare held n 5 [v] = some y) : ∃ b : UInt8, v = .int .u8 (b.toNat : Int) := by
  obtain ⟨z, e, _, hw⟩ := DataW.trod_int Try.underlying5 h
  obtain ⟨h1, h2⟩ := wf_u8' hw
  refine ⟨UInt8.ofNat z.toNat, ?_⟩
  have e2 : v = .int .u8 z := by simpa using e
  rw [e2]
  congr 1
  have : (UInt8.ofNat z.toNat).toNat = z.toNat := by simp; omega
  rw [this]; omega
set_option maxRecDepth 100000 in
theorem bytes_in {fuel : Nat} {cs : List Value} {x : DataW H × List MemPlace} (h : DataW.trod enc Try.prog w base spare held fuel 25 cs = some x) :
    ∃ A n c l, cs = [.slice A n c] ∧ LAt bC 1 w w.heap.size A n l ∧ n ≤ c ∧ c ≤ maxLen ∧ ∀ x ∈ l, trueB x :=
  slice_el (f := bC) (s := 1) trueB Try.underlying25 celt5 bC_len (by decide) (fun n cs y hc hy => by
    match cs, hc with
    | [c], _ =>
      obtain ⟨b, rfl⟩ := byte_el hy
      exact ⟨b, rfl, trivial⟩) h
set_option maxRecDepth 100000 in
theorem bytes_in1 {fuel : Nat} {v : Value} {x : DataW H × List MemPlace} (h : DataW.trod enc Try.prog w base spare held fuel 25 [v] = some x) :
    ∃ A n c l, v = .slice A n c ∧ LAt bC 1 w w.heap.size A n l ∧ n ≤ c ∧ c ≤ maxLen ∧ ∀ x ∈ l, trueB x := by
  obtain ⟨A, n, c, l, e, h1⟩ := bytes_in h
  exact ⟨A, n, c, l, by simpa using e, h1⟩
set_option maxRecDepth 100000 in
theorem bytes_in_of {r : Reach} {b0 : Nat} {v : Value} {d : DataW H} {p : List MemPlace} (hv : Value.okWide Try.prog w r b0 25 v) (h : DataW.Trod enc Try.prog w base spare held 25 v d p) :
    ∃ A n c l, v = .slice A n c ∧ LAt bC 1 w w.heap.size A n l ∧ n ≤ c ∧ c ≤ maxLen ∧ ∀ x ∈ l, trueB x := by
  obtain ⟨A, n, c, rfl⟩ := okWide_slice Try.underlying25 hv
  obtain ⟨fuel, hf⟩ := h
  obtain ⟨A', n', c', l, e, h1⟩ := bytes_in hf
  simp [Value.cells] at e
  obtain ⟨rfl, rfl, rfl⟩ := e
  exact ⟨A, n, c, l, rfl, h1⟩
set_option maxRecDepth 100000 in
theorem halves_in {fuel : Nat} {cs : List Value} {x : DataW H × List MemPlace} (h : DataW.trod enc Try.prog w base spare held fuel 53 cs = some x) :
    ∃ A n c l, cs = [.slice A n c] ∧ LAt hC 1 w w.heap.size A n l ∧ n ≤ c ∧ c ≤ maxLen ∧ ∀ x ∈ l, u16In x :=
  slice_el (f := hC) (s := 1) u16In Try.underlying53 celt54 hC_len (by decide) (fun n cs y hc hy => by
    match cs, hc with
    | [c], _ =>
      obtain ⟨z, rfl, h⟩ := half_el hy
      exact ⟨z, rfl, h⟩) h
set_option maxRecDepth 100000 in
theorem halves_in1 {fuel : Nat} {v : Value} {x : DataW H × List MemPlace} (h : DataW.trod enc Try.prog w base spare held fuel 53 [v] = some x) :
    ∃ A n c l, v = .slice A n c ∧ LAt hC 1 w w.heap.size A n l ∧ n ≤ c ∧ c ≤ maxLen ∧ ∀ x ∈ l, u16In x := by
  obtain ⟨A, n, c, l, e, h1⟩ := halves_in h
  exact ⟨A, n, c, l, by simpa using e, h1⟩
set_option maxRecDepth 100000 in
theorem halves_in_of {r : Reach} {b0 : Nat} {v : Value} {d : DataW H} {p : List MemPlace} (hv : Value.okWide Try.prog w r b0 53 v) (h : DataW.Trod enc Try.prog w base spare held 53 v d p) :
    ∃ A n c l, v = .slice A n c ∧ LAt hC 1 w w.heap.size A n l ∧ n ≤ c ∧ c ≤ maxLen ∧ ∀ x ∈ l, u16In x := by
  obtain ⟨A, n, c, rfl⟩ := okWide_slice Try.underlying53 hv
  obtain ⟨fuel, hf⟩ := h
  obtain ⟨A', n', c', l, e, h1⟩ := halves_in hf
  simp [Value.cells] at e
  obtain ⟨rfl, rfl, rfl⟩ := e
  exact ⟨A, n, c, l, rfl, h1⟩
set_option maxRecDepth 100000 in
theorem entry_el {n : Nat} {cs : List Value} {y : DataW H × List MemPlace} (hc : cs.length = 2) (h : DataW.trod enc Try.prog w base spare held n 59 cs = some y) : ∃ e : Em, cs = enC e ∧ anyE w e := by
  match cs, hc with
  | [c0, c1], _ =>
    obtain ⟨xs, k, _, _, _, hl, hf⟩ := DataW.trod_struct Try.underlying59 h
    have h0 : DataW.trod enc Try.prog w base spare held k 3 (([c0, c1].drop 0).take (Try.prog.cellsOf 3)) = xs[0]? := hf 0 _ rfl
    have h1 : DataW.trod enc Try.prog w base spare held k 25 (([c0, c1].drop 1).take (Try.prog.cellsOf 25)) = xs[1]? := hf 1 _ rfl
    simp only [celt3, celt25, List.drop_zero, List.drop_succ_cons, List.take_succ_cons, List.take_zero] at h0 h1
    rw [List.getElem?_eq_getElem (by rw [hl]; decide)] at h0 h1
    obtain ⟨z0, rfl, r0⟩ := int_el h0
    obtain ⟨z1A, z1n, z1c, z1, rfl, r1⟩ := bytes_in1 h1
    exact ⟨⟨z0, z1A, z1n, z1c, z1⟩, rfl, ⟨r1.1, ⟨r1.2.1, r1.2.2.1⟩, fun _ _ _ => trivial⟩⟩
set_option maxRecDepth 100000 in
theorem log_in {fuel : Nat} {cs : List Value} {x : DataW H × List MemPlace} (h : DataW.trod enc Try.prog w base spare held fuel 45 cs = some x) :
    ∃ A n c l, cs = [.slice A n c] ∧ LAt enC 2 w w.heap.size A n l ∧ n ≤ c ∧ c ≤ maxLen ∧ ∀ x ∈ l, (anyE w) x :=
  slice_el (f := enC) (s := 2) (anyE w) Try.underlying45 celt59 enC_len (by decide) (fun n cs y hc hy => entry_el hc hy) h
set_option maxRecDepth 100000 in
theorem log_in1 {fuel : Nat} {v : Value} {x : DataW H × List MemPlace} (h : DataW.trod enc Try.prog w base spare held fuel 45 [v] = some x) :
    ∃ A n c l, v = .slice A n c ∧ LAt enC 2 w w.heap.size A n l ∧ n ≤ c ∧ c ≤ maxLen ∧ ∀ x ∈ l, (anyE w) x := by
  obtain ⟨A, n, c, l, e, h1⟩ := log_in h
  exact ⟨A, n, c, l, by simpa using e, h1⟩
set_option maxRecDepth 100000 in
theorem log_in_of {r : Reach} {b0 : Nat} {v : Value} {d : DataW H} {p : List MemPlace} (hv : Value.okWide Try.prog w r b0 45 v) (h : DataW.Trod enc Try.prog w base spare held 45 v d p) :
    ∃ A n c l, v = .slice A n c ∧ LAt enC 2 w w.heap.size A n l ∧ n ≤ c ∧ c ≤ maxLen ∧ ∀ x ∈ l, (anyE w) x := by
  obtain ⟨A, n, c, rfl⟩ := okWide_slice Try.underlying45 hv
  obtain ⟨fuel, hf⟩ := h
  obtain ⟨A', n', c', l, e, h1⟩ := log_in hf
  simp [Value.cells] at e
  obtain ⟨rfl, rfl, rfl⟩ := e
  exact ⟨A, n, c, l, rfl, h1⟩
set_option maxRecDepth 100000 in
theorem server_el {n : Nat} {cs : List Value} {y : DataW H × List MemPlace} (hc : cs.length = 3) (h : DataW.trod enc Try.prog w base spare held n 47 cs = some y) : ∃ s : Sm, cs = svC s ∧ anyS w s := by
  match cs, hc with
  | [c0, c1, c2], _ =>
    obtain ⟨xs, k, _, _, _, hl, hf⟩ := DataW.trod_struct Try.underlying47 h
    have h0 : DataW.trod enc Try.prog w base spare held k 4 (([c0, c1, c2].drop 0).take (Try.prog.cellsOf 4)) = xs[0]? := hf 0 _ rfl
    have h1 : DataW.trod enc Try.prog w base spare held k 3 (([c0, c1, c2].drop 1).take (Try.prog.cellsOf 3)) = xs[1]? := hf 1 _ rfl
    have h2 : DataW.trod enc Try.prog w base spare held k 45 (([c0, c1, c2].drop 2).take (Try.prog.cellsOf 45)) = xs[2]? := hf 2 _ rfl
    simp only [celt3, celt4, celt45, List.drop_zero, List.drop_succ_cons, List.take_succ_cons, List.take_zero] at h0 h1 h2
    rw [List.getElem?_eq_getElem (by rw [hl]; decide)] at h0 h1 h2
    obtain ⟨z0, rfl⟩ := bool_el h0
    obtain ⟨z1, rfl, r1⟩ := int_el h1
    obtain ⟨z2A, z2n, z2c, z2, rfl, r2⟩ := log_in1 h2
    exact ⟨⟨z0, z1, z2A, z2n, z2c, z2⟩, rfl, ⟨r2.1, ⟨r2.2.1, r2.2.2.1⟩, fun _ _ _ => trivial, r2.2.2.2⟩⟩
set_option maxRecDepth 100000 in
theorem svs_in {fuel : Nat} {cs : List Value} {x : DataW H × List MemPlace} (h : DataW.trod enc Try.prog w base spare held fuel 22 cs = some x) :
    ∃ A n c l, cs = [.slice A n c] ∧ LAt svC 3 w w.heap.size A n l ∧ n ≤ c ∧ c ≤ maxLen ∧ ∀ x ∈ l, (anyS w) x :=
  slice_el (f := svC) (s := 3) (anyS w) Try.underlying22 celt47 svC_len (by decide) (fun n cs y hc hy => server_el hc hy) h
set_option maxRecDepth 100000 in
theorem svs_in1 {fuel : Nat} {v : Value} {x : DataW H × List MemPlace} (h : DataW.trod enc Try.prog w base spare held fuel 22 [v] = some x) :
    ∃ A n c l, v = .slice A n c ∧ LAt svC 3 w w.heap.size A n l ∧ n ≤ c ∧ c ≤ maxLen ∧ ∀ x ∈ l, (anyS w) x := by
  obtain ⟨A, n, c, l, e, h1⟩ := svs_in h
  exact ⟨A, n, c, l, by simpa using e, h1⟩
set_option maxRecDepth 100000 in
theorem svs_in_of {r : Reach} {b0 : Nat} {v : Value} {d : DataW H} {p : List MemPlace} (hv : Value.okWide Try.prog w r b0 22 v) (h : DataW.Trod enc Try.prog w base spare held 22 v d p) :
    ∃ A n c l, v = .slice A n c ∧ LAt svC 3 w w.heap.size A n l ∧ n ≤ c ∧ c ≤ maxLen ∧ ∀ x ∈ l, (anyS w) x := by
  obtain ⟨A, n, c, rfl⟩ := okWide_slice Try.underlying22 hv
  obtain ⟨fuel, hf⟩ := h
  obtain ⟨A', n', c', l, e, h1⟩ := svs_in hf
  simp [Value.cells] at e
  obtain ⟨rfl, rfl, rfl⟩ := e
  exact ⟨A, n, c, l, rfl, h1⟩
set_option maxRecDepth 100000 in
theorem op_el {n : Nat} {cs : List Value} {y : DataW H × List MemPlace} (hc : cs.length = 3) (h : DataW.trod enc Try.prog w base spare held n 27 cs = some y) : ∃ o : Ox, cs = oC o ∧ OxAt w o := by
  match cs, hc with
  | [c0, c1, c2], _ =>
    obtain ⟨xs, k, _, _, _, hl, hf⟩ := DataW.trod_struct Try.underlying27 h
    have h0 : DataW.trod enc Try.prog w base spare held k 3 (([c0, c1, c2].drop 0).take (Try.prog.cellsOf 3)) = xs[0]? := hf 0 _ rfl
    have h1 : DataW.trod enc Try.prog w base spare held k 3 (([c0, c1, c2].drop 1).take (Try.prog.cellsOf 3)) = xs[1]? := hf 1 _ rfl
    have h2 : DataW.trod enc Try.prog w base spare held k 25 (([c0, c1, c2].drop 2).take (Try.prog.cellsOf 25)) = xs[2]? := hf 2 _ rfl
    simp only [celt3, celt25, List.drop_zero, List.drop_succ_cons, List.take_succ_cons, List.take_zero] at h0 h1 h2
    rw [List.getElem?_eq_getElem (by rw [hl]; decide)] at h0 h1 h2
    obtain ⟨z0, rfl, r0⟩ := int_el h0
    obtain ⟨z1, rfl, r1⟩ := int_el h1
    obtain ⟨z2A, z2n, z2c, z2, rfl, r2⟩ := bytes_in1 h2
    exact ⟨⟨z0, z1, z2A, z2n, z2c, z2⟩, rfl, ⟨r2.1, r2.2.1, r2.2.2.1⟩, r1⟩
set_option maxRecDepth 100000 in
theorem ops_in {fuel : Nat} {cs : List Value} {x : DataW H × List MemPlace} (h : DataW.trod enc Try.prog w base spare held fuel 39 cs = some x) :
    ∃ A n c l, cs = [.slice A n c] ∧ LAt oC 3 w w.heap.size A n l ∧ n ≤ c ∧ c ≤ maxLen ∧ ∀ x ∈ l, (OxAt w) x :=
  slice_el (f := oC) (s := 3) (OxAt w) Try.underlying39 celt27 oC_len (by decide) (fun n cs y hc hy => op_el hc hy) h
set_option maxRecDepth 100000 in
theorem ops_in1 {fuel : Nat} {v : Value} {x : DataW H × List MemPlace} (h : DataW.trod enc Try.prog w base spare held fuel 39 [v] = some x) :
    ∃ A n c l, v = .slice A n c ∧ LAt oC 3 w w.heap.size A n l ∧ n ≤ c ∧ c ≤ maxLen ∧ ∀ x ∈ l, (OxAt w) x := by
  obtain ⟨A, n, c, l, e, h1⟩ := ops_in h
  exact ⟨A, n, c, l, by simpa using e, h1⟩
set_option maxRecDepth 100000 in
theorem ops_in_of {r : Reach} {b0 : Nat} {v : Value} {d : DataW H} {p : List MemPlace} (hv : Value.okWide Try.prog w r b0 39 v) (h : DataW.Trod enc Try.prog w base spare held 39 v d p) :
    ∃ A n c l, v = .slice A n c ∧ LAt oC 3 w w.heap.size A n l ∧ n ≤ c ∧ c ≤ maxLen ∧ ∀ x ∈ l, (OxAt w) x := by
  obtain ⟨A, n, c, rfl⟩ := okWide_slice Try.underlying39 hv
  obtain ⟨fuel, hf⟩ := h
  obtain ⟨A', n', c', l, e, h1⟩ := ops_in hf
  simp [Value.cells] at e
  obtain ⟨rfl, rfl, rfl⟩ := e
  exact ⟨A, n, c, l, rfl, h1⟩
set_option maxRecDepth 100000 in
theorem cluster_el {n : Nat} {cs : List Value} {y : DataW H × List MemPlace} (hc : cs.length = 4) (h : DataW.trod enc Try.prog w base spare held n 24 cs = some y) : ∃ c : Cm, clV c = .agg cs.toArray ∧ CmAt w anyB c ∧ i64In c.primary ∧ i64In c.view ∧ i64In c.commit := by
  match cs, hc with
  | [c0, c1, c2, c3], _ =>
    obtain ⟨xs, k, _, _, _, hl, hf⟩ := DataW.trod_struct Try.underlying24 h
    have h0 : DataW.trod enc Try.prog w base spare held k 3 (([c0, c1, c2, c3].drop 0).take (Try.prog.cellsOf 3)) = xs[0]? := hf 0 _ rfl
    have h1 : DataW.trod enc Try.prog w base spare held k 3 (([c0, c1, c2, c3].drop 1).take (Try.prog.cellsOf 3)) = xs[1]? := hf 1 _ rfl
    have h2 : DataW.trod enc Try.prog w base spare held k 3 (([c0, c1, c2, c3].drop 2).take (Try.prog.cellsOf 3)) = xs[2]? := hf 2 _ rfl
    have h3 : DataW.trod enc Try.prog w base spare held k 22 (([c0, c1, c2, c3].drop 3).take (Try.prog.cellsOf 22)) = xs[3]? := hf 3 _ rfl
    simp only [celt3, celt22, List.drop_zero, List.drop_succ_cons, List.take_succ_cons, List.take_zero] at h0 h1 h2 h3
    rw [List.getElem?_eq_getElem (by rw [hl]; decide)] at h0 h1 h2 h3
    obtain ⟨z0, rfl, r0⟩ := int_el h0
    obtain ⟨z1, rfl, r1⟩ := int_el h1
    obtain ⟨z2, rfl, r2⟩ := int_el h2
    obtain ⟨z3A, z3n, z3c, z3, rfl, r3⟩ := svs_in1 h3
    exact ⟨⟨z0, z1, z2, z3A, z3n, z3c, z3⟩, rfl, ⟨r3.1, ⟨r3.2.1, r3.2.2.1⟩, fun _ _ _ => trivial, r3.2.2.2⟩, r0, r1, r2⟩
set_option maxRecDepth 100000 in
theorem cluster_of {r : Reach} {b0 : Nat} {v : Value} {d : DataW H} {p : List MemPlace} (hv : Value.okWide Try.prog w r b0 24 v) (h : DataW.Trod enc Try.prog w base spare held 24 v d p) : ∃ c : Cm, v = clV c ∧ CmAt w anyB c ∧ i64In c.primary ∧ i64In c.view ∧ i64In c.commit := by
  obtain ⟨cs, rfl, hsz⟩ := okWide_struct Try.underlying24 hv
  obtain ⟨fuel, hf⟩ := h
  obtain ⟨l9, e, b⟩ := cluster_el (show cs.toList.length = 4 by simpa using hsz.trans celt24) hf
  exact ⟨l9, e.symm, b⟩
set_option maxRecDepth 100000 in
theorem op_of {r : Reach} {b0 : Nat} {v : Value} {d : DataW H} {p : List MemPlace} (hv : Value.okWide Try.prog w r b0 27 v) (h : DataW.Trod enc Try.prog w base spare held 27 v d p) : ∃ o : Ox, v = .agg #[Value.int .i64 o.kind, Value.int .i64 o.num, Value.slice o.A o.n o.c] ∧ OxAt w o := by
  obtain ⟨cs, rfl, hsz⟩ := okWide_struct Try.underlying27 hv
  obtain ⟨fuel, hf⟩ := h
  obtain ⟨l9, e, b⟩ := op_el (show cs.toList.length = 3 by simpa using hsz.trans celt27) hf
  obtain ⟨l⟩ := cs
  simp only at e; subst e; exact ⟨l9, rfl, b⟩
end
end Go.Proofs.Ytiapeenfggjpnaa
