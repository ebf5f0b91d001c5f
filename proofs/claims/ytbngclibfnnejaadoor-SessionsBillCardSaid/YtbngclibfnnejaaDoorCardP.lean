/- SessionsBill: for every input the law returns true and its arguments read as before, where the calendar's table of the lengths of the months reads as the program's text lays it (the card ties it to that text). No other condition. -/
import Derived.Test.YtbngclibfnnejaaDoorBY0
import Derived.Test.YtbngclibfnnejaaDoorBY1
import Derived.Test.YtbngclibfnnejaaDoorBY2
import Derived.Test.YtbngclibfnnejaaDoorOpen
import Derived.Test.YtbngclibfnnejaaDoorCards
import Derived.Test.YtbngclibfnnejaaDoorTie
import Derived.WalkKit
import Derived.ProofKit
import Derived.OpenShut
import Derived.Deep.DeepHandedRow
import Derived.Lib.LaidTab
import Derived.Below
set_option linter.unusedVariables false
set_option linter.unusedSimpArgs false
namespace Go.Proofs.YtbngclibfnnejaaDoor
open Go.ChangeShapes Go.WideShapes Go.ChangeAt Go.RowKit
theorem celt3 : Tryd.prog.cellsOf 3 = 1 := by kernel_rfl
theorem celt26 : Tryd.prog.cellsOf 26 = 2 := by kernel_rfl
def trueR (_ : Rd) : Prop := True
theorem wf_i64' {n : Int} (h : (Lit.int .i64 n).wf = true) : -9223372036854775808 ≤ n ∧ n ≤ 9223372036854775807 := by simpa [Lit.wf, IntKind.min, IntKind.max, IntKind.signed, IntKind.bits] using h
theorem wf_u64' {n : Int} (h : (Lit.int .u64 n).wf = true) : 0 ≤ n ∧ n < 18446744073709551616 := by
  have : 0 ≤ n ∧ n ≤ 18446744073709551615 := by simpa [Lit.wf, IntKind.min, IntKind.max, IntKind.signed, IntKind.bits] using h
  omega
section
variable {H : Type} {enc : TypeId × Value → H} {w : World} {base : Nat} {spare : Nat → Bool} {held : Bool}
theorem int_el {n : Nat} {v : Value} {y : DataW H × List MemPlace} (h : DataW.trod enc Tryd.prog w base spare held n 3 [v] = some y) : ∃ z : Int, v = .int .i64 z ∧ (-9223372036854775808 ≤ z ∧ z ≤ 9223372036854775807) := by
  obtain ⟨z, e, _, hw⟩ := DataW.trod_int Tryd.underlying3 h
  exact ⟨z, by simpa using e, wf_i64' hw⟩
set_option maxRecDepth 100000 in
theorem rd_el {n : Nat} {cs : List Value} {y : DataW H × List MemPlace} (hc : cs.length = 2) (h : DataW.trod enc Tryd.prog w base spare held n 26 cs = some y) : ∃ x : Rd, cs = rdC x ∧ trueR x := by
  match cs, hc with
  | [c0, c1], _ =>
    obtain ⟨xs, k, _, _, _, hl, hf⟩ := DataW.trod_struct Tryd.underlying26 h
    have h0 : DataW.trod enc Tryd.prog w base spare held k 3 (([c0, c1].drop 0).take (Tryd.prog.cellsOf 3)) = xs[0]? := hf 0 _ rfl
    have h1 : DataW.trod enc Tryd.prog w base spare held k 3 (([c0, c1].drop 1).take (Tryd.prog.cellsOf 3)) = xs[1]? := hf 1 _ rfl
    simp only [celt3, List.drop_zero, List.drop_succ_cons, List.take_succ_cons, List.take_zero] at h0 h1
    rw [List.getElem?_eq_getElem (by rw [hl]; decide)] at h0 h1
    obtain ⟨z0, rfl, r0⟩ := int_el h0
    obtain ⟨z1, rfl, r1⟩ := int_el h1
    exact ⟨⟨z0, z1⟩, rfl, trivial⟩
set_option maxRecDepth 100000 in
theorem rds_in {fuel : Nat} {cs : List Value} {x : DataW H × List MemPlace} (h : DataW.trod enc Tryd.prog w base spare held fuel 22 cs = some x) :
    ∃ A n c l, cs = [.slice A n c] ∧ LAt rdC 2 w w.heap.size A n l ∧ n ≤ c ∧ c ≤ maxLen ∧ ∀ x ∈ l, trueR x :=
  slice_el (f := rdC) (s := 2) trueR Tryd.underlying22 celt26 rdC_len (by decide) (fun n cs y hc hy => rd_el hc hy) h
set_option maxRecDepth 100000 in
theorem rds_in1 {fuel : Nat} {v : Value} {x : DataW H × List MemPlace} (h : DataW.trod enc Tryd.prog w base spare held fuel 22 [v] = some x) :
    ∃ A n c l, v = .slice A n c ∧ LAt rdC 2 w w.heap.size A n l ∧ n ≤ c ∧ c ≤ maxLen ∧ ∀ x ∈ l, trueR x := by
  obtain ⟨A, n, c, l, e, h1⟩ := rds_in h
  exact ⟨A, n, c, l, by simpa using e, h1⟩
set_option maxRecDepth 100000 in
theorem rds_in_of {r : Reach} {b0 : Nat} {v : Value} {d : DataW H} {p : List MemPlace} (hv : Value.okWide Tryd.prog w r b0 22 v) (h : DataW.Trod enc Tryd.prog w base spare held 22 v d p) :
    ∃ A n c l, v = .slice A n c ∧ LAt rdC 2 w w.heap.size A n l ∧ n ≤ c ∧ c ≤ maxLen ∧ ∀ x ∈ l, trueR x := by
  obtain ⟨A, n, c, rfl⟩ := okWide_slice Tryd.underlying22 hv
  obtain ⟨fuel, hf⟩ := h
  obtain ⟨A', n', c', l, e, h1⟩ := rds_in hf
  simp [Value.cells] at e
  obtain ⟨rfl, rfl, rfl⟩ := e
  exact ⟨A, n, c, l, rfl, h1⟩
end
theorem lawBill (A : Option Addr) (n c : Nat) (L : List Rd) (cost rate dr : Int) (w : World) (hg : GlobOk w) (h : RdAt w A n L) (hnc : n ≤ c) (hc : c ≤ maxLen) (hd : (Lit.int .u8 dr).wf = true) : Calls Tryd.prog 3 #[.slice A n c, .int .i64 cost, .int .i64 rate, .int .u8 dr] w fun e w' => e = .returned (.bool true) ∧ Below w.heap.size w w' := by
  have hd9 : 0 ≤ dr ∧ dr ≤ 255 := by simpa [Lit.wf, IntKind.min, IntKind.max, IntKind.signed, IntKind.bits] using hd
  by_cases h0 : dr.tmod (n : Int) = 0
  · exact law0 A n c L cost rate dr w hg h ⟨hnc, hc⟩ hd9 h0
  · have hp : 0 ≤ dr.tmod (n : Int) := Int.tmod_nonneg _ hd9.1
    obtain ⟨k, hk⟩ : ∃ k : Nat, dr.tmod (n : Int) = (k : Int) := ⟨(dr.tmod (n : Int)).toNat, by omega⟩
    by_cases h1 : k + 1 < n
    · exact law2 A n c L cost rate dr w hg h ⟨hnc, hc⟩ hd9 ⟨k, hk, by omega, h1⟩
    · exact law1 A n c L cost rate dr w hg h ⟨hnc, hc⟩ hd9 ⟨k, hk, by omega, by omega⟩
end Go.Proofs.YtbngclibfnnejaaDoor
namespace Go.Proofs.YtbngclibfnnejaaDoor.sessionsBill
open Go.ChangeShapes Go.WideShapes Go.ChangeAt Go.RowKit
set_option linter.unusedVariables false
theorem own : ownKnob Tryd.prog.godebug = none := by kernel_rfl
theorem laidOut : laidOutB Tryd.prog = true := by kernel_rfl
theorem gTab : Tryd.prog.globalNamed "chargenet/calendar.lengths" = some 2 := by kernel_rfl
theorem gTabType : (Tryd.prog.globals[2]?).map (·.type) = some 155 := by kernel_rfl
theorem cells155 : Tryd.prog.cellsOf 155 = 12 := by kernel_rfl
theorem cells3 : Tryd.prog.cellsOf 3 = 1 := by kernel_rfl
theorem table {W : World} (h : laidMetH Tryd.prog Rows.sessionsBillRow.laid W) : Lib.TabIs Tryd.prog W "chargenet/calendar.lengths" .i64 [31, 28, 31, 30, 31, 30, 31, 31, 30, 31, 30, 31] :=
  Lib.tabIs_of_head (rest := []) gTab gTabType Tryd.underlying155 Tryd.underlying3 cells3 cells155 h
theorem globOk {W : World} (h : laidMetH Tryd.prog Rows.sessionsBillRow.laid W) : GlobOk W := fun j v hj => by
  have t := table h
  have hj2 : j < 12 := by
    rcases Nat.lt_or_ge j 12 with h1 | h1
    · exact h1
    · rw [List.getElem?_eq_none (by simpa [lenM] using h1)] at hj; cases hj
  rcases (show j = 0 ∨ j = 1 ∨ j = 2 ∨ j = 3 ∨ j = 4 ∨ j = 5 ∨ j = 6 ∨ j = 7 ∨ j = 8 ∨ j = 9 ∨ j = 10 ∨ j = 11 by omega) with rfl | rfl | rfl | rfl | rfl | rfl | rfl | rfl | rfl | rfl | rfl | rfl <;> (injection hj with hj; subst hj; exact t.cell gTab _ (by decide))
set_option maxRecDepth 100000 in
theorem contract (H : Type) (enc : TypeId × Value → H) (W : World) (base : Nat) (args : Array Value) (ds gs : List (DataW H)) (before : List MemPlace)
    (hval0 : ∀ (j : Nat) t v, Tryd.f3.params[j]? = some t → args[j]? = some v → Value.okWide Tryd.prog W .any base t v)
    (hW : DataW.Whole enc Tryd.prog Tryd.f3.params.toList Rows.sessionsBillSpec.vars false W args.toList ds gs before) (hL : laidMetH Tryd.prog Rows.sessionsBillRow.laid W) :
    Calls Tryd.prog 3 args W fun e W' => ∃ v, e = .returned v ∧ Rows.sessionsBillSpec.post enc Tryd.prog Tryd.f3 false true false false W args v W' := by
  have hval : ∀ (j : Nat) t v, Tryd.f3.params[j]? = some t → args[j]? = some v → Value.okWide Tryd.prog W .any base t v := hval0
  have hW' := hW
  obtain ⟨p, q, hA0, hV, rfl, hfz, hnd⟩ := hW
  have hA : DataW.TrodAll enc Tryd.prog W 0 (fun _ => true) true Tryd.f3.params.toList args.toList ds p := hA0
  rw [Tryd.params3] at hA hval
  obtain ⟨v0, vs0, d0, ds0, p0, q0, hargs, rfl, rfl, h0, r0⟩ := trodAll_cons hA
  obtain ⟨v1, vs1, d1, ds1, p1, q1, rfl, rfl, rfl, h1, r1⟩ := trodAll_cons r0
  obtain ⟨v2, vs2, d2, ds2, p2, q2, rfl, rfl, rfl, h2, r2⟩ := trodAll_cons r1
  obtain ⟨v3, vs3, d3, ds3, p3, q3, rfl, rfl, rfl, h3, r3⟩ := trodAll_cons r2
  obtain ⟨rfl, rfl, rfl⟩ := trodAll_nil r3
  obtain rfl : args = #[v0, v1, v2, v3] := by cases args; simp_all
  obtain ⟨rfl, rfl⟩ := trodVars_none hV
  have ok0 := hval 0 22 v0 rfl rfl
  obtain ⟨A0, n0, c0, l0, rfl, s0, hc0, hm0, tk0⟩ := rds_in_of ok0 h0
  have k0 := h0
  have lt0 : ∀ x ∈ p0, x.block < W.heap.size := by obtain ⟨m, hm⟩ := k0; exact DataW.trod_lt m _ _ _ hm
  obtain ⟨a1, rfl, rfl, rfl, w1⟩ := open_int Tryd.underlying3 (hval 1 3 v1 rfl rfl) h1
  obtain ⟨a2, rfl, rfl, rfl, w2⟩ := open_int Tryd.underlying3 (hval 2 3 v2 rfl rfl) h2
  obtain ⟨a3, rfl, rfl, rfl, w3⟩ := open_int Tryd.underlying5 (hval 3 5 v3 rfl rfl) h3
  clear hA0 hval0
  refine (lawBill A0 n0 c0 l0 a1 a2 a3 W (globOk hL) s0 hc0 hm0 w3).mono fun e W' ⟨he, bel⟩ => ?_
  subst he
  exact ⟨_, rfl, _, _, _, [], _, [], hW', trodAll_mk1 (shut_bool Tryd.underlying4 _), (trodAll_cons_mk (Below.trod laidOut (by kernel_rfl) (of_decide_eq_true (by kernel_rfl)) k0 bel lt0) (trodAll_cons_mk (shut_int Tryd.underlying3 w1) (trodAll_cons_mk (shut_int Tryd.underlying3 w2) (trodAll_cons_mk (shut_int Tryd.underlying5 w3) trodAll_mk0)))), rfl, bel.frame _, fun h => by cases h⟩
/-- a world for the witness: the settled one, the table holding what its initialiser lays -/
noncomputable def laidWorld (os : Os) : World :=
  { World.holding Tryd.prog os ⟨#[], #[], []⟩ with heap := (World.holding Tryd.prog os ⟨#[], #[], []⟩).heap.modify 2 fun
      | .cells _ t frozen => .cells #[.int .i64 31, .int .i64 28, .int .i64 31, .int .i64 30, .int .i64 31, .int .i64 30, .int .i64 31, .int .i64 31, .int .i64 30, .int .i64 31, .int .i64 30, .int .i64 31] t frozen
      | o => o }
theorem laid_met (os : Os) : laidMet Tryd.prog Rows.sessionsBillRow.laid ((laidWorld os).forCall (fun _ _ => 0) ⟨#[], #[.slice none 0 0, .int .i64 0, .int .i64 0, .int .u8 0], []⟩).memory :=
  laidMet_of_run' 8 (by kernel_rfl) (by kernel_rfl)
theorem reads (os : Os) {H : Type} (enc : TypeId × Value → H) : ∃ places, DataW.whole enc Tryd.prog ((laidWorld os).forCall (fun _ _ => 0) ⟨#[], #[.slice none 0 0, .int .i64 0, .int .i64 0, .int .u8 0], []⟩).memory Tryd.f3.params.toList Rows.sessionsBillSpec.vars false #[Value.slice none 0 0, Value.int .i64 0, Value.int .i64 0, Value.int .u8 0].toList 8 = some ([.nil, .lit (.int .i64 0), .lit (.int .i64 0), .lit (.int .u8 0)], [], places) :=
  ⟨[], by kernel_rfl⟩
set_option maxRecDepth 100000 in
theorem lifted (os : Os) (started : os.Started) (H : Type) (enc : TypeId × Value → H) (F : Stop.Interp) :
    ReturnsInHanded {} Tryd.checked os 3 .any ((OpenSpec.ofChange Rows.sessionsBillSpec).preRow enc Tryd.prog Tryd.f3 Rows.sessionsBillRow.domain false Rows.sessionsBillRow.laid) (((OpenSpec.ofChange Rows.sessionsBillSpec).at F).post enc Tryd.prog Tryd.f3 false true false false) := by
  obtain ⟨places, hx⟩ := reads os enc
  refine returnsInHanded_of_row (C := Tryd.checked) (s := OpenSpec.ofChange Rows.sessionsBillSpec) own started (by kernel_rfl) Tryd.func3
    (witness_row_at (enc := enc) (C := Tryd.checked) false (laidWorld os) #[.slice none 0 0, .int .i64 0, .int .i64 0, .int .u8 0] rfl (by kernel_rfl) (by kernel_rfl) (by kernel_rfl)
      (OpenSpec.preRow_of_cond 8 hx (by kernel_rfl) (fun k hk => by cases hk) (by kernel_rfl) (laid_met os))) ?_
  intro W base args ds gs before hval hW _ _ _ hL _ _
  exact contract H enc W base args ds gs before hval hW hL
theorem said : Rows.SessionsBillSaid :=
  OpenClaim.holds_of_cond 3 Tryd.f3 rfl rfl rfl rfl rfl rfl rfl ⟨rfl, rfl, rfl, rfl, rfl⟩ rfl rfl rfl rfl rfl (by kernel_rfl) Tryd.func3 (by kernel_rfl)
    (of_decide_eq_true (by kernel_rfl)) (by unfold Func.isWrapper; first | (rw [if_pos (by decide +kernel)]; kernel_rfl) | (rw [if_neg (by decide +kernel)]; exact ⟨rfl, rfl⟩))
    (fun os started H enc _ F => by rw [OpenClaim.pre_eq_preRow]; exact lifted os started H enc F)
theorem plain (f : FuncId) (fn : Func) (hf : Tryd.pinned.checked.prog.funcNamed "chargenet/chargenettop.SessionsBill" = some f) (hfn : Tryd.pinned.checked.prog.funcs[f]? = some fn) :
    false = Tryd.pinned.checked.prog.looks [] ∧ ∀ (j : Nat) t, fn.params[j]? = some t → Tryd.pinned.checked.prog.wantsStandIn t = false := by
  obtain rfl : f = 3 := Option.some.inj ((show Tryd.prog.funcNamed "chargenet/chargenettop.SessionsBill" = some 3 by kernel_rfl).symm.trans hf) |>.symm
  obtain rfl : fn = Tryd.f3 := (Option.some.inj (Tryd.func3.symm.trans hfn)).symm
  refine ⟨by kernel_rfl, fun j t ht => ?_⟩
  rw [Tryd.params3] at ht
  have hm : t ∈ [22, 3, 3, 5] := by simpa using Array.mem_of_getElem? ht
  have hall : ([22, 3, 3, 5].all fun u => !Tryd.prog.wantsStandIn u) = true := by kernel_rfl
  exact (show Tryd.prog.wantsStandIn t = false by simpa using List.all_eq_true.1 hall t hm)
theorem card : Rows.SessionsBillCardSaid :=
  Claim7.holds_tied_plain_at .later [] _ _ _ _ said (fun _ h => by cases h) (by kernel_rfl) (fun _ h => by cases h) sessionsBill_row_tie rfl ⟨rfl, rfl⟩ (by kernel_rfl) rfl plain (by kernel_rfl)
#print axioms card
end Go.Proofs.YtbngclibfnnejaaDoor.sessionsBill
