/- Ledger: the lines, enumerated; a law for the loops over them. -/
import Derived.Test.YtiggpgeldigknaaLFh
import Derived.RangeFuncNested
import Derived.RangeFuncBound
import Derived.RangeFuncCalls
import Derived.RangeFuncLeaves
import Derived.RangeFuncBox
import Derived.Shelf.Abstract
import Derived.Shelf.RegionOpen
import Derived.OwnWalkIn
import Derived.TacticsInMore
import Derived.LoopNIn
import Derived.LoopIn
set_option linter.unusedVariables false
set_option linter.unusedSimpArgs false
namespace Go.Proofs.Ytiggpgeldigknaa
open Go.RowKit Go.Shelf
attribute [local go_sem] Oper.semAt_some
set_option maxRecDepth 100000 in
set_option maxHeartbeats 4000000 in
theorem lines_any (A : Option Addr) (n cp : Nat) (w : World) : CallsIn Fence.wide 0 Try.prog 77 #[.slice A n cp] w fun e w' => e = .returned (.func (.func 101) #[] #[.pointer (some ⟨w.heap.size, 0, none⟩)]) ∧ w' = w.alloc (.cells #[.slice A n cp] 62) := by
  refine callsIn_of_wp Try.func77 rfl trivial ?_ rfl
  simp only [Try.ntmps77, List.size_toArray, List.length_cons, List.length_nil, Nat.reduceAdd, Nat.reduceSub, Array.replicate_succ, Array.replicate_zero, List.push_toArray, List.append_toArray, List.nil_append, List.cons_append]
  gi_wp2
  go_ret
  exact ⟨rfl, rfl⟩
def rowL (x : Ln) : Array Value := #[.int .i64 x.seq, .int .i64 x.at_, .string x.who, .string x.what, .string x.on, .int .u64 x.sum]
def lnAt (L : List Ln) (k : Nat) : Ln := L.getD k noLn
theorem prev_next (L : List Ln) (k : Nat) : prevL L (k + 1) = lnAt L k := by unfold prevL lnAt; rw [if_neg (by omega), Nat.add_sub_cancel]
theorem ln_set6 {w : World} {g : Nat} {a0 a1 a2 a3 a4 a5 : Value} (h : Blk w g 67 #[a0, a1, a2, a3, a4, a5]) (v0 v1 v2 v3 v4 v5 : Value) : Blk ((((((w.setCell ⟨g, 0, none⟩ v0).setCell ⟨g, 1, none⟩ v1).setCell ⟨g, 2, none⟩ v2).setCell ⟨g, 3, none⟩ v3).setCell ⟨g, 4, none⟩ v4).setCell ⟨g, 5, none⟩ v5) g 67 #[v0, v1, v2, v3, v4, v5] := by
  have := ((((((h.set_ 0 v0).set_ 1 v1).set_ 2 v2).set_ 3 v3).set_ 4 v4).set_ 5 v5)
  simpa using this
set_option maxRecDepth 100000 in
set_option maxHeartbeats 4000000 in
theorem lines1_in (l Bl n0 b0 : Nat) (A : Option Addr) (len cp : Nat) (L : List Ln) (hlen : len ≤ 1000) (J : Nat → World → Prop) (Jx : World → Prop) (W : World) (hb0 : b0 = W.heap.size)
    (hJ : ∀ k X Y row, J k X → X.grownBy Y row → (row = none ∨ row = some b0) → J k Y)
    (hY : ∀ k Wp, J k Wp → k < len → b0 < Wp.heap.size → YieldAt Fence.wide 0 Try.prog l #[.agg (rowL (prevL L k)), .agg (rowL (lnAt L k))] (Wp.alloc (.cells (rowL (lnAt L k)) 67)) fun e W' =>
      (e = .returned (.bool true) ∧ J (k + 1) W' ∧ Below n0 Wp W' ∧ W'.heap[b0]? = Wp.heap[b0]? ∧ W'.heap[Wp.heap.size]? = some (.cells (rowL (lnAt L k)) 67)) ∨ (e = .returned (.bool false) ∧ Jx W'))
    (hBl : W.cell? ⟨Bl, 0, none⟩ = some (.slice A len cp)) (hL : LAt lnC 6 W n0 A len L) (hn0 : n0 ≤ W.heap.size) (h0 : J 0 W) :
    CallsIn Fence.wide 0 Try.prog 101 #[.func (.yield l) #[] #[], .pointer (some ⟨Bl, 0, none⟩)] W fun e W' => (∃ v, e = .returned v) ∧ (J len W' ∨ Jx W') := by
  have hn := Lib.hid hL.len
  replace hL := Lib.hid hL
  replace hlen := hlen
  have hJ1 := hJ 0 _ _ none h0 (World.grownBy_alloc W (.cells (rowL noLn) 67) none) (.inl rfl)
  have pb := Lib.hid (Blk.new W 67 (rowL noLn))
  rw [← hb0] at pb
  have hbe : Hid (Below n0 W (W.alloc (.cells (rowL noLn) 67))) := (Below.refl n0 W).alloc hn0 _
  have hBl2 := cell_alloc hBl (.cells (rowL noLn) 67)
  have hbs : Hid (b0 < (W.alloc (.cells (rowL noLn) 67)).heap.size) := by show _ < _; rw [hb0]; simp
  have hJ0 := Lib.hid hJ1
  replace hb0 := Lib.hid hb0
  clear hJ1 h0
  refine callsIn_of_wp Try.func101 rfl trivial ?_ rfl
  simp only [Try.ntmps101, List.size_toArray, List.length_cons, List.length_nil, Nat.reduceAdd, Nat.reduceSub, Array.replicate_succ, Array.replicate_zero, List.push_toArray, List.append_toArray, List.nil_append, List.cons_append]
  unfold rowL noLn at pb hbe hBl2 hbs hJ0
  simp only at pb hbe hBl2 hbs hJ0
  gi_wp2
  rw [← hb0.out]
  generalize W.alloc (.cells #[.int .i64 0, .int .i64 0, .string ⟨#[]⟩, .string ⟨#[]⟩, .string ⟨#[]⟩, .int .u64 0] 67) = W2 at *
  gi_loopw [8] (fun i wr => ∃ k : Nat, k ≤ len ∧ i = .int .i64 k ∧ Hid (J k wr) ∧ Hid (Blk wr b0 67 (rowL (prevL L k))) ∧ Hid (Below n0 W wr) ∧ Hid (b0 < wr.heap.size)) (fun i _ => len - (intOf i).toNat)
  case atStart => exact ⟨0, Nat.zero_le _, rfl, hJ0.out, pb.out, hbe.out, hbs.out⟩
  case round =>
    clear hJ0 pb hbe hbs hBl2
    obtain ⟨k, hk, rfl, hJk, pb, hbe, hbs⟩ := hrel
    by_cases hlt : k < len
    · have hk0 : (0 : Int) ≤ k := by omega
      have hk1 : (k : Int) < len := by omega
      have hkl : k < L.length := by have := hn.out; omega
      obtain ⟨ad, hA, hadb, e0, e1, e2, e3, e4, e5⟩ := ln_cells (hL.out.below hbe.out (Nat.le_refl _)) hlt
      subst hA
      have hx : lnAt L k = L[k] := by unfold lnAt; rw [List.getD_eq_getElem?_getD, List.getElem?_eq_getElem hkl]; rfl
      have hy := hY k wr hJk.out hlt hbs.out
      have hnx := prev_next L k
      rw [hx] at hnx
      rw [hx] at hy
      generalize L[k] = x at *
      generalize prevL L k = p at *
      obtain ⟨sq, at_, wh, wt, on, sm⟩ := x
      obtain ⟨sqp, at_p, whp, wtp, onp, smp⟩ := p
      unfold rowL at pb hy
      simp only at pb hy e0 e1 e2 e3 e4 e5
      replace hnx := Lib.hid hnx
      have px := Lib.hid (Blk.new wr 67 #[Value.int .i64 sq, Value.int .i64 at_, Value.string wh, Value.string wt, Value.string on, Value.int .u64 sm])
      have pb1 := Lib.hid (pb.out.alloc (.cells #[Value.int .i64 sq, Value.int .i64 at_, Value.string wh, Value.string wt, Value.string on, Value.int .u64 sm] 67))
      obtain ⟨k0, k1, k2, k3, k4, k5⟩ := (show (wr.alloc (.cells #[Value.int .i64 sq, Value.int .i64 at_, Value.string wh, Value.string wt, Value.string on, Value.int .u64 sm] 67)).cell? ⟨b0, 0, none⟩ = some (Value.int .i64 sqp) ∧ (wr.alloc (.cells #[Value.int .i64 sq, Value.int .i64 at_, Value.string wh, Value.string wt, Value.string on, Value.int .u64 sm] 67)).cell? ⟨b0, 1, none⟩ = some (Value.int .i64 at_p) ∧ (wr.alloc (.cells #[Value.int .i64 sq, Value.int .i64 at_, Value.string wh, Value.string wt, Value.string on, Value.int .u64 sm] 67)).cell? ⟨b0, 2, none⟩ = some (Value.string whp) ∧ (wr.alloc (.cells #[Value.int .i64 sq, Value.int .i64 at_, Value.string wh, Value.string wt, Value.string on, Value.int .u64 sm] 67)).cell? ⟨b0, 3, none⟩ = some (Value.string wtp) ∧ (wr.alloc (.cells #[Value.int .i64 sq, Value.int .i64 at_, Value.string wh, Value.string wt, Value.string on, Value.int .u64 sm] 67)).cell? ⟨b0, 4, none⟩ = some (Value.string onp) ∧ (wr.alloc (.cells #[Value.int .i64 sq, Value.int .i64 at_, Value.string wh, Value.string wt, Value.string on, Value.int .u64 sm] 67)).cell? ⟨b0, 5, none⟩ = some (Value.int .u64 smp) from ⟨pb1.out.cell 0, pb1.out.cell 1, pb1.out.cell 2, pb1.out.cell 3, pb1.out.cell 4, pb1.out.cell 5⟩)
      obtain ⟨fn, tmps, assign, body, hyy, hR⟩ := hy
      replace hR := Lib.hid hR
      gi_wp2
      refine ⟨rfl, hR.out.mono ?_⟩
      rintro e W3 (⟨rfl, hJ3, hk3, hs0, hs1⟩ | ⟨rfl, hJx3⟩)
      · have q0 : Blk W3 b0 67 #[Value.int .i64 sqp, Value.int .i64 at_p, Value.string whp, Value.string wtp, Value.string onp, Value.int .u64 smp] := hs0.trans pb.out
        have q1 : Blk W3 wr.heap.size 67 #[Value.int .i64 sq, Value.int .i64 at_, Value.string wh, Value.string wt, Value.string on, Value.int .u64 sm] := hs1
        have hb3 := Lib.hid (hbe.out.trans hk3)
        replace hJ3 := Lib.hid hJ3
        have hl3 : b0 < W3.heap.size := q0.lt
        obtain ⟨z0, z1, z2, z3, z4, z5, y0, y1, y2, y3, y4, y5, x0, x1, x2, x3, x4, x5⟩ := (show W3.cell? ⟨b0, 0, none⟩ = some (Value.int .i64 sqp) ∧ W3.cell? ⟨b0, 1, none⟩ = some (Value.int .i64 at_p) ∧ W3.cell? ⟨b0, 2, none⟩ = some (Value.string whp) ∧ W3.cell? ⟨b0, 3, none⟩ = some (Value.string wtp) ∧ W3.cell? ⟨b0, 4, none⟩ = some (Value.string onp) ∧ W3.cell? ⟨b0, 5, none⟩ = some (Value.int .u64 smp) ∧ W3.frozen? ⟨b0, 0, none⟩ = false ∧ W3.frozen? ⟨b0, 1, none⟩ = false ∧ W3.frozen? ⟨b0, 2, none⟩ = false ∧ W3.frozen? ⟨b0, 3, none⟩ = false ∧ W3.frozen? ⟨b0, 4, none⟩ = false ∧ W3.frozen? ⟨b0, 5, none⟩ = false ∧ W3.cell? ⟨wr.heap.size, 0, none⟩ = some (Value.int .i64 sq) ∧ W3.cell? ⟨wr.heap.size, 1, none⟩ = some (Value.int .i64 at_) ∧ W3.cell? ⟨wr.heap.size, 2, none⟩ = some (Value.string wh) ∧ W3.cell? ⟨wr.heap.size, 3, none⟩ = some (Value.string wt) ∧ W3.cell? ⟨wr.heap.size, 4, none⟩ = some (Value.string on) ∧ W3.cell? ⟨wr.heap.size, 5, none⟩ = some (Value.int .u64 sm) from ⟨q0.cell 0, q0.cell 1, q0.cell 2, q0.cell 3, q0.cell 4, q0.cell 5, q0.frozen 0, q0.frozen 1, q0.frozen 2, q0.frozen 3, q0.frozen 4, q0.frozen 5, q1.cell 0, q1.cell 1, q1.cell 2, q1.cell 3, q1.cell 4, q1.cell 5⟩)
        replace q0 := Lib.hid q0
        clear hs0 hs1 q1 k0 k1 k2 k3 k4 k5
        gi_wp2
        have q := ln_set6 q0.out (Value.int .i64 sq) (Value.int .i64 at_) (Value.string wh) (Value.string wt) (Value.string on) (Value.int .u64 sm)
        have hg := (only_set ((only_set ((only_set ((only_set ((only_set ((only_set (World.grownBy.refl W3 (some b0)) 0 (Value.int .i64 sq))) 1 (Value.int .i64 at_))) 2 (Value.string wh))) 3 (Value.string wt))) 4 (Value.string on))) 5 (Value.int .u64 sm))
        go_roundw
        case rel => exact ⟨k + 1, by omega, by go_num, hJ (k + 1) _ _ (some b0) hJ3.out hg (.inr rfl), by rw [hnx.out]; exact q, hb3.out.trans (below_set (below_set (below_set (below_set (below_set (below_set (Below.refl n0 W3) (by have := hb0.out; omega) 0 _) (by have := hb0.out; omega) 1 _) (by have := hb0.out; omega) 2 _) (by have := hb0.out; omega) 3 _) (by have := hb0.out; omega) 4 _) (by have := hb0.out; omega) 5 _), by show _ < _; simpa using hl3⟩
        case measure => simp [intOf]; omega
      · clear k0 k1 k2 k3 k4 k5
        gi_wp2
        refine bodyPost_ret (results_none rfl _ _ _) rfl ?_
        exact ⟨⟨_, rfl⟩, .inr hJx3⟩
    · obtain rfl : k = len := by omega
      gi_wp2
      go_end0
      exact ⟨⟨_, rfl⟩, .inl hJk.out⟩
def Kp4 (B n0 b1 : Nat) (X Y : World) : Prop := X.heap.size ≤ Y.heap.size ∧ Below n0 X Y ∧ ∀ b, (B ≤ b ∧ b ≤ B + 2 ∨ b = b1) → Y.heap[b]? = X.heap[b]?
/-- how a round may be left -/
def postR (B n0 b1 : Nat) (I Ix : World → Prop) (X : World) : Exit → Act → World → Prop
  | .normal, _, Y => I Y ∧ Kp4 B n0 b1 X Y
  | .ret, _, Y => Ix Y ∧ Kp4 B n0 b1 X Y
  | _, _, _ => False
theorem range_lines {ps : Array Tmp} {assign body : Code} {Q : Exit → Act → World → Prop} {a : Act} {w : World} {g : Operand} (Bl n0 len cp : Nat) (A : Option Addr) (L : List Ln)
    (hg : a.eval g = .func (.func 101) #[] #[.pointer (some ⟨Bl, 0, none⟩)]) (hps : ps.size = 2) (hlen : len ≤ 1000)
    (hBl : w.cell? ⟨Bl, 0, none⟩ = some (.slice A len cp)) (hL : LAt lnC 6 w n0 A len L) (hn0 : n0 ≤ w.heap.size)
    (I : Nat → World → Prop) (Ix : World → Prop)
    (hI : ∀ k X Y row, I k X → X.grownBy Y row → (∀ r, row = some r → w.heap.size ≤ r ∧ r ≤ w.heap.size + 2) → I k Y)
    (hIx : ∀ X Y row, Ix X → X.grownBy Y row → (∀ r, row = some r → w.heap.size ≤ r ∧ r ≤ w.heap.size + 2) → Ix Y)
    (h0 : I 0 w)
    (hround : ∀ k Wp, I k Wp → k < len → w.heap.size + 2 < Wp.heap.size →
      ∃ a1 W1, (∀ K : Act → World → Prop, K a1 W1 → assign.wpIn (Fence.wide.inRound (w.heap.size + 1)) 0 Try.prog (Exit.then K (fun _ _ _ => False)) { tmps := (ps.zip #[.agg (rowL (prevL L k)), .agg (rowL (lnAt L k))]).foldl (fun t (p, v) => t.setIfInBounds p v) a.tmps, defers := [] } (Wp.alloc (.cells (rowL (lnAt L k)) 67))) ∧
        Below (Wp.alloc (.cells (rowL (lnAt L k)) 67)).heap.size (Wp.alloc (.cells (rowL (lnAt L k)) 67)) W1 ∧
        ∀ W2, I k W2 → W1.grownBy W2 (some (w.heap.size + 1)) → body.wpIn (Fence.wide.inRound (w.heap.size + 1)) 0 Try.prog (postR w.heap.size n0 Wp.heap.size (I (k + 1)) Ix W2) a1 W2)
    (hdone : ∀ W, I len W → W.heap[w.heap.size]? = some (.deferred (some [])) → Q .normal { a with defers := { target := .collected w.heap.size, args := #[] } :: a.defers } W)
    (hstop : ∀ W, Ix W → W.heap[w.heap.size]? = some (.deferred (some [])) → Code.ret.wpIn Fence.wide 0 Try.prog Q { a with defers := { target := .collected w.heap.size, args := #[] } :: a.defers } W) :
    (Code.rangeFunc g ps assign body).wpIn Fence.wide 0 Try.prog Q a w := by
  obtain ⟨B, hB⟩ : ∃ B, B = w.heap.size := ⟨_, rfl⟩
  rw [← hB] at hn0 hI hIx hround hdone hstop
  refine wpIn_rangeFunc fun fn hfn => ?_
  obtain ⟨rec, hrec⟩ : ∃ rec : LoopState → Option Code → Loop, rec = fun s p => { state := s, pending := p, fn := fn, tmps := a.tmps, params := ps, assign := assign, body := body, defers := w.heap.size } := ⟨_, rfl⟩
  obtain ⟨X1, hX1⟩ : ∃ X, X = (w.alloc (.deferred (some []))).alloc (.loop (rec .ready none)) := ⟨_, rfl⟩
  have hsz : X1.heap.size = B + 2 := by rw [hX1, hB]; simp
  have hbel : Below w.heap.size w X1 := by rw [hX1]; exact below_new (a1 w _) _
  have r1 : X1.heap[B + 1]? = some (.loop (rec .ready none)) := by
    have := heap_alloc_new (w.alloc (.deferred (some []))) (.loop (rec .ready none))
    rw [hX1, hB]
    simpa using this
  have r0 : X1.heap[B]? = some (.deferred (some [])) := by
    have := heap_alloc_new w (.deferred (some []))
    rw [hX1, hB]
    exact ((a1 (w.alloc (.deferred (some []))) _).block _ (by simp)).trans this
  have i0 : I 0 X1 := hI 0 _ _ none h0 (only_of_below hbel none) (fun r e => by cases e)
  refine ⟨B + 1, [{ target := .collected B, args := #[] }], X1, { target := .fn (.func 101) #[.pointer (some ⟨Bl, 0, none⟩)], args := #[.func (.yield (B + 1)) #[] #[]] }, X1, 101, #[.func (.yield (B + 1)) #[] #[], .pointer (some ⟨Bl, 0, none⟩)], X1, ?_, ?_, fun _ _ => trivial, ?_, (fun h => by cases h), ?_⟩
  · rw [hX1, hrec, hB]
    exact run_enterLoop_outer _ _ _ _ _
  · simp only [resolve, hg]
    simp [go_sem]
  · have eg := enters_of Try.func101 (by kernel_rfl) rfl
    simp [invoke, go_sem, eg]
  refine (lines1_in (B + 1) Bl n0 (B + 2) A len cp L hlen (fun k X => I k X ∧ X.heap[B + 1]? = some (.loop (rec .ready none)) ∧ X.heap[B]? = some (.deferred (some []))) (fun X => Ix X ∧ X.heap[B + 1]? = some (.loop (rec .done (some .ret))) ∧ X.heap[B]? = some (.deferred (some []))) X1 hsz.symm ?_ ?_ ((hbel.cell (p := ⟨Bl, 0, none⟩) (lt_of_cell hBl)).trans hBl) (hL.below hbel (hB ▸ hn0)) (by omega) ⟨i0, r1, r0⟩).mono ?_
  · rintro k X Y row ⟨hi, h1, h2⟩ hgr hrow
    have hne : ∀ b, b ≤ B + 1 → some b ≠ row := fun b hb e => by
      rcases hrow with rfl | rfl
      · cases e
      · cases e; omega
    exact ⟨hI k X Y row hi hgr (fun r e => by rcases hrow with rfl | rfl <;> cases e; omega), (hgr.block _ (lt_of_heap h1) (hne _ (Nat.le_refl _))).trans h1, (hgr.block _ (lt_of_heap h2) (hne _ (Nat.le_succ _))).trans h2⟩
  · rintro k Wp ⟨hi, h1, h2⟩ hlt hbs
    obtain ⟨aa, W1, hass, hbW, hbody⟩ := hround k Wp hi hlt hbs
    have g1 := (a1 Wp (.cells (rowL (lnAt L k)) 67))
    have l1 := (g1.block _ (lt_of_heap h1)).trans h1
    have l2 := (g1.block _ (lt_of_heap h2)).trans h2
    have hy := run_yield (P := Try.prog) (args := #[.agg (rowL (prevL L k)), .agg (rowL (lnAt L k))]) l1 (by rw [hrec]; exact hps.symm)
    rw [hrec] at hy
    refine ⟨fn, _, assign, body, hy, roundIn_of_wpIn hfn (hass _ ?_)⟩
    have m1 := (hbW.block _ (lt_of_heap l1)).trans l1
    have m2 := (hbW.block _ (lt_of_heap l2)).trans l2
    refine ⟨_, run_beginRound m1 (by rw [hrec]), ?_⟩
    obtain ⟨W2, hW2⟩ : ∃ X, X = W1.putObj (B + 1) (.loop { rec .ready none with state := .busy }) := ⟨_, rfl⟩
    rw [← hW2]
    have hg2 : W1.grownBy W2 (some (B + 1)) := by rw [hW2]; exact grownBy_putObj' _ _ _
    have n1 : W2.heap[B + 1]? = some (.loop { rec .ready none with state := .busy }) := by rw [hW2]; exact World.putObj_heap_same (lt_of_heap m1)
    have n2 : W2.heap[B]? = some (.deferred (some [])) := (hg2.block _ (lt_of_heap m2) (by intro e; injection e with e; omega)).trans m2
    have i1 : I k W2 := hI k _ _ _ (hI k _ _ none (hI k _ _ none hi (only_of_below g1 none) (fun r e => by cases e)) (only_of_below hbW none) (fun r e => by cases e)) hg2 (fun r e => by cases e; omega)
    have hWp2 : Below n0 Wp W2 := (((g1.mono (by omega)).trans (hbW.mono (by simp; omega))).grown hg2 (by have := hbW.size; have := g1.size; omega) (fun r e => by cases e; omega))
    have b2 : W2.heap[B + 2]? = Wp.heap[B + 2]? := (hg2.block _ (by have := hbW.size; simp at this; omega) (by intro e; injection e with e; omega)).trans ((hbW.block _ (by simp; omega)).trans (g1.block _ (by omega)))
    have b3 : W2.heap[Wp.heap.size]? = some (.cells (rowL (lnAt L k)) 67) := (hg2.block _ (by have := hbW.size; simp at this; omega) (by intro e; injection e with e; omega)).trans ((hbW.block _ (by simp)).trans (heap_alloc_new Wp _))
    have fin : ∀ (jump : Option Code) (W3 : World), Kp4 B n0 Wp.heap.size W2 W3 →
        ∃ W4, (Instr.endRound (B + 1) jump).run Try.prog W3 = .ok (.bool jump.isNone) W4 ∧ W3.grownBy W4 (some (B + 1)) ∧ W4.heap[B + 1]? = some (.loop (rec (if jump.isNone then .ready else .done) jump)) ∧ W4.heap[B]? = some (.deferred (some [])) ∧ Below n0 Wp W4 ∧ W4.heap[B + 2]? = Wp.heap[B + 2]? ∧ W4.heap[Wp.heap.size]? = some (.cells (rowL (lnAt L k)) 67) := by
      rintro jump W3 ⟨hs3, hb3, hk3⟩
      have p1 := (hk3 (B + 1) (.inl ⟨by omega, by omega⟩)).trans n1
      have p2 := (hk3 B (.inl ⟨by omega, by omega⟩)).trans n2
      have hr := run_endRound (P := Try.prog) jump p1
      have hg4 := grownBy_putObj' W3 (B + 1) (.loop { ({ rec .ready none with state := .busy } : Loop) with state := if jump.isNone then .ready else .done, pending := jump })
      refine ⟨_, hr, hg4, ?_, (hg4.block _ (lt_of_heap p2) (by intro e; injection e with e; omega)).trans p2, (hWp2.trans hb3).grown hg4 (by have := lt_of_heap p2; omega) (fun r e => by cases e; omega), ?_, ?_⟩
      · rw [World.putObj_heap_same (lt_of_heap p1), hrec]
      · have q := hk3 (B + 2) (.inl ⟨by omega, by omega⟩)
        exact (hg4.block _ (by have := hWp2.size; omega) (by intro e; injection e with e; omega)).trans (q.trans b2)
      · have q := (hk3 Wp.heap.size (.inr rfl)).trans b3
        exact (hg4.block _ (lt_of_heap q) (by intro e; injection e with e; omega)).trans q
    refine wpIn_mono (hbody W2 i1 hg2) ?_
    intro e a3 W3 hp
    cases e with
    | normal =>
      obtain ⟨hi3, hk3⟩ := hp
      obtain ⟨W4, hr, hg4, s1, s2, s3, s4, s5⟩ := fin none W3 hk3
      exact ⟨_, _, hr, .inl ⟨rfl, ⟨hI _ _ _ _ hi3 hg4 (fun r e => by cases e; omega), s1, s2⟩, s3, s4, s5⟩⟩
    | ret =>
      obtain ⟨hi3, hk3⟩ := hp
      obtain ⟨W4, hr, hg4, s1, s2, s3, s4, s5⟩ := fin (some .ret) W3 hk3
      exact ⟨_, _, hr, .inr ⟨rfl, hIx _ _ _ hi3 hg4 (fun r e => by cases e; omega), s1, s2⟩⟩
    | exit id => exact hp.elim
    | goto t => exact hp.elim
    | panic c => exact hp.elim
    | outgrown => exact hp.elim
  · rintro e X ⟨⟨v, rfl⟩, (⟨hi, h1, h2⟩ | ⟨hi, h1, h2⟩)⟩
    · have hr := run_endLoop (P := Try.prog) h1 (by rw [hrec]; simp)
      have hg4 := grownBy_putObj' X (B + 1) (.loop { rec .ready none with state := .exhausted })
      rw [hrec] at hr hg4
      refine ⟨none, _, hr, ?_⟩
      exact hdone _ (hI _ _ _ _ hi hg4 (fun r e => by cases e; omega)) ((hg4.block _ (lt_of_heap h2) (by intro e; injection e with e; omega)).trans h2)
    · have hr := run_endLoop (P := Try.prog) h1 (by rw [hrec]; simp)
      have hg4 := grownBy_putObj' X (B + 1) (.loop { rec .done (some .ret) with state := .exhausted })
      rw [hrec] at hr hg4
      refine ⟨some .ret, _, hr, ?_⟩
      exact hstop _ (hIx _ _ _ hi hg4 (fun r e => by cases e; omega)) ((hg4.block _ (lt_of_heap h2) (by intro e; injection e with e; omega)).trans h2)
end Go.Proofs.Ytiggpgeldigknaa
