/- Replicated servers: equality, walked. -/
import Derived.Test.YtiapeenfggjpnaaPF
import Derived.Laws.IdiomStrings
import Derived.Lib.BufferRead
set_option linter.unusedVariables false
set_option linter.unusedSimpArgs false
namespace Go.Proofs.Ytiapeenfggjpnaa
open Go.RowKit
theorem conv_bytes {w : World} {B : Nat} {A : Option Addr} {n c : Nat} {d : List UInt8} (h : BAt w B A n d) : (convert 25 9 (.slice A n c)).run Try.prog w = .ok (.string ⟨d.toArray⟩) w := by
  have hl := h.len
  subst hl
  cases A with
  | none =>
    have h0 : d.length = 0 := by
      rcases Nat.eq_zero_or_pos d.length with h0 | h0
      · exact h0
      · obtain ⟨ad, e, _⟩ := h.at_ h0; cases e
    obtain rfl : d = [] := List.eq_nil_of_length_eq_zero h0
    exact Lib.run_convert_nil_bytes w 25 9 5 c Try.underlying25 Try.underlying5 Try.underlying9
  | some ad =>
    refine run_convert_bytes_back w 25 9 5 ad c d Try.underlying25 Try.underlying5 Try.underlying9 (fun j hj => ?_)
    obtain ⟨ad', e, _, hc⟩ := h.at_ hj
    injection e with e
    subst e
    have := hc 0 _ rfl
    simpa using this
set_option maxRecDepth 100000 in
set_option maxHeartbeats 8000000 in
theorem equal_any (A1 A2 : Option Addr) (n1 c1 n2 c2 : Nat) (d d2 : List UInt8) (w : World) (B1 B2 : Nat) (h1 : BAt w B1 A1 n1 d) (h2 : BAt w B2 A2 n2 d2) :
    Calls Try.prog 21 #[.slice A1 n1 c1, .slice A2 n2 c2] w fun e w' => e = .returned (.bool (decide (d = d2))) ∧ w' = w := by
  have e1 := conv_bytes (c := c1) h1
  have e2 := conv_bytes (c := c2) h2
  clear h1 h2
  have hs : Hid (decide (d = d2) = decide ((⟨d.toArray⟩ : ByteArray).toList = (⟨d2.toArray⟩ : ByteArray).toList)) := by
    show _ = _
    rw [ByteArray.toList_eq, ByteArray.toList_eq, decide_eq_decide]
  generalize (⟨d.toArray⟩ : ByteArray) = s at *
  generalize (⟨d2.toArray⟩ : ByteArray) = s2 at *
  go_enter Try.func21, Try.ntmps21
  go_wp2_with fail
  go_ret
  refine ⟨?_, rfl⟩
  rw [hs.out]
  exact ret_bool (by rw [Bool.eq_iff_iff, beq_iff_eq, decide_eq_true_eq])
def eqEn (a b : En) : Bool := decide (a.view = b.view) && decide (a.d = b.d)
def eqLog : List En → List En → Bool
  | [], [] => true
  | x :: r, y :: s => eqEn x y && eqLog r s
  | _, _ => false
theorem eqEn_iff (a b : En) : eqEn a b = true ↔ a = b := by
  unfold eqEn
  obtain ⟨v, d⟩ := a
  obtain ⟨v2, d2⟩ := b
  simp
theorem eqLog_iff : ∀ a b : List En, eqLog a b = true ↔ a = b
  | [], [] => by simp [eqLog]
  | [], _ :: _ => by simp [eqLog]
  | _ :: _, [] => by simp [eqLog]
  | x :: r, y :: s => by simp [eqLog, eqEn_iff, eqLog_iff r s]
theorem eqLog_len : ∀ a b : List En, eqLog a b = true → a.length = b.length := fun a b h => by rw [(eqLog_iff a b).1 h]
theorem eqLog_drop (a b : List En) (k : Nat) (h1 : k < a.length) (h2 : k < b.length) : eqLog (a.drop k) (b.drop k) = (eqEn a[k] b[k] && eqLog (a.drop (k + 1)) (b.drop (k + 1))) := by
  rw [List.drop_eq_getElem_cons h1, List.drop_eq_getElem_cons h2]
  rfl
set_option maxRecDepth 100000 in
set_option maxHeartbeats 8000000 in
theorem enL_any (a b : Em) (w : World) {Q1 Q2 : Nat → Prop} (h1 : EmAt w Q1 a) (h2 : EmAt w Q2 b) :
    Calls Try.prog 52 #[.agg #[Value.int .i64 a.view, Value.slice a.A a.n a.c], .agg #[Value.int .i64 b.view, Value.slice b.A b.n b.c]] w fun e w' => e = .returned (.bool (eqEn a.val b.val)) ∧ Below w.heap.size w w' := by
  have hb : Hid (Below w.heap.size w ((w.alloc (.cells #[Value.int .i64 a.view, Value.slice a.A a.n a.c] 59)).alloc (.cells #[Value.int .i64 b.view, Value.slice b.A b.n b.c] 59))) := (a1 w _).alloc (by simp) _
  have hq := Lib.hid (equal_any a.A b.A a.n a.c b.n b.c a.d b.d ((w.alloc (.cells #[Value.int .i64 a.view, Value.slice a.A a.n a.c] 59)).alloc (.cells #[Value.int .i64 b.view, Value.slice b.A b.n b.c] 59)) _ _ (h1.at_.more hb.out) (h2.at_.more hb.out))
  clear h1 h2
  obtain ⟨v1, A1, n1, c1, d1⟩ := a
  obtain ⟨v2, A2, n2, c2, d2⟩ := b
  simp only at hb hq
  have hx := Lib.hid ((Blk.new w 59 #[Value.int .i64 v1, Value.slice A1 n1 c1]).alloc (.cells #[Value.int .i64 v2, Value.slice A2 n2 c2] 59))
  have hy := Lib.hid (Blk.new (w.alloc (.cells #[Value.int .i64 v1, Value.slice A1 n1 c1] 59)) 59 #[Value.int .i64 v2, Value.slice A2 n2 c2])
  rw [show (w.alloc (.cells #[Value.int .i64 v1, Value.slice A1 n1 c1] 59)).heap.size = w.heap.size + 1 by simp] at hy
  obtain ⟨k0, k1⟩ := cells2 (((w.alloc (.cells #[Value.int .i64 v1, Value.slice A1 n1 c1] 59)).alloc (.cells #[Value.int .i64 v2, Value.slice A2 n2 c2] 59))) (w.heap.size) (Value.int .i64 v1) (Value.slice A1 n1 c1) (hx.out)
  obtain ⟨m0, m1⟩ := cells2 (((w.alloc (.cells #[Value.int .i64 v1, Value.slice A1 n1 c1] 59)).alloc (.cells #[Value.int .i64 v2, Value.slice A2 n2 c2] 59))) ((w.heap.size + 1)) (Value.int .i64 v2) (Value.slice A2 n2 c2) (hy.out)
  by_cases q : v1 = v2
  · have hF : Hid (eqEn ⟨v1, d1⟩ ⟨v2, d2⟩ = decide (d1 = d2)) := by show _ = _; unfold eqEn; rw [decide_eq_true q]; rfl
    have qd : (v1 == v2) = true := by simpa using q
    replace q := Lib.hid q
    generalize decide (d1 = d2) = bb at *
    go_enter Try.func52, Try.ntmps52
    go_wp2_with fail
    refine hq.out.mono ?_; rintro e w5 ⟨rfl, rfl⟩
    go_wp2_with fail
    go_ret
    exact ⟨congrArg (fun e : Bool => Ending.returned (Value.bool e)) hF.out.symm, hb.out⟩
  · have hF : Hid (eqEn ⟨v1, d1⟩ ⟨v2, d2⟩ = false) := by show _ = _; unfold eqEn; rw [decide_eq_false q]; rfl
    have qd : (v1 == v2) = false := by simpa using q
    clear hq
    go_enter Try.func52, Try.ntmps52
    go_wp2_with fail
    go_ret
    exact ⟨congrArg (fun e : Bool => Ending.returned (Value.bool e)) hF.out.symm, hb.out⟩
set_option maxRecDepth 100000 in
set_option maxHeartbeats 8000000 in
theorem enP_any (a b : Em) (w : World) {Q1 Q2 : Nat → Prop} (h1 : EmAt w Q1 a) (h2 : EmAt w Q2 b) :
    Calls Try.prog 60 #[.agg #[Value.int .i64 a.view, Value.slice a.A a.n a.c], .agg #[Value.int .i64 b.view, Value.slice b.A b.n b.c]] w fun e w' => e = .returned (.bool (eqEn a.val b.val)) ∧ Below w.heap.size w w' := by
  have hb : Hid (Below w.heap.size w ((w.alloc (.cells #[Value.int .i64 a.view, Value.slice a.A a.n a.c] 59)).alloc (.cells #[Value.int .i64 b.view, Value.slice b.A b.n b.c] 59))) := (a1 w _).alloc (by simp) _
  have hq := Lib.hid (equal_any a.A b.A a.n a.c b.n b.c a.d b.d ((w.alloc (.cells #[Value.int .i64 a.view, Value.slice a.A a.n a.c] 59)).alloc (.cells #[Value.int .i64 b.view, Value.slice b.A b.n b.c] 59)) _ _ (h1.at_.more hb.out) (h2.at_.more hb.out))
  clear h1 h2
  obtain ⟨v1, A1, n1, c1, d1⟩ := a
  obtain ⟨v2, A2, n2, c2, d2⟩ := b
  simp only at hb hq
  have hx := Lib.hid ((Blk.new w 59 #[Value.int .i64 v1, Value.slice A1 n1 c1]).alloc (.cells #[Value.int .i64 v2, Value.slice A2 n2 c2] 59))
  have hy := Lib.hid (Blk.new (w.alloc (.cells #[Value.int .i64 v1, Value.slice A1 n1 c1] 59)) 59 #[Value.int .i64 v2, Value.slice A2 n2 c2])
  rw [show (w.alloc (.cells #[Value.int .i64 v1, Value.slice A1 n1 c1] 59)).heap.size = w.heap.size + 1 by simp] at hy
  obtain ⟨k0, k1⟩ := cells2 (((w.alloc (.cells #[Value.int .i64 v1, Value.slice A1 n1 c1] 59)).alloc (.cells #[Value.int .i64 v2, Value.slice A2 n2 c2] 59))) (w.heap.size) (Value.int .i64 v1) (Value.slice A1 n1 c1) (hx.out)
  obtain ⟨m0, m1⟩ := cells2 (((w.alloc (.cells #[Value.int .i64 v1, Value.slice A1 n1 c1] 59)).alloc (.cells #[Value.int .i64 v2, Value.slice A2 n2 c2] 59))) ((w.heap.size + 1)) (Value.int .i64 v2) (Value.slice A2 n2 c2) (hy.out)
  by_cases q : v1 = v2
  · have hF : Hid (eqEn ⟨v1, d1⟩ ⟨v2, d2⟩ = decide (d1 = d2)) := by show _ = _; unfold eqEn; rw [decide_eq_true q]; rfl
    have qd : (v1 == v2) = true := by simpa using q
    replace q := Lib.hid q
    generalize decide (d1 = d2) = bb at *
    go_enter Try.func60, Try.ntmps60
    go_wp2_with fail
    refine hq.out.mono ?_; rintro e w5 ⟨rfl, rfl⟩
    go_wp2_with fail
    go_ret
    exact ⟨congrArg (fun e : Bool => Ending.returned (Value.bool e)) hF.out.symm, hb.out⟩
  · have hF : Hid (eqEn ⟨v1, d1⟩ ⟨v2, d2⟩ = false) := by show _ = _; unfold eqEn; rw [decide_eq_false q]; rfl
    have qd : (v1 == v2) = false := by simpa using q
    clear hq
    go_enter Try.func60, Try.ntmps60
    go_wp2_with fail
    go_ret
    exact ⟨congrArg (fun e : Bool => Ending.returned (Value.bool e)) hF.out.symm, hb.out⟩
set_option maxRecDepth 100000 in
set_option maxHeartbeats 8000000 in
theorem eqfL_any (A1 A2 : Option Addr) (n1 c1 n2 c2 : Nat) (l1 l2 : List Em) (w : World) {Q1 Q2 : Nat → Prop} (h1 : LogAt w Q1 A1 n1 c1 l1) (h2 : LogAt w Q2 A2 n2 c2 l2) (hn : n1 ≤ 5000) :
    Calls Try.prog 51 #[.slice A1 n1 c1, .slice A2 n2 c2, .func (.func 52) #[] #[]] w fun e w' => e = .returned (.bool (eqLog (l1.map Em.val) (l2.map Em.val))) ∧ Below w.heap.size w w' := by
  have hl1 := Lib.hid h1.len
  have hl2 := Lib.hid h2.len
  replace h1 := Lib.hid h1
  replace h2 := Lib.hid h2
  by_cases q : n1 = n2
  · subst q
    go_enter Try.func51, Try.ntmps51
    go_wp2_with fail
    go_loopw [17] (fun i wr => ∃ k : Nat, k ≤ n1 ∧ i = .int .i64 k ∧ Hid (eqLog (l1.map Em.val) (l2.map Em.val) = eqLog ((l1.map Em.val).drop k) ((l2.map Em.val).drop k)) ∧ Hid (Below w.heap.size w wr)) (fun i _ => n1 - (intOf i).toNat)
    case atStart => exact ⟨0, Nat.zero_le _, rfl, rfl, Below.refl _ _⟩
    case round =>
      obtain ⟨k, hkn, rfl, hL, hb⟩ := hrel
      by_cases hlt : k < n1
      · have k1 : k < l1.length := by have := hl1.out; omega
        have k2 : k < l2.length := by have := hl2.out; omega
        have hk0 : (0 : Int) ≤ k := by omega
        have hk1 : (k : Int) < n1 := by omega
        obtain ⟨ad, hA, -, e0, e1⟩ := en_cells (h1.out.at_.below hb.out (Nat.le_refl _)) hlt
        obtain ⟨ad2, hA2, -, d0, d1⟩ := en_cells (h2.out.at_.below hb.out (Nat.le_refl _)) hlt
        have hst : Hid (eqLog (l1.map Em.val) (l2.map Em.val) = (eqEn (l1[k]).val (l2[k]).val && eqLog ((l1.map Em.val).drop (k + 1)) ((l2.map Em.val).drop (k + 1)))) := by
          show _ = _
          rw [hL.out, eqLog_drop _ _ k (by simpa using k1) (by simpa using k2), List.getElem_map, List.getElem_map]
        have hx1 := h1.out.els _ (List.getElem_mem k1)
        have hx2 := h2.out.els _ (List.getElem_mem k2)
        generalize l1[k] = x at *
        generalize l2[k] = y at *
        have hbw : Hid (Below wr.heap.size wr ((wr.alloc (.cells #[Value.int .i64 x.view, Value.slice x.A x.n x.c] 59)).alloc (.cells #[Value.int .i64 y.view, Value.slice y.A y.n y.c] 59))) := (a1 wr _).alloc (by simp) _
        have hcl := Lib.hid (enL_any x y ((wr.alloc (.cells #[Value.int .i64 x.view, Value.slice x.A x.n x.c] 59)).alloc (.cells #[Value.int .i64 y.view, Value.slice y.A y.n y.c] 59)) (hx1.more (hb.out.trans (hbw.out.mono hb.out.size))) (hx2.more (hb.out.trans (hbw.out.mono hb.out.size))))
        obtain ⟨bb, hbb⟩ : ∃ bb, bb = eqEn x.val y.val := ⟨_, rfl⟩
        rw [← hbb] at hst hcl
        clear hx1 hx2 hbb
        obtain ⟨xv, xA, xn, xc, xd⟩ := x
        obtain ⟨yv, yA, yn, yc, yd⟩ := y
        (try simp only at e0 e1 d0 d1 hbw hcl)
        have hb2 := Lib.hid (hb.out.trans (hbw.out.mono hb.out.size))
        have hx := Lib.hid ((Blk.new wr 59 #[Value.int .i64 xv, Value.slice xA xn xc]).alloc (.cells #[Value.int .i64 yv, Value.slice yA yn yc] 59))
        have hy := Lib.hid (Blk.new (wr.alloc (.cells #[Value.int .i64 xv, Value.slice xA xn xc] 59)) 59 #[Value.int .i64 yv, Value.slice yA yn yc])
        rw [show (wr.alloc (.cells #[Value.int .i64 xv, Value.slice xA xn xc] 59)).heap.size = wr.heap.size + 1 by simp] at hy
        subst hA
        subst hA2
        have d0 := cell_alloc d0 (.cells #[Value.int .i64 xv, Value.slice xA xn xc] 59)
        have d1 := cell_alloc d1 (.cells #[Value.int .i64 xv, Value.slice xA xn xc] 59)
        obtain ⟨k0, k1⟩ := cells2 (((wr.alloc (.cells #[Value.int .i64 xv, Value.slice xA xn xc] 59)).alloc (.cells #[Value.int .i64 yv, Value.slice yA yn yc] 59))) (wr.heap.size) (Value.int .i64 xv) (Value.slice xA xn xc) (hx.out)
        obtain ⟨m0, m1⟩ := cells2 (((wr.alloc (.cells #[Value.int .i64 xv, Value.slice xA xn xc] 59)).alloc (.cells #[Value.int .i64 yv, Value.slice yA yn yc] 59))) ((wr.heap.size + 1)) (Value.int .i64 yv) (Value.slice yA yn yc) (hy.out)
        go_wp2_with fail
        refine hcl.out.mono ?_; rintro e w5 ⟨rfl, hq⟩
        have hb := Lib.hid (hb2.out.trans (hq.mono hb2.out.size))
        clear hq hcl k0 k1 m0 m1
        cases bb with
        | true =>
          have hF : Hid (eqLog (l1.map Em.val) (l2.map Em.val) = eqLog ((l1.map Em.val).drop (k + 1)) ((l2.map Em.val).drop (k + 1))) := by show _ = _; rw [hst.out]; rfl
          go_wp2_with fail
          go_roundw
          case rel => exact ⟨k + 1, by omega, by go_num, hF.out, hb.out⟩
          case measure => simp [intOf]; omega
        | false =>
          have hF : Hid (eqLog (l1.map Em.val) (l2.map Em.val) = false) := by show _ = _; rw [hst.out]; rfl
          go_wp2_with fail
          go_ret
          exact ⟨congrArg (fun e : Bool => Ending.returned (Value.bool e)) hF.out.symm, hb.out⟩
      · have hF : Hid (eqLog (l1.map Em.val) (l2.map Em.val) = true) := by show _ = _; rw [hL.out, List.drop_eq_nil_of_le (by have := hl1.out; simp; omega), List.drop_eq_nil_of_le (by have := hl2.out; simp; omega)]; rfl
        go_wp2_with fail
        go_ret
        exact ⟨congrArg (fun e : Bool => Ending.returned (Value.bool e)) hF.out.symm, hb.out⟩
  · have hF : Hid (eqLog (l1.map Em.val) (l2.map Em.val) = false) := by
      show _ = _
      rw [← Bool.not_eq_true]
      intro e
      have := eqLog_len _ _ e
      rw [List.length_map, List.length_map, hl1.out, hl2.out] at this
      exact q this
    have qd : ((n1 : Int) != (n2 : Int)) = true := by simp; omega
    go_enter Try.func51, Try.ntmps51
    go_wp2_with fail
    go_ret
    exact ⟨congrArg (fun e : Bool => Ending.returned (Value.bool e)) hF.out.symm, Below.refl _ _⟩
set_option maxRecDepth 100000 in
set_option maxHeartbeats 8000000 in
theorem eqfP_any (A1 A2 : Option Addr) (n1 c1 n2 c2 : Nat) (l1 l2 : List Em) (w : World) {Q1 Q2 : Nat → Prop} (h1 : LogAt w Q1 A1 n1 c1 l1) (h2 : LogAt w Q2 A2 n2 c2 l2) (hn : n1 ≤ 5000) :
    Calls Try.prog 51 #[.slice A1 n1 c1, .slice A2 n2 c2, .func (.func 60) #[] #[]] w fun e w' => e = .returned (.bool (eqLog (l1.map Em.val) (l2.map Em.val))) ∧ Below w.heap.size w w' := by
  have hl1 := Lib.hid h1.len
  have hl2 := Lib.hid h2.len
  replace h1 := Lib.hid h1
  replace h2 := Lib.hid h2
  by_cases q : n1 = n2
  · subst q
    go_enter Try.func51, Try.ntmps51
    go_wp2_with fail
    go_loopw [17] (fun i wr => ∃ k : Nat, k ≤ n1 ∧ i = .int .i64 k ∧ Hid (eqLog (l1.map Em.val) (l2.map Em.val) = eqLog ((l1.map Em.val).drop k) ((l2.map Em.val).drop k)) ∧ Hid (Below w.heap.size w wr)) (fun i _ => n1 - (intOf i).toNat)
    case atStart => exact ⟨0, Nat.zero_le _, rfl, rfl, Below.refl _ _⟩
    case round =>
      obtain ⟨k, hkn, rfl, hL, hb⟩ := hrel
      by_cases hlt : k < n1
      · have k1 : k < l1.length := by have := hl1.out; omega
        have k2 : k < l2.length := by have := hl2.out; omega
        have hk0 : (0 : Int) ≤ k := by omega
        have hk1 : (k : Int) < n1 := by omega
        obtain ⟨ad, hA, -, e0, e1⟩ := en_cells (h1.out.at_.below hb.out (Nat.le_refl _)) hlt
        obtain ⟨ad2, hA2, -, d0, d1⟩ := en_cells (h2.out.at_.below hb.out (Nat.le_refl _)) hlt
        have hst : Hid (eqLog (l1.map Em.val) (l2.map Em.val) = (eqEn (l1[k]).val (l2[k]).val && eqLog ((l1.map Em.val).drop (k + 1)) ((l2.map Em.val).drop (k + 1)))) := by
          show _ = _
          rw [hL.out, eqLog_drop _ _ k (by simpa using k1) (by simpa using k2), List.getElem_map, List.getElem_map]
        have hx1 := h1.out.els _ (List.getElem_mem k1)
        have hx2 := h2.out.els _ (List.getElem_mem k2)
        generalize l1[k] = x at *
        generalize l2[k] = y at *
        have hbw : Hid (Below wr.heap.size wr ((wr.alloc (.cells #[Value.int .i64 x.view, Value.slice x.A x.n x.c] 59)).alloc (.cells #[Value.int .i64 y.view, Value.slice y.A y.n y.c] 59))) := (a1 wr _).alloc (by simp) _
        have hcl := Lib.hid (enP_any x y ((wr.alloc (.cells #[Value.int .i64 x.view, Value.slice x.A x.n x.c] 59)).alloc (.cells #[Value.int .i64 y.view, Value.slice y.A y.n y.c] 59)) (hx1.more (hb.out.trans (hbw.out.mono hb.out.size))) (hx2.more (hb.out.trans (hbw.out.mono hb.out.size))))
        obtain ⟨bb, hbb⟩ : ∃ bb, bb = eqEn x.val y.val := ⟨_, rfl⟩
        rw [← hbb] at hst hcl
        clear hx1 hx2 hbb
        obtain ⟨xv, xA, xn, xc, xd⟩ := x
        obtain ⟨yv, yA, yn, yc, yd⟩ := y
        (try simp only at e0 e1 d0 d1 hbw hcl)
        have hb2 := Lib.hid (hb.out.trans (hbw.out.mono hb.out.size))
        have hx := Lib.hid ((Blk.new wr 59 #[Value.int .i64 xv, Value.slice xA xn xc]).alloc (.cells #[Value.int .i64 yv, Value.slice yA yn yc] 59))
        have hy := Lib.hid (Blk.new (wr.alloc (.cells #[Value.int .i64 xv, Value.slice xA xn xc] 59)) 59 #[Value.int .i64 yv, Value.slice yA yn yc])
        rw [show (wr.alloc (.cells #[Value.int .i64 xv, Value.slice xA xn xc] 59)).heap.size = wr.heap.size + 1 by simp] at hy
        subst hA
        subst hA2
        have d0 := cell_alloc d0 (.cells #[Value.int .i64 xv, Value.slice xA xn xc] 59)
        have d1 := cell_alloc d1 (.cells #[Value.int .i64 xv, Value.slice xA xn xc] 59)
        obtain ⟨k0, k1⟩ := cells2 (((wr.alloc (.cells #[Value.int .i64 xv, Value.slice xA xn xc] 59)).alloc (.cells #[Value.int .i64 yv, Value.slice yA yn yc] 59))) (wr.heap.size) (Value.int .i64 xv) (Value.slice xA xn xc) (hx.out)
        obtain ⟨m0, m1⟩ := cells2 (((wr.alloc (.cells #[Value.int .i64 xv, Value.slice xA xn xc] 59)).alloc (.cells #[Value.int .i64 yv, Value.slice yA yn yc] 59))) ((wr.heap.size + 1)) (Value.int .i64 yv) (Value.slice yA yn yc) (hy.out)
        go_wp2_with fail
        refine hcl.out.mono ?_; rintro e w5 ⟨rfl, hq⟩
        have hb := Lib.hid (hb2.out.trans (hq.mono hb2.out.size))
        clear hq hcl k0 k1 m0 m1
        cases bb with
        | true =>
          have hF : Hid (eqLog (l1.map Em.val) (l2.map Em.val) = eqLog ((l1.map Em.val).drop (k + 1)) ((l2.map Em.val).drop (k + 1))) := by show _ = _; rw [hst.out]; rfl
          go_wp2_with fail
          go_roundw
          case rel => exact ⟨k + 1, by omega, by go_num, hF.out, hb.out⟩
          case measure => simp [intOf]; omega
        | false =>
          have hF : Hid (eqLog (l1.map Em.val) (l2.map Em.val) = false) := by show _ = _; rw [hst.out]; rfl
          go_wp2_with fail
          go_ret
          exact ⟨congrArg (fun e : Bool => Ending.returned (Value.bool e)) hF.out.symm, hb.out⟩
      · have hF : Hid (eqLog (l1.map Em.val) (l2.map Em.val) = true) := by show _ = _; rw [hL.out, List.drop_eq_nil_of_le (by have := hl1.out; simp; omega), List.drop_eq_nil_of_le (by have := hl2.out; simp; omega)]; rfl
        go_wp2_with fail
        go_ret
        exact ⟨congrArg (fun e : Bool => Ending.returned (Value.bool e)) hF.out.symm, hb.out⟩
  · have hF : Hid (eqLog (l1.map Em.val) (l2.map Em.val) = false) := by
      show _ = _
      rw [← Bool.not_eq_true]
      intro e
      have := eqLog_len _ _ e
      rw [List.length_map, List.length_map, hl1.out, hl2.out] at this
      exact q this
    have qd : ((n1 : Int) != (n2 : Int)) = true := by simp; omega
    go_enter Try.func51, Try.ntmps51
    go_wp2_with fail
    go_ret
    exact ⟨congrArg (fun e : Bool => Ending.returned (Value.bool e)) hF.out.symm, Below.refl _ _⟩
theorem sameLogL_any (A1 A2 : Option Addr) (n1 c1 n2 c2 : Nat) (l1 l2 : List Em) (w : World) {Q1 Q2 : Nat → Prop} (h1 : LogAt w Q1 A1 n1 c1 l1) (h2 : LogAt w Q2 A2 n2 c2 l2) (hn : n1 ≤ 5000) :
    Calls Try.prog 24 #[.slice A1 n1 c1, .slice A2 n2 c2] w fun e w' => e = .returned (.bool (eqLog (l1.map Em.val) (l2.map Em.val))) ∧ Below w.heap.size w w' := by
  have hc := Lib.hid (eqfL_any A1 A2 n1 c1 n2 c2 l1 l2 w h1 h2 hn)
  clear h1 h2
  generalize eqLog (l1.map Em.val) (l2.map Em.val) = bb at *
  go_enter Try.func24, Try.ntmps24
  go_wp2_with fail
  refine hc.out.mono ?_; rintro e w5 ⟨rfl, hb⟩
  replace hb := Lib.hid hb
  clear hc
  go_wp2_with fail
  go_ret
  exact ⟨rfl, hb.out⟩
theorem sameLogP_any (A1 A2 : Option Addr) (n1 c1 n2 c2 : Nat) (l1 l2 : List Em) (w : World) {Q1 Q2 : Nat → Prop} (h1 : LogAt w Q1 A1 n1 c1 l1) (h2 : LogAt w Q2 A2 n2 c2 l2) (hn : n1 ≤ 5000) :
    Calls Try.prog 59 #[.slice A1 n1 c1, .slice A2 n2 c2] w fun e w' => e = .returned (.bool (eqLog (l1.map Em.val) (l2.map Em.val))) ∧ Below w.heap.size w w' := by
  have hc := Lib.hid (eqfP_any A1 A2 n1 c1 n2 c2 l1 l2 w h1 h2 hn)
  clear h1 h2
  generalize eqLog (l1.map Em.val) (l2.map Em.val) = bb at *
  go_enter Try.func59, Try.ntmps59
  go_wp2_with fail
  refine hc.out.mono ?_; rintro e w5 ⟨rfl, hb⟩
  replace hb := Lib.hid hb
  clear hc
  go_wp2_with fail
  go_ret
  exact ⟨rfl, hb.out⟩
set_option maxRecDepth 100000 in
set_option maxHeartbeats 8000000 in
theorem svEq_any (a b : Sm) (w : World) {Q1 Q2 : Nat → Prop} (h1 : SmAt w Q1 a) (h2 : SmAt w Q2 b) (he : a.val = b.val) (hn : a.n ≤ 5000) :
    Calls Try.prog 36 #[.agg #[Value.bool a.up, Value.int .i64 a.view, Value.slice a.A a.n a.c], .agg #[Value.bool b.up, Value.int .i64 b.view, Value.slice b.A b.n b.c]] w fun e w' => e = .returned (.bool true) ∧ Below w.heap.size w w' := by
  have hb : Hid (Below w.heap.size w ((w.alloc (.cells #[Value.bool a.up, Value.int .i64 a.view, Value.slice a.A a.n a.c] 47)).alloc (.cells #[Value.bool b.up, Value.int .i64 b.view, Value.slice b.A b.n b.c] 47))) := (a1 w _).alloc (by simp) _
  have hq := Lib.hid (sameLogL_any a.A b.A a.n a.c b.n b.c a.log b.log ((w.alloc (.cells #[Value.bool a.up, Value.int .i64 a.view, Value.slice a.A a.n a.c] 47)).alloc (.cells #[Value.bool b.up, Value.int .i64 b.view, Value.slice b.A b.n b.c] 47)) (LogAt.more h1 hb.out) (LogAt.more h2 hb.out) hn)
  rw [show eqLog (a.log.map Em.val) (b.log.map Em.val) = true from (eqLog_iff _ _).2 (congrArg Sv.log he)] at hq
  clear h1 h2
  obtain ⟨u1, v1, A1, n1, c1, d1⟩ := a
  obtain ⟨u2, v2, A2, n2, c2, d2⟩ := b
  obtain rfl : u1 = u2 := congrArg Sv.up he
  obtain rfl : v1 = v2 := congrArg Sv.view he
  clear he
  simp only at hb hq
  have hx := Lib.hid ((Blk.new w 47 #[Value.bool u1, Value.int .i64 v1, Value.slice A1 n1 c1]).alloc (.cells #[Value.bool u1, Value.int .i64 v1, Value.slice A2 n2 c2] 47))
  have hy := Lib.hid (Blk.new (w.alloc (.cells #[Value.bool u1, Value.int .i64 v1, Value.slice A1 n1 c1] 47)) 47 #[Value.bool u1, Value.int .i64 v1, Value.slice A2 n2 c2])
  rw [show (w.alloc (.cells #[Value.bool u1, Value.int .i64 v1, Value.slice A1 n1 c1] 47)).heap.size = w.heap.size + 1 by simp] at hy
  obtain ⟨k0, k1, k2⟩ := cells3 (((w.alloc (.cells #[Value.bool u1, Value.int .i64 v1, Value.slice A1 n1 c1] 47)).alloc (.cells #[Value.bool u1, Value.int .i64 v1, Value.slice A2 n2 c2] 47))) (w.heap.size) (Value.bool u1) (Value.int .i64 v1) (Value.slice A1 n1 c1) (hx.out)
  obtain ⟨m0, m1, m2⟩ := cells3 (((w.alloc (.cells #[Value.bool u1, Value.int .i64 v1, Value.slice A1 n1 c1] 47)).alloc (.cells #[Value.bool u1, Value.int .i64 v1, Value.slice A2 n2 c2] 47))) ((w.heap.size + 1)) (Value.bool u1) (Value.int .i64 v1) (Value.slice A2 n2 c2) (hy.out)
  have qb : (u1 == u1) = true := by simp
  go_enter Try.func36, Try.ntmps36
  go_wp2_with fail
  refine hq.out.mono ?_; rintro e w5 ⟨rfl, hz⟩
  have hb5 := Lib.hid (hb.out.trans (hz.mono hb.out.size))
  clear hz hq
  go_wp2_with fail
  go_ret
  exact ⟨rfl, hb5.out⟩
set_option maxRecDepth 100000 in
set_option maxHeartbeats 8000000 in
theorem eqfS_any (A1 A2 : Option Addr) (n1 c1 n2 c2 : Nat) (l1 l2 : List Sm) (w : World) {Q1 Q2 : Nat → Prop} (h1 : LAt svC 3 w w.heap.size A1 n1 l1) (h2 : LAt svC 3 w w.heap.size A2 n2 l2) (s1 : ∀ s ∈ l1, SmAt w Q1 s) (s2 : ∀ s ∈ l2, SmAt w Q2 s) (he : l1.map Sm.val = l2.map Sm.val) (hs : ∀ s ∈ l1, s.n ≤ 5000) (hn : n1 ≤ 1000) :
    Calls Try.prog 35 #[.slice A1 n1 c1, .slice A2 n2 c2, .func (.func 36) #[] #[]] w fun e w' => e = .returned (.bool true) ∧ Below w.heap.size w w' := by
  have hl1 := Lib.hid h1.len
  have hl2 := Lib.hid h2.len
  obtain rfl : n1 = n2 := by
    have := congrArg List.length he
    rw [List.length_map, List.length_map, hl1.out, hl2.out] at this
    exact this
  replace h1 := Lib.hid h1
  replace h2 := Lib.hid h2
  replace s1 := Lib.hid s1
  replace s2 := Lib.hid s2
  replace he := Lib.hid he
  replace hs := Lib.hid hs
  go_enter Try.func35, Try.ntmps35
  go_wp2_with fail
  go_loopw [17] (fun i wr => ∃ k : Nat, k ≤ n1 ∧ i = .int .i64 k ∧ Hid (Below w.heap.size w wr)) (fun i _ => n1 - (intOf i).toNat)
  case atStart => exact ⟨0, Nat.zero_le _, rfl, Below.refl _ _⟩
  case round =>
    obtain ⟨k, hkn, rfl, hb⟩ := hrel
    by_cases hlt : k < n1
    · have k1 : k < l1.length := by have := hl1.out; omega
      have k2 : k < l2.length := by have := hl2.out; omega
      have hk0 : (0 : Int) ≤ k := by omega
      have hk1 : (k : Int) < n1 := by omega
      obtain ⟨ad, hA, -, e0, e1, e2⟩ := sv_cells (h1.out.below hb.out (Nat.le_refl _)) hlt
      obtain ⟨ad2, hA2, -, d0, d1, d2⟩ := sv_cells (h2.out.below hb.out (Nat.le_refl _)) hlt
      have hx1 := s1.out _ (List.getElem_mem k1)
      have hx2 := s2.out _ (List.getElem_mem k2)
      have hx3 := hs.out _ (List.getElem_mem k1)
      have hxe : (l1[k]).val = (l2[k]).val := by
        have h8 : (l1.map Sm.val)[k]? = (l2.map Sm.val)[k]? := by rw [he.out]
        simpa [k1, k2] using h8
      generalize l1[k] = x at *
      generalize l2[k] = y at *
      have hbw : Hid (Below wr.heap.size wr ((wr.alloc (.cells #[Value.bool x.up, Value.int .i64 x.view, Value.slice x.A x.n x.c] 47)).alloc (.cells #[Value.bool y.up, Value.int .i64 y.view, Value.slice y.A y.n y.c] 47))) := (a1 wr _).alloc (by simp) _
      have hcl := Lib.hid (svEq_any x y ((wr.alloc (.cells #[Value.bool x.up, Value.int .i64 x.view, Value.slice x.A x.n x.c] 47)).alloc (.cells #[Value.bool y.up, Value.int .i64 y.view, Value.slice y.A y.n y.c] 47)) (hx1.more (hb.out.trans (hbw.out.mono hb.out.size))) (hx2.more (hb.out.trans (hbw.out.mono hb.out.size))) hxe hx3)
      clear hx1 hx2 hx3 hxe
      obtain ⟨xu, xv, xA, xn, xc, xd⟩ := x
      obtain ⟨yu, yv, yA, yn, yc, yd⟩ := y
      (try simp only at e0 e1 e2 d0 d1 d2 hbw hcl)
      have hb2 := Lib.hid (hb.out.trans (hbw.out.mono hb.out.size))
      have hx := Lib.hid ((Blk.new wr 47 #[Value.bool xu, Value.int .i64 xv, Value.slice xA xn xc]).alloc (.cells #[Value.bool yu, Value.int .i64 yv, Value.slice yA yn yc] 47))
      have hy := Lib.hid (Blk.new (wr.alloc (.cells #[Value.bool xu, Value.int .i64 xv, Value.slice xA xn xc] 47)) 47 #[Value.bool yu, Value.int .i64 yv, Value.slice yA yn yc])
      rw [show (wr.alloc (.cells #[Value.bool xu, Value.int .i64 xv, Value.slice xA xn xc] 47)).heap.size = wr.heap.size + 1 by simp] at hy
      subst hA
      subst hA2
      have d0 := cell_alloc d0 (.cells #[Value.bool xu, Value.int .i64 xv, Value.slice xA xn xc] 47)
      have d1 := cell_alloc d1 (.cells #[Value.bool xu, Value.int .i64 xv, Value.slice xA xn xc] 47)
      have d2 := cell_alloc d2 (.cells #[Value.bool xu, Value.int .i64 xv, Value.slice xA xn xc] 47)
      obtain ⟨k0, k1, k2⟩ := cells3 (((wr.alloc (.cells #[Value.bool xu, Value.int .i64 xv, Value.slice xA xn xc] 47)).alloc (.cells #[Value.bool yu, Value.int .i64 yv, Value.slice yA yn yc] 47))) (wr.heap.size) (Value.bool xu) (Value.int .i64 xv) (Value.slice xA xn xc) (hx.out)
      obtain ⟨m0, m1, m2⟩ := cells3 (((wr.alloc (.cells #[Value.bool xu, Value.int .i64 xv, Value.slice xA xn xc] 47)).alloc (.cells #[Value.bool yu, Value.int .i64 yv, Value.slice yA yn yc] 47))) ((wr.heap.size + 1)) (Value.bool yu) (Value.int .i64 yv) (Value.slice yA yn yc) (hy.out)
      go_wp2_with fail
      refine hcl.out.mono ?_; rintro e w5 ⟨rfl, hq⟩
      have hb := Lib.hid (hb2.out.trans (hq.mono hb2.out.size))
      clear hq hcl k0 k1 k2 m0 m1 m2
      go_wp2_with fail
      go_roundw
      case rel => exact ⟨k + 1, by omega, by go_num, hb.out⟩
      case measure => simp [intOf]; omega
    · go_wp2_with fail
      go_ret
      exact ⟨rfl, hb.out⟩
set_option maxRecDepth 100000 in
set_option maxHeartbeats 8000000 in
theorem same_any (a b : Cm) (w : World) {Q1 Q2 : Nat → Prop} (h1 : CmAt w Q1 a) (h2 : CmAt w Q2 b) (he : a.val = b.val) (hs : ∀ s ∈ a.servers, s.n ≤ 5000) (hn : a.n ≤ 1000) :
    Calls Try.prog 15 #[clV a, clV b] w fun e w' => e = .returned (.bool true) ∧ Below w.heap.size w w' := by
  have hb : Hid (Below w.heap.size w ((w.alloc (.cells #[Value.int .i64 a.primary, Value.int .i64 a.view, Value.int .i64 a.commit, Value.slice a.A a.n a.c] 24)).alloc (.cells #[Value.int .i64 b.primary, Value.int .i64 b.view, Value.int .i64 b.commit, Value.slice b.A b.n b.c] 24))) := (a1 w _).alloc (by simp) _
  have hq := Lib.hid (eqfS_any a.A b.A a.n a.c b.n b.c a.servers b.servers ((w.alloc (.cells #[Value.int .i64 a.primary, Value.int .i64 a.view, Value.int .i64 a.commit, Value.slice a.A a.n a.c] 24)).alloc (.cells #[Value.int .i64 b.primary, Value.int .i64 b.view, Value.int .i64 b.commit, Value.slice b.A b.n b.c] 24)) (h1.at_.more hb.out) (h2.at_.more hb.out) (fun s h => (h1.els s h).more hb.out) (fun s h => (h2.els s h).more hb.out) (congrArg Cv.servers he) hs hn)
  clear h1 h2 hs
  obtain ⟨p, v, m, A1, n1, c1, l1⟩ := a
  obtain ⟨p2, v2, m2, A2, n2, c2, l2⟩ := b
  obtain rfl : p = p2 := congrArg Cv.primary he
  obtain rfl : v = v2 := congrArg Cv.view he
  obtain rfl : m = m2 := congrArg Cv.commit he
  clear he
  simp only [clV] at *
  have hx := Lib.hid ((Blk.new w 24 #[Value.int .i64 p, Value.int .i64 v, Value.int .i64 m, Value.slice A1 n1 c1]).alloc (.cells #[Value.int .i64 p, Value.int .i64 v, Value.int .i64 m, Value.slice A2 n2 c2] 24))
  have hy := Lib.hid (Blk.new (w.alloc (.cells #[Value.int .i64 p, Value.int .i64 v, Value.int .i64 m, Value.slice A1 n1 c1] 24)) 24 #[Value.int .i64 p, Value.int .i64 v, Value.int .i64 m, Value.slice A2 n2 c2])
  rw [show (w.alloc (.cells #[Value.int .i64 p, Value.int .i64 v, Value.int .i64 m, Value.slice A1 n1 c1] 24)).heap.size = w.heap.size + 1 by simp] at hy
  obtain ⟨k0, k1, k2, k3⟩ := cells4 (((w.alloc (.cells #[Value.int .i64 p, Value.int .i64 v, Value.int .i64 m, Value.slice A1 n1 c1] 24)).alloc (.cells #[Value.int .i64 p, Value.int .i64 v, Value.int .i64 m, Value.slice A2 n2 c2] 24))) (w.heap.size) (Value.int .i64 p) (Value.int .i64 v) (Value.int .i64 m) (Value.slice A1 n1 c1) (hx.out)
  obtain ⟨m0, m1, m2, m3⟩ := cells4 (((w.alloc (.cells #[Value.int .i64 p, Value.int .i64 v, Value.int .i64 m, Value.slice A1 n1 c1] 24)).alloc (.cells #[Value.int .i64 p, Value.int .i64 v, Value.int .i64 m, Value.slice A2 n2 c2] 24))) ((w.heap.size + 1)) (Value.int .i64 p) (Value.int .i64 v) (Value.int .i64 m) (Value.slice A2 n2 c2) (hy.out)
  go_enter Try.func15, Try.ntmps15
  go_wp2_with fail
  refine hq.out.mono ?_; rintro e w5 ⟨rfl, hz⟩
  have hb5 := Lib.hid (hb.out.trans (hz.mono hb.out.size))
  clear hz hq
  go_wp2_with fail
  go_ret
  exact ⟨rfl, hb5.out⟩
/-- a row of slices of bytes -/
structure Bs where
  A : Option Addr
  n : Nat
  c : Nat
  d : List UInt8
def sC (b : Bs) : List Value := [.slice b.A b.n b.c]
theorem sC_len (b : Bs) : (sC b).length = 1 := rfl
theorem sC_one (l : List Bs) : ∀ u ∈ flat sC l, u.oneCell' = true := by
  intro u hu
  simp only [flat, List.mem_flatMap, sC] at hu
  obtain ⟨s, _, h⟩ := hu
  simp at h
  rw [h]; rfl
theorem bs_info : (Try.prog.info? 25).map (fun i => (i.zero, i.size, i.bytes)) = some (some (.slice none 0 0), 1, 24) := by kernel_rfl
def BsAt (w : World) (p : Bs) : Prop := BAt w w.heap.size p.A p.n p.d ∧ p.n ≤ p.c ∧ p.c ≤ maxLen
theorem BsAt.more {w w' : World} {p : Bs} (h : BsAt w p) (hb : Below w.heap.size w w') : BsAt w' p := ⟨h.1.more hb, h.2⟩
theorem s_cell {w : World} {B : Nat} {A : Option Addr} {n : Nat} {l : List Bs} (h : LAt sC 1 w B A n l) {k : Nat} (hk : k < n) : ∃ ad, A = some ad ∧ ad.block < B ∧ w.cell? (ad.add k) = some (Value.slice (l[k]'(by rw [h.len]; exact hk)).A (l[k]'(by rw [h.len]; exact hk)).n (l[k]'(by rw [h.len]; exact hk)).c) := by
  obtain ⟨ad, hA, hb, hc⟩ := h.at_ hk
  refine ⟨ad, hA, hb, ?_⟩
  have := hc 0 _ rfl
  simpa using this
theorem sameF_any (A1 A2 : Option Addr) (n1 c1 n2 c2 : Nat) (d : List UInt8) (w : World) (B1 B2 : Nat) (h1 : BAt w B1 A1 n1 d) (h2 : BAt w B2 A2 n2 d) :
    Calls Try.prog 38 #[.slice A1 n1 c1, .slice A2 n2 c2] w fun e w' => e = .returned (.bool true) ∧ w' = w := by
  have hc := equal_any A1 A2 n1 c1 n2 c2 d d w B1 B2 h1 h2
  rw [decide_eq_true rfl] at hc
  replace hc := Lib.hid hc
  clear h1 h2
  go_enter Try.func38, Try.ntmps38
  go_wp2_with fail
  refine hc.out.mono ?_; rintro e w5 ⟨rfl, rfl⟩
  go_wp2_with fail
  go_ret
  exact ⟨rfl, rfl⟩
set_option maxRecDepth 100000 in
set_option maxHeartbeats 8000000 in
theorem equalFunc_any (A1 A2 : Option Addr) (n1 c1 n2 c2 : Nat) (C1 C2 : List Bs) (w : World) (h1 : LAt sC 1 w w.heap.size A1 n1 C1) (h2 : LAt sC 1 w w.heap.size A2 n2 C2) (b1 : ∀ b ∈ C1, BsAt w b) (b2 : ∀ b ∈ C2, BsAt w b) (he : C1.map (·.d) = C2.map (·.d)) (hn : n1 ≤ 100000) :
    Calls Try.prog 37 #[.slice A1 n1 c1, .slice A2 n2 c2, .func (.func 38) #[] #[]] w fun e w' => e = .returned (.bool true) ∧ w' = w := by
  have l1 := Lib.hid h1.len
  have l2 : Hid (C2.length = n1) := by
    show _ = _
    have := congrArg List.length he
    simp only [List.length_map] at this
    rw [← this]; exact h1.len
  obtain rfl : n1 = n2 := by have := h2.len; have := l2.out; omega
  replace h1 := Lib.hid h1
  replace h2 := Lib.hid h2
  replace he := Lib.hid he
  replace b1 := Lib.hid b1
  replace b2 := Lib.hid b2
  go_enter Try.func37, Try.ntmps37
  go_wp2_with fail
  go_loopw [17] (fun i wr => ∃ k : Nat, k ≤ n1 ∧ i = .int .i64 k ∧ Hid (wr = w)) (fun i _ => n1 - (intOf i).toNat)
  case atStart => exact ⟨0, Nat.zero_le _, rfl, by first | exact rfl | exact trivial⟩
  case round =>
    obtain ⟨k, hkn, rfl, hw⟩ := hrel
    obtain rfl := hw.out
    by_cases hlt : k < n1
    · have k1 : k < C1.length := by have := l1.out; omega
      have k2 : k < C2.length := by have := l2.out; omega
      have hk0 : (0 : Int) ≤ k := by omega
      have hk1 : (k : Int) < n1 := by omega
      obtain ⟨ad, hA, -, e0⟩ := s_cell h1.out hlt
      obtain ⟨ad2, hA2, -, d0⟩ := s_cell h2.out hlt
      have hb1 := b1.out _ (List.getElem_mem k1)
      have hb2 := b2.out _ (List.getElem_mem k2)
      have hd : C1[k].d = C2[k].d := by
        have h8 : (C1.map (·.d))[k]? = (C2.map (·.d))[k]? := by rw [he.out]
        simpa [k1, k2] using h8
      have hc := Lib.hid (sameF_any C1[k].A C2[k].A C1[k].n C1[k].c C2[k].n C2[k].c C1[k].d wr _ _ hb1.1 (by rw [hd]; exact hb2.1))
      clear hb1 hb2 hd
      generalize C1[k].A = x1 at *
      generalize C1[k].n = x2 at *
      generalize C1[k].c = x3 at *
      generalize C2[k].A = y1 at *
      generalize C2[k].n = y2 at *
      generalize C2[k].c = y3 at *
      subst hA
      subst hA2
      go_wp2_with fail
      refine hc.out.mono ?_; rintro e w5 ⟨rfl, rfl⟩
      go_wp2_with fail
      go_roundw
      case rel => exact ⟨k + 1, by omega, by go_num, by first | exact rfl | exact trivial⟩
      case measure => simp [intOf]; omega
    · go_wp2_with fail
      go_ret
      exact ⟨rfl, rfl⟩
theorem sameData_any (A1 A2 : Option Addr) (n1 c1 n2 c2 : Nat) (C1 C2 : List Bs) (w : World) (h1 : LAt sC 1 w w.heap.size A1 n1 C1) (h2 : LAt sC 1 w w.heap.size A2 n2 C2) (b1 : ∀ b ∈ C1, BsAt w b) (b2 : ∀ b ∈ C2, BsAt w b) (he : C1.map (·.d) = C2.map (·.d)) (hn : n1 ≤ 100000) :
    Calls Try.prog 16 #[.slice A1 n1 c1, .slice A2 n2 c2] w fun e w' => e = .returned (.bool true) ∧ w' = w := by
  have hc := Lib.hid (equalFunc_any A1 A2 n1 c1 n2 c2 C1 C2 w h1 h2 b1 b2 he hn)
  clear h1 h2 b1 b2 he
  go_enter Try.func16, Try.ntmps16
  go_wp2_with fail
  refine hc.out.mono ?_; rintro e w5 ⟨rfl, rfl⟩
  go_wp2_with fail
  go_ret
  exact ⟨rfl, rfl⟩
end Go.Proofs.Ytiapeenfggjpnaa
