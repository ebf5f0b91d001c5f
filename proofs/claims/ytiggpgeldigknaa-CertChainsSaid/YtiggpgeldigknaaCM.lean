/- Certs: short, few, the examples' certificates. -/
import Derived.Test.YtiggpgeldigknaaCL
set_option linter.unusedVariables false
set_option linter.unusedSimpArgs false
namespace Go.Proofs.Ytiggpgeldigknaa
open Go.RowKit
def shortB (c : Ct) : Bool := decide (c.subj.size ≤ 50) && decide (c.iss.size ≤ 50)
def rootC : Ct := ⟨1, ⟨#[114, 111, 111, 116]⟩, ⟨#[]⟩, 0, 1000, true, 7, 0⟩
def leafC : Ct := ⟨2, ⟨#[108, 101, 97, 102]⟩, ⟨#[]⟩, 10, 500, false, 9, 0⟩
theorem rootC_any (w : World) : Calls Try.prog 81 #[] w fun e w' => e = .returned (.agg (ctC rootC).toArray) ∧ Below w.heap.size w w' := by
  go_enter Try.func81, Try.ntmps81
  go_wp2_with fail
  refine bodyPost_ret (v := .agg (ctC rootC).toArray) (by simp [results, Try.results81, go_sem, ctC, rootC]) rfl ⟨rfl, ?_⟩
  exact a1 _ _
theorem leafC_any (w : World) : Calls Try.prog 82 #[] w fun e w' => e = .returned (.agg (ctC leafC).toArray) ∧ Below w.heap.size w w' := by
  go_enter Try.func82, Try.ntmps82
  go_wp2_with fail
  refine bodyPost_ret (v := .agg (ctC leafC).toArray) (by simp [results, Try.results82, go_sem, ctC, leafC]) rfl ⟨rfl, ?_⟩
  exact a1 _ _
set_option maxRecDepth 100000 in
theorem short_any (c : Ct) (w : World) : Calls Try.prog 50 #[.agg (ctC c).toArray] w fun e w' => e = .returned (.bool (shortB c)) ∧ Below w.heap.size w w' := by
  obtain ⟨s, sb, is_, f, t, ca, ky, sl⟩ := c
  have hS : Hid (shortB ⟨s, sb, is_, f, t, ca, ky, sl⟩ = (decide (sb.size ≤ 50) && decide (is_.size ≤ 50))) := rfl
  have kz := Lib.hid (ct_box w ⟨s, sb, is_, f, t, ca, ky, sl⟩)
  obtain ⟨k0, k1, k2, k3, k4, k5, k6, k7⟩ := kz.out _ (Below.refl _ _)
  have hb := Lib.hid (a1 w (.cells #[Value.int .i64 s, Value.string sb, Value.string is_, Value.int .i64 f, Value.int .i64 t, Value.bool ca, Value.int .u64 ky, Value.int .u64 sl] 52))
  go_enter Try.func50, Try.ntmps50
  unfold ctC
  by_cases h1 : sb.size ≤ 50
  · have h1i : (sb.size : Int) ≤ 50 := by omega
    by_cases h2 : is_.size ≤ 50
    · have h2i : (is_.size : Int) ≤ 50 := by omega
      go_wp2_with fail
      go_ret
      exact ⟨by rw [hS.out]; simp [h1, h2], hb.out⟩
    · have h2i : ¬ (is_.size : Int) ≤ 50 := by omega
      go_wp2_with fail
      go_ret
      exact ⟨by rw [hS.out]; simp [h1, h2], hb.out⟩
  · have h1i : ¬ (sb.size : Int) ≤ 50 := by omega
    have h1d : decide ((sb.size : Int) ≤ 50) = false := by simpa using h1i
    go_wp2_with fail
    go_ret
    exact ⟨by rw [hS.out]; simp [h1], hb.out⟩
def shortAll (l : List Ct) : Bool := l.all shortB
theorem shortAll_drop (l : List Ct) (k : Nat) (h : k < l.length) : shortAll (l.drop k) = (shortB l[k] && shortAll (l.drop (k + 1))) := by
  unfold shortAll
  rw [List.drop_eq_getElem_cons h, List.all_cons]
def fewB (C R : List Ct) (rv : List Int) : Bool := decide (C.length ≤ 6) && (decide (R.length ≤ 8) && (decide (rv.length ≤ 40) && (shortAll C && shortAll R)))
set_option maxRecDepth 100000 in
set_option maxHeartbeats 2000000 in
theorem few_any (A A2 A3 : Option Addr) (n n2 n3 cp cp2 cp3 : Nat) (C R : List Ct) (rv : List Int) (w : World) (hC : LAt ctC 8 w w.heap.size A n C) (h : LAt ctC 8 w w.heap.size A2 n2 R) (hV : LAt iC 1 w w.heap.size A3 n3 rv) :
    Calls Try.prog 58 #[.slice A n cp, .agg #[Value.slice A2 n2 cp2, Value.slice A3 n3 cp3]] w fun e w' => e = .returned (.bool (fewB C R rv)) ∧ Below w.heap.size w w' := by
  have hn := Lib.hid hC.len
  have hn2 := Lib.hid h.len
  have hn3 := Lib.hid hV.len
  have hfw : Hid (fewB C R rv = (decide (C.length ≤ 6) && (decide (R.length ≤ 8) && (decide (rv.length ≤ 40) && (shortAll C && shortAll R))))) := rfl
  rw [hn.out, hn2.out, hn3.out] at hfw
  have p0 := Lib.hid (Blk.new w 59 #[Value.slice A2 n2 cp2, Value.slice A3 n3 cp3])
  have hbw : Hid (Below w.heap.size w (w.alloc (.cells #[Value.slice A2 n2 cp2, Value.slice A3 n3 cp3] 59))) := a1 w _
  obtain ⟨t0, t1⟩ := (show (w.alloc (.cells #[Value.slice A2 n2 cp2, Value.slice A3 n3 cp3] 59)).cell? ⟨w.heap.size, 0, none⟩ = some (Value.slice A2 n2 cp2) ∧ (w.alloc (.cells #[Value.slice A2 n2 cp2, Value.slice A3 n3 cp3] 59)).cell? ⟨w.heap.size, 1, none⟩ = some (Value.slice A3 n3 cp3) from ⟨p0.out.cell 0, p0.out.cell 1⟩)
  by_cases h1 : 6 < n
  · have hS : Hid (fewB C R rv = false) := by show _ = _; rw [hfw.out]; simp [show ¬ n ≤ 6 by omega]
    have h1i : (6 : Int) < n := by omega
    go_enter Try.func58, Try.ntmps58
    go_wp2_with fail
    go_ret
    exact ⟨by rw [hS.out]; rfl, hbw.out⟩
  have h1i : (n : Int) ≤ 6 := by omega
  by_cases h2 : 8 < n2
  · have hS : Hid (fewB C R rv = false) := by show _ = _; rw [hfw.out]; simp [show ¬ n2 ≤ 8 by omega]
    have h2i : (8 : Int) < n2 := by omega
    go_enter Try.func58, Try.ntmps58
    go_wp2_with fail
    go_ret
    exact ⟨by rw [hS.out]; rfl, hbw.out⟩
  have h2i : (n2 : Int) ≤ 8 := by omega
  by_cases h3 : 40 < n3
  · have hS : Hid (fewB C R rv = false) := by show _ = _; rw [hfw.out]; simp [show ¬ n3 ≤ 40 by omega]
    have h3i : (40 : Int) < n3 := by omega
    go_enter Try.func58, Try.ntmps58
    go_wp2_with fail
    go_ret
    exact ⟨by rw [hS.out]; rfl, hbw.out⟩
  have h3i : (n3 : Int) ≤ 40 := by omega
  have hfw : Hid (fewB C R rv = (shortAll C && shortAll R)) := by show _ = _; rw [hfw.out]; simp [show n ≤ 6 by omega, show n2 ≤ 8 by omega, show n3 ≤ 40 by omega]
  have hC2 := Lib.hid (hC.more hbw.out)
  have hR2 := Lib.hid (h.more hbw.out)
  clear h hV hC
  go_enter Try.func58, Try.ntmps58
  go_wp2_with fail
  generalize w.alloc (.cells #[Value.slice A2 n2 cp2, Value.slice A3 n3 cp3] 59) = w2 at *
  clear t0 t1
  go_loopw [5] (fun i wr => ∃ k : Nat, k ≤ n ∧ i = .int .i64 k ∧ Hid (Below w2.heap.size w2 wr) ∧ Hid (shortAll C = shortAll (C.drop k))) (fun i _ => n - (intOf i).toNat)
  case atStart => exact ⟨0, Nat.zero_le _, rfl, Below.refl _ _, rfl⟩
  case round =>
    obtain ⟨k, hkn, rfl, hb, hx⟩ := hrel
    have pt := Lib.hid (p0.out.below hb.out p0.out.lt)
    obtain ⟨t0, t1⟩ := (show wr.cell? ⟨w.heap.size, 0, none⟩ = some (Value.slice A2 n2 cp2) ∧ wr.cell? ⟨w.heap.size, 1, none⟩ = some (Value.slice A3 n3 cp3) from ⟨pt.out.cell 0, pt.out.cell 1⟩)
    by_cases hlt : k < n
    · have hk0 : (0 : Int) ≤ k := by omega
      have hk1 : (k : Int) < n := by omega
      have hkl : k < C.length := by have := hn.out; omega
      have hst := Lib.hid (shortAll_drop C k hkl)
      obtain ⟨ad, hA, hadb, e0, e1, e2, e3, e4, e5, e6, e7⟩ := ct_cells (hC2.out.below hb.out (Nat.le_refl _)) hlt
      subst hA
      generalize C[k] = y at *
      obtain ⟨s, sb, is_, f, t, ca, ky, sl⟩ := y
      go_wp2_with fail
      clear t0 t1
      refine (short_any ⟨s, sb, is_, f, t, ca, ky, sl⟩ _).mono ?_; rintro e w4 ⟨rfl, hq⟩
      have hb := Lib.hid (hb.out.trans (hq.mono hb.out.size))
      clear hq
      generalize hs : shortB ⟨s, sb, is_, f, t, ca, ky, sl⟩ = sB at *
      cases sB with
      | true =>
        have hN : Hid (shortAll C = shortAll (C.drop (k + 1))) := by show _ = _; rw [hx.out, hst.out]; rfl
        replace hs := Lib.hid hs
        go_wp2_with fail
        go_roundw
        case rel => exact ⟨k + 1, by omega, by go_num, hb.out, hN.out⟩
        case measure => simp [intOf]; omega
      | false =>
        have hN : Hid (shortAll C = false) := by show _ = _; rw [hx.out, hst.out]; rfl
        have hS : Hid (fewB C R rv = false) := by show _ = _; rw [hfw.out, hN.out]; simp
        replace hs := Lib.hid hs
        go_wp2_with fail
        go_ret
        exact ⟨by rw [hS.out]; rfl, hbw.out.trans (hb.out.mono hbw.out.size)⟩
    · have hN5 : Hid (shortAll C = true) := by show _ = _; rw [hx.out, List.drop_eq_nil_of_le (by have := hn.out; omega)]; rfl
      clear hx
      go_wp2_with fail
      clear t0 t1
      go_loopw [6] (fun i wr => ∃ k : Nat, k ≤ n2 ∧ i = .int .i64 k ∧ Hid (Below w2.heap.size w2 wr) ∧ Hid (shortAll R = shortAll (R.drop k))) (fun i _ => n2 - (intOf i).toNat)
      case atStart => exact ⟨0, Nat.zero_le _, rfl, hb.out, rfl⟩
      case round =>
        obtain ⟨k, hkn, rfl, hb, hx⟩ := hrel
        have pt := Lib.hid (p0.out.below hb.out p0.out.lt)
        obtain ⟨t0, t1⟩ := (show wr.cell? ⟨w.heap.size, 0, none⟩ = some (Value.slice A2 n2 cp2) ∧ wr.cell? ⟨w.heap.size, 1, none⟩ = some (Value.slice A3 n3 cp3) from ⟨pt.out.cell 0, pt.out.cell 1⟩)
        by_cases hlt : k < n2
        · have hk0 : (0 : Int) ≤ k := by omega
          have hk1 : (k : Int) < n2 := by omega
          have hkl : k < R.length := by have := hn2.out; omega
          have hst := Lib.hid (shortAll_drop R k hkl)
          obtain ⟨ad, hA, hadb, e0, e1, e2, e3, e4, e5, e6, e7⟩ := ct_cells (hR2.out.below hb.out (Nat.le_refl _)) hlt
          subst hA
          generalize R[k] = y at *
          obtain ⟨s, sb, is_, f, t, ca, ky, sl⟩ := y
          go_wp2_with fail
          clear t0 t1
          refine (short_any ⟨s, sb, is_, f, t, ca, ky, sl⟩ _).mono ?_; rintro e w4 ⟨rfl, hq⟩
          have hb := Lib.hid (hb.out.trans (hq.mono hb.out.size))
          clear hq
          generalize hs : shortB ⟨s, sb, is_, f, t, ca, ky, sl⟩ = sB at *
          cases sB with
          | true =>
            have hN : Hid (shortAll R = shortAll (R.drop (k + 1))) := by show _ = _; rw [hx.out, hst.out]; rfl
            replace hs := Lib.hid hs
            go_wp2_with fail
            go_roundw
            case rel => exact ⟨k + 1, by omega, by go_num, hb.out, hN.out⟩
            case measure => simp [intOf]; omega
          | false =>
            have hN : Hid (shortAll R = false) := by show _ = _; rw [hx.out, hst.out]; rfl
            have hS : Hid (fewB C R rv = false) := by show _ = _; rw [hfw.out, hN.out]; simp
            replace hs := Lib.hid hs
            go_wp2_with fail
            go_ret
            exact ⟨by rw [hS.out]; rfl, hbw.out.trans (hb.out.mono hbw.out.size)⟩
        · have hN6 : Hid (shortAll R = true) := by show _ = _; rw [hx.out, List.drop_eq_nil_of_le (by have := hn2.out; omega)]; rfl
          clear hx
          have hS : Hid (fewB C R rv = true) := by show _ = _; rw [hfw.out, hN5.out, hN6.out]; rfl
          go_wp2_with fail
          go_ret
          exact ⟨by rw [hS.out]; rfl, hbw.out.trans (hb.out.mono hbw.out.size)⟩
end Go.Proofs.Ytiggpgeldigknaa
