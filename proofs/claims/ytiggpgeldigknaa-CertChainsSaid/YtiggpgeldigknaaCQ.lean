/- Certs: CertRoots, CertIssues, CertVerifies, walked. -/
import Derived.Test.YtiggpgeldigknaaCN
import Derived.Test.YtiggpgeldigknaaCP
set_option linter.unusedVariables false
set_option linter.unusedSimpArgs false
namespace Go.Proofs.Ytiggpgeldigknaa
open Go.RowKit
theorem short_len {c : Ct} (h : shortB c = true) : c.subj.size ≤ 50 ∧ c.iss.size ≤ 50 := by
  unfold shortB at h
  simpa using h
theorem ct_ok {c : Ct} (hr : CtR c) (h : shortB c = true) : CtOk c := ⟨hr.s, hr.f, hr.t, hr.k, by have := short_len h; omega⟩
theorem selfC_ok {c : Ct} (hr : CtR c) (h : shortB c = true) : CtOk (selfC c) := ⟨hr.s, hr.f, hr.t, hr.k, by have := short_len h; show c.subj.size + c.subj.size ≤ 4000; omega⟩
theorem issC_ok {c b : Ct} (hr : CtR c) (h : shortB c = true) (h2 : shortB b = true) : CtOk (issC c b) := ⟨hr.s, hr.f, hr.t, hr.k, by have := short_len h; have := short_len h2; show c.subj.size + b.subj.size ≤ 4000; omega⟩
theorem few_short {C R : List Ct} {rv : List Int} (h : fewB C R rv = true) {c : Ct} (hc : c ∈ C) : shortB c = true := by
  unfold fewB shortAll at h
  simp only [Bool.and_eq_true, List.all_eq_true] at h
  exact h.2.2.2.1 c hc
theorem few_len {C R : List Ct} {rv : List Int} {n n2 n3 : Nat} (h : fewB C R rv = true) (h1 : C.length = n) (h2 : R.length = n2) (h3 : rv.length = n3) : n ≤ 1000 ∧ n2 ≤ 1000 ∧ n3 ≤ 1000 := by
  unfold fewB at h
  simp only [Bool.and_eq_true, decide_eq_true_eq] at h
  omega
set_option maxRecDepth 100000 in
set_option maxHeartbeats 4000000 in
theorem lawRoots (c : Ct) (w : World) (hr : CtR c) : Calls Try.prog 15 #[.agg (ctC c).toArray] w fun e w' => e = .returned (.bool true) ∧ Below w.heap.size w w' := by
  have hok := fun h => selfC_ok (c := c) hr h
  obtain ⟨s, sb, is_, f, t, ca, ky, sl⟩ := c
  have px := Lib.hid (Blk.new w 52 #[Value.int .i64 s, Value.string sb, Value.string is_, Value.int .i64 f, Value.int .i64 t, Value.bool ca, Value.int .u64 ky, Value.int .u64 sl])
  have hb := Lib.hid (a1 w (.cells #[Value.int .i64 s, Value.string sb, Value.string is_, Value.int .i64 f, Value.int .i64 t, Value.bool ca, Value.int .u64 ky, Value.int .u64 sl] 52))
  go_enter Try.func15, Try.ntmps15
  unfold ctC
  obtain ⟨k0, k1, k2, k3, k4, k5, k6, k7⟩ := (show (w.alloc (.cells #[Value.int .i64 s, Value.string sb, Value.string is_, Value.int .i64 f, Value.int .i64 t, Value.bool ca, Value.int .u64 ky, Value.int .u64 sl] 52)).cell? ⟨w.heap.size, 0, none⟩ = some (Value.int .i64 s) ∧ (w.alloc (.cells #[Value.int .i64 s, Value.string sb, Value.string is_, Value.int .i64 f, Value.int .i64 t, Value.bool ca, Value.int .u64 ky, Value.int .u64 sl] 52)).cell? ⟨w.heap.size, 1, none⟩ = some (Value.string sb) ∧ (w.alloc (.cells #[Value.int .i64 s, Value.string sb, Value.string is_, Value.int .i64 f, Value.int .i64 t, Value.bool ca, Value.int .u64 ky, Value.int .u64 sl] 52)).cell? ⟨w.heap.size, 2, none⟩ = some (Value.string is_) ∧ (w.alloc (.cells #[Value.int .i64 s, Value.string sb, Value.string is_, Value.int .i64 f, Value.int .i64 t, Value.bool ca, Value.int .u64 ky, Value.int .u64 sl] 52)).cell? ⟨w.heap.size, 3, none⟩ = some (Value.int .i64 f) ∧ (w.alloc (.cells #[Value.int .i64 s, Value.string sb, Value.string is_, Value.int .i64 f, Value.int .i64 t, Value.bool ca, Value.int .u64 ky, Value.int .u64 sl] 52)).cell? ⟨w.heap.size, 4, none⟩ = some (Value.int .i64 t) ∧ (w.alloc (.cells #[Value.int .i64 s, Value.string sb, Value.string is_, Value.int .i64 f, Value.int .i64 t, Value.bool ca, Value.int .u64 ky, Value.int .u64 sl] 52)).cell? ⟨w.heap.size, 5, none⟩ = some (Value.bool ca) ∧ (w.alloc (.cells #[Value.int .i64 s, Value.string sb, Value.string is_, Value.int .i64 f, Value.int .i64 t, Value.bool ca, Value.int .u64 ky, Value.int .u64 sl] 52)).cell? ⟨w.heap.size, 6, none⟩ = some (Value.int .u64 ky) ∧ (w.alloc (.cells #[Value.int .i64 s, Value.string sb, Value.string is_, Value.int .i64 f, Value.int .i64 t, Value.bool ca, Value.int .u64 ky, Value.int .u64 sl] 52)).cell? ⟨w.heap.size, 7, none⟩ = some (Value.int .u64 sl) from ⟨px.out.cell 0, px.out.cell 1, px.out.cell 2, px.out.cell 3, px.out.cell 4, px.out.cell 5, px.out.cell 6, px.out.cell 7⟩)
  go_wp2_with fail
  clear k0 k1 k2 k3 k4 k5 k6 k7
  refine (short_any ⟨s, sb, is_, f, t, ca, ky, sl⟩ _).mono ?_; rintro e w2 ⟨rfl, hq⟩
  have px := Lib.hid (px.out.below hq px.out.lt)
  have hb := Lib.hid (hb.out.trans (hq.mono hb.out.size))
  clear hq
  cases hs : shortB ⟨s, sb, is_, f, t, ca, ky, sl⟩ with
  | false =>
    clear hok
    go_wp2_with fail
    refine (awake_any _).mono ?_; rintro e wa ⟨rfl, hq⟩
    have hb := Lib.hid (hb.out.trans (hq.mono hb.out.size))
    clear hq
    go_wp2_with fail
    go_ret
    exact ⟨rfl, hb.out⟩
  | true =>
    have h1 := fun w => root_any ⟨s, sb, is_, f, t, ca, ky, sl⟩ w (hok hs)
    have h2 := fun w => rroot_any ⟨s, sb, is_, f, t, ca, ky, sl⟩ w (hok hs)
    generalize rootR ⟨s, sb, is_, f, t, ca, ky, sl⟩ = yr at *
    obtain ⟨⟨s2, sb2, is_2, f2, t2, ca2, ky2, sl2⟩, E⟩ := yr
    dsimp only [ctC] at h1 h2
    replace h1 := Lib.hid h1
    replace h2 := Lib.hid h2
    clear hok hs
    obtain ⟨k0, k1, k2, k3, k4, k5, k6, k7⟩ := (show w2.cell? ⟨w.heap.size, 0, none⟩ = some (Value.int .i64 s) ∧ w2.cell? ⟨w.heap.size, 1, none⟩ = some (Value.string sb) ∧ w2.cell? ⟨w.heap.size, 2, none⟩ = some (Value.string is_) ∧ w2.cell? ⟨w.heap.size, 3, none⟩ = some (Value.int .i64 f) ∧ w2.cell? ⟨w.heap.size, 4, none⟩ = some (Value.int .i64 t) ∧ w2.cell? ⟨w.heap.size, 5, none⟩ = some (Value.bool ca) ∧ w2.cell? ⟨w.heap.size, 6, none⟩ = some (Value.int .u64 ky) ∧ w2.cell? ⟨w.heap.size, 7, none⟩ = some (Value.int .u64 sl) from ⟨px.out.cell 0, px.out.cell 1, px.out.cell 2, px.out.cell 3, px.out.cell 4, px.out.cell 5, px.out.cell 6, px.out.cell 7⟩)
    go_wp2_with fail
    clear k0 k1 k2 k3 k4 k5 k6 k7
    refine (h1.out _).mono ?_; rintro e w3 ⟨rfl, hq⟩
    have px := Lib.hid (px.out.below hq px.out.lt)
    have hb := Lib.hid (hb.out.trans (hq.mono hb.out.size))
    clear hq
    have pa := Lib.hid (Blk.new w3 52 #[Value.int .i64 s2, Value.string sb2, Value.string is_2, Value.int .i64 f2, Value.int .i64 t2, Value.bool ca2, Value.int .u64 ky2, Value.int .u64 sl2])
    have px := Lib.hid (px.out.alloc (.cells #[Value.int .i64 s2, Value.string sb2, Value.string is_2, Value.int .i64 f2, Value.int .i64 t2, Value.bool ca2, Value.int .u64 ky2, Value.int .u64 sl2] 52))
    have hb := Lib.hid (below_new hb.out (.cells #[Value.int .i64 s2, Value.string sb2, Value.string is_2, Value.int .i64 f2, Value.int .i64 t2, Value.bool ca2, Value.int .u64 ky2, Value.int .u64 sl2] 52))
    obtain ⟨k0, k1, k2, k3, k4, k5, k6, k7⟩ := (show (w3.alloc (.cells #[Value.int .i64 s2, Value.string sb2, Value.string is_2, Value.int .i64 f2, Value.int .i64 t2, Value.bool ca2, Value.int .u64 ky2, Value.int .u64 sl2] 52)).cell? ⟨w.heap.size, 0, none⟩ = some (Value.int .i64 s) ∧ (w3.alloc (.cells #[Value.int .i64 s2, Value.string sb2, Value.string is_2, Value.int .i64 f2, Value.int .i64 t2, Value.bool ca2, Value.int .u64 ky2, Value.int .u64 sl2] 52)).cell? ⟨w.heap.size, 1, none⟩ = some (Value.string sb) ∧ (w3.alloc (.cells #[Value.int .i64 s2, Value.string sb2, Value.string is_2, Value.int .i64 f2, Value.int .i64 t2, Value.bool ca2, Value.int .u64 ky2, Value.int .u64 sl2] 52)).cell? ⟨w.heap.size, 2, none⟩ = some (Value.string is_) ∧ (w3.alloc (.cells #[Value.int .i64 s2, Value.string sb2, Value.string is_2, Value.int .i64 f2, Value.int .i64 t2, Value.bool ca2, Value.int .u64 ky2, Value.int .u64 sl2] 52)).cell? ⟨w.heap.size, 3, none⟩ = some (Value.int .i64 f) ∧ (w3.alloc (.cells #[Value.int .i64 s2, Value.string sb2, Value.string is_2, Value.int .i64 f2, Value.int .i64 t2, Value.bool ca2, Value.int .u64 ky2, Value.int .u64 sl2] 52)).cell? ⟨w.heap.size, 4, none⟩ = some (Value.int .i64 t) ∧ (w3.alloc (.cells #[Value.int .i64 s2, Value.string sb2, Value.string is_2, Value.int .i64 f2, Value.int .i64 t2, Value.bool ca2, Value.int .u64 ky2, Value.int .u64 sl2] 52)).cell? ⟨w.heap.size, 5, none⟩ = some (Value.bool ca) ∧ (w3.alloc (.cells #[Value.int .i64 s2, Value.string sb2, Value.string is_2, Value.int .i64 f2, Value.int .i64 t2, Value.bool ca2, Value.int .u64 ky2, Value.int .u64 sl2] 52)).cell? ⟨w.heap.size, 6, none⟩ = some (Value.int .u64 ky) ∧ (w3.alloc (.cells #[Value.int .i64 s2, Value.string sb2, Value.string is_2, Value.int .i64 f2, Value.int .i64 t2, Value.bool ca2, Value.int .u64 ky2, Value.int .u64 sl2] 52)).cell? ⟨w.heap.size, 7, none⟩ = some (Value.int .u64 sl) from ⟨px.out.cell 0, px.out.cell 1, px.out.cell 2, px.out.cell 3, px.out.cell 4, px.out.cell 5, px.out.cell 6, px.out.cell 7⟩)
    go_wp2_with fail
    clear k0 k1 k2 k3 k4 k5 k6 k7
    refine (h2.out _).mono ?_; rintro e w4 ⟨rfl, hq⟩
    have pa := Lib.hid (pa.out.below hq pa.out.lt)
    have hb := Lib.hid (hb.out.trans (hq.mono hb.out.size))
    clear hq
    have pb := Lib.hid (Blk.new w4 52 #[Value.int .i64 s2, Value.string sb2, Value.string is_2, Value.int .i64 f2, Value.int .i64 t2, Value.bool ca2, Value.int .u64 ky2, Value.int .u64 sl2])
    have pa := Lib.hid (pa.out.alloc (.cells #[Value.int .i64 s2, Value.string sb2, Value.string is_2, Value.int .i64 f2, Value.int .i64 t2, Value.bool ca2, Value.int .u64 ky2, Value.int .u64 sl2] 52))
    have hb := Lib.hid (below_new hb.out (.cells #[Value.int .i64 s2, Value.string sb2, Value.string is_2, Value.int .i64 f2, Value.int .i64 t2, Value.bool ca2, Value.int .u64 ky2, Value.int .u64 sl2] 52))
    obtain ⟨k0, k1, k2, k3, k4, k5, k6, k7⟩ := (show (w4.alloc (.cells #[Value.int .i64 s2, Value.string sb2, Value.string is_2, Value.int .i64 f2, Value.int .i64 t2, Value.bool ca2, Value.int .u64 ky2, Value.int .u64 sl2] 52)).cell? ⟨w3.heap.size, 0, none⟩ = some (Value.int .i64 s2) ∧ (w4.alloc (.cells #[Value.int .i64 s2, Value.string sb2, Value.string is_2, Value.int .i64 f2, Value.int .i64 t2, Value.bool ca2, Value.int .u64 ky2, Value.int .u64 sl2] 52)).cell? ⟨w3.heap.size, 1, none⟩ = some (Value.string sb2) ∧ (w4.alloc (.cells #[Value.int .i64 s2, Value.string sb2, Value.string is_2, Value.int .i64 f2, Value.int .i64 t2, Value.bool ca2, Value.int .u64 ky2, Value.int .u64 sl2] 52)).cell? ⟨w3.heap.size, 2, none⟩ = some (Value.string is_2) ∧ (w4.alloc (.cells #[Value.int .i64 s2, Value.string sb2, Value.string is_2, Value.int .i64 f2, Value.int .i64 t2, Value.bool ca2, Value.int .u64 ky2, Value.int .u64 sl2] 52)).cell? ⟨w3.heap.size, 3, none⟩ = some (Value.int .i64 f2) ∧ (w4.alloc (.cells #[Value.int .i64 s2, Value.string sb2, Value.string is_2, Value.int .i64 f2, Value.int .i64 t2, Value.bool ca2, Value.int .u64 ky2, Value.int .u64 sl2] 52)).cell? ⟨w3.heap.size, 4, none⟩ = some (Value.int .i64 t2) ∧ (w4.alloc (.cells #[Value.int .i64 s2, Value.string sb2, Value.string is_2, Value.int .i64 f2, Value.int .i64 t2, Value.bool ca2, Value.int .u64 ky2, Value.int .u64 sl2] 52)).cell? ⟨w3.heap.size, 5, none⟩ = some (Value.bool ca2) ∧ (w4.alloc (.cells #[Value.int .i64 s2, Value.string sb2, Value.string is_2, Value.int .i64 f2, Value.int .i64 t2, Value.bool ca2, Value.int .u64 ky2, Value.int .u64 sl2] 52)).cell? ⟨w3.heap.size, 6, none⟩ = some (Value.int .u64 ky2) ∧ (w4.alloc (.cells #[Value.int .i64 s2, Value.string sb2, Value.string is_2, Value.int .i64 f2, Value.int .i64 t2, Value.bool ca2, Value.int .u64 ky2, Value.int .u64 sl2] 52)).cell? ⟨w3.heap.size, 7, none⟩ = some (Value.int .u64 sl2) from ⟨pa.out.cell 0, pa.out.cell 1, pa.out.cell 2, pa.out.cell 3, pa.out.cell 4, pa.out.cell 5, pa.out.cell 6, pa.out.cell 7⟩)
    go_wp2_with fail
    clear k0 k1 k2 k3 k4 k5 k6 k7
    refine (awake_any _).mono ?_; rintro e wa ⟨rfl, hq⟩
    have hb := Lib.hid (hb.out.trans (hq.mono hb.out.size))
    clear hq
    go_wp2_with fail
    go_ret
    exact ⟨rfl, hb.out⟩
set_option maxRecDepth 100000 in
set_option maxHeartbeats 4000000 in
theorem lawIssues (c b : Ct) (w : World) (hr : CtR c) : Calls Try.prog 16 #[.agg (ctC c).toArray, .agg (ctC b).toArray] w fun e w' => e = .returned (.bool true) ∧ Below w.heap.size w w' := by
  have hok := fun h h2 => issC_ok (c := c) (b := b) hr h h2
  obtain ⟨s, sb, is_, f, t, ca, ky, sl⟩ := c
  obtain ⟨s9, sb9, is_9, f9, t9, ca9, ky9, sl9⟩ := b
  have px := Lib.hid ((Blk.new w 52 #[Value.int .i64 s, Value.string sb, Value.string is_, Value.int .i64 f, Value.int .i64 t, Value.bool ca, Value.int .u64 ky, Value.int .u64 sl]).alloc (.cells #[Value.int .i64 s9, Value.string sb9, Value.string is_9, Value.int .i64 f9, Value.int .i64 t9, Value.bool ca9, Value.int .u64 ky9, Value.int .u64 sl9] 52))
  have py := Blk.new (w.alloc (.cells #[Value.int .i64 s, Value.string sb, Value.string is_, Value.int .i64 f, Value.int .i64 t, Value.bool ca, Value.int .u64 ky, Value.int .u64 sl] 52)) 52 #[Value.int .i64 s9, Value.string sb9, Value.string is_9, Value.int .i64 f9, Value.int .i64 t9, Value.bool ca9, Value.int .u64 ky9, Value.int .u64 sl9]
  rw [show (w.alloc (.cells #[Value.int .i64 s, Value.string sb, Value.string is_, Value.int .i64 f, Value.int .i64 t, Value.bool ca, Value.int .u64 ky, Value.int .u64 sl] 52)).heap.size = w.heap.size + 1 by simp] at py
  replace py := Lib.hid py
  have hb := Lib.hid (below_new (a1 w (.cells #[Value.int .i64 s, Value.string sb, Value.string is_, Value.int .i64 f, Value.int .i64 t, Value.bool ca, Value.int .u64 ky, Value.int .u64 sl] 52)) (.cells #[Value.int .i64 s9, Value.string sb9, Value.string is_9, Value.int .i64 f9, Value.int .i64 t9, Value.bool ca9, Value.int .u64 ky9, Value.int .u64 sl9] 52))
  go_enter Try.func16, Try.ntmps16
  unfold ctC
  obtain ⟨k0, k1, k2, k3, k4, k5, k6, k7⟩ := (show ((w.alloc (.cells #[Value.int .i64 s, Value.string sb, Value.string is_, Value.int .i64 f, Value.int .i64 t, Value.bool ca, Value.int .u64 ky, Value.int .u64 sl] 52)).alloc (.cells #[Value.int .i64 s9, Value.string sb9, Value.string is_9, Value.int .i64 f9, Value.int .i64 t9, Value.bool ca9, Value.int .u64 ky9, Value.int .u64 sl9] 52)).cell? ⟨w.heap.size, 0, none⟩ = some (Value.int .i64 s) ∧ ((w.alloc (.cells #[Value.int .i64 s, Value.string sb, Value.string is_, Value.int .i64 f, Value.int .i64 t, Value.bool ca, Value.int .u64 ky, Value.int .u64 sl] 52)).alloc (.cells #[Value.int .i64 s9, Value.string sb9, Value.string is_9, Value.int .i64 f9, Value.int .i64 t9, Value.bool ca9, Value.int .u64 ky9, Value.int .u64 sl9] 52)).cell? ⟨w.heap.size, 1, none⟩ = some (Value.string sb) ∧ ((w.alloc (.cells #[Value.int .i64 s, Value.string sb, Value.string is_, Value.int .i64 f, Value.int .i64 t, Value.bool ca, Value.int .u64 ky, Value.int .u64 sl] 52)).alloc (.cells #[Value.int .i64 s9, Value.string sb9, Value.string is_9, Value.int .i64 f9, Value.int .i64 t9, Value.bool ca9, Value.int .u64 ky9, Value.int .u64 sl9] 52)).cell? ⟨w.heap.size, 2, none⟩ = some (Value.string is_) ∧ ((w.alloc (.cells #[Value.int .i64 s, Value.string sb, Value.string is_, Value.int .i64 f, Value.int .i64 t, Value.bool ca, Value.int .u64 ky, Value.int .u64 sl] 52)).alloc (.cells #[Value.int .i64 s9, Value.string sb9, Value.string is_9, Value.int .i64 f9, Value.int .i64 t9, Value.bool ca9, Value.int .u64 ky9, Value.int .u64 sl9] 52)).cell? ⟨w.heap.size, 3, none⟩ = some (Value.int .i64 f) ∧ ((w.alloc (.cells #[Value.int .i64 s, Value.string sb, Value.string is_, Value.int .i64 f, Value.int .i64 t, Value.bool ca, Value.int .u64 ky, Value.int .u64 sl] 52)).alloc (.cells #[Value.int .i64 s9, Value.string sb9, Value.string is_9, Value.int .i64 f9, Value.int .i64 t9, Value.bool ca9, Value.int .u64 ky9, Value.int .u64 sl9] 52)).cell? ⟨w.heap.size, 4, none⟩ = some (Value.int .i64 t) ∧ ((w.alloc (.cells #[Value.int .i64 s, Value.string sb, Value.string is_, Value.int .i64 f, Value.int .i64 t, Value.bool ca, Value.int .u64 ky, Value.int .u64 sl] 52)).alloc (.cells #[Value.int .i64 s9, Value.string sb9, Value.string is_9, Value.int .i64 f9, Value.int .i64 t9, Value.bool ca9, Value.int .u64 ky9, Value.int .u64 sl9] 52)).cell? ⟨w.heap.size, 5, none⟩ = some (Value.bool ca) ∧ ((w.alloc (.cells #[Value.int .i64 s, Value.string sb, Value.string is_, Value.int .i64 f, Value.int .i64 t, Value.bool ca, Value.int .u64 ky, Value.int .u64 sl] 52)).alloc (.cells #[Value.int .i64 s9, Value.string sb9, Value.string is_9, Value.int .i64 f9, Value.int .i64 t9, Value.bool ca9, Value.int .u64 ky9, Value.int .u64 sl9] 52)).cell? ⟨w.heap.size, 6, none⟩ = some (Value.int .u64 ky) ∧ ((w.alloc (.cells #[Value.int .i64 s, Value.string sb, Value.string is_, Value.int .i64 f, Value.int .i64 t, Value.bool ca, Value.int .u64 ky, Value.int .u64 sl] 52)).alloc (.cells #[Value.int .i64 s9, Value.string sb9, Value.string is_9, Value.int .i64 f9, Value.int .i64 t9, Value.bool ca9, Value.int .u64 ky9, Value.int .u64 sl9] 52)).cell? ⟨w.heap.size, 7, none⟩ = some (Value.int .u64 sl) from ⟨px.out.cell 0, px.out.cell 1, px.out.cell 2, px.out.cell 3, px.out.cell 4, px.out.cell 5, px.out.cell 6, px.out.cell 7⟩)
  go_wp2_with fail
  clear k0 k1 k2 k3 k4 k5 k6 k7
  refine (short_any ⟨s, sb, is_, f, t, ca, ky, sl⟩ _).mono ?_; rintro e w2 ⟨rfl, hq⟩
  have px := Lib.hid (px.out.below hq px.out.lt)
  have py := Lib.hid (py.out.below hq py.out.lt)
  have hb := Lib.hid (hb.out.trans (hq.mono hb.out.size))
  clear hq
  cases hs : shortB ⟨s, sb, is_, f, t, ca, ky, sl⟩ with
  | false =>
    clear hok
    go_wp2_with fail
    refine (awake_any _).mono ?_; rintro e wa ⟨rfl, hq⟩
    have hb := Lib.hid (hb.out.trans (hq.mono hb.out.size))
    clear hq
    go_wp2_with fail
    go_ret
    exact ⟨rfl, hb.out⟩
  | true =>
    obtain ⟨k0, k1, k2, k3, k4, k5, k6, k7⟩ := (show w2.cell? ⟨(w.heap.size + 1), 0, none⟩ = some (Value.int .i64 s9) ∧ w2.cell? ⟨(w.heap.size + 1), 1, none⟩ = some (Value.string sb9) ∧ w2.cell? ⟨(w.heap.size + 1), 2, none⟩ = some (Value.string is_9) ∧ w2.cell? ⟨(w.heap.size + 1), 3, none⟩ = some (Value.int .i64 f9) ∧ w2.cell? ⟨(w.heap.size + 1), 4, none⟩ = some (Value.int .i64 t9) ∧ w2.cell? ⟨(w.heap.size + 1), 5, none⟩ = some (Value.bool ca9) ∧ w2.cell? ⟨(w.heap.size + 1), 6, none⟩ = some (Value.int .u64 ky9) ∧ w2.cell? ⟨(w.heap.size + 1), 7, none⟩ = some (Value.int .u64 sl9) from ⟨py.out.cell 0, py.out.cell 1, py.out.cell 2, py.out.cell 3, py.out.cell 4, py.out.cell 5, py.out.cell 6, py.out.cell 7⟩)
    go_wp2_with fail
    clear k0 k1 k2 k3 k4 k5 k6 k7
    refine (short_any ⟨s9, sb9, is_9, f9, t9, ca9, ky9, sl9⟩ _).mono ?_; rintro e w3 ⟨rfl, hq⟩
    have px := Lib.hid (px.out.below hq px.out.lt)
    have py := Lib.hid (py.out.below hq py.out.lt)
    have hb := Lib.hid (hb.out.trans (hq.mono hb.out.size))
    clear hq
    cases hs2 : shortB ⟨s9, sb9, is_9, f9, t9, ca9, ky9, sl9⟩ with
    | false =>
      clear hok
      go_wp2_with fail
      refine (awake_any _).mono ?_; rintro e wa ⟨rfl, hq⟩
      have hb := Lib.hid (hb.out.trans (hq.mono hb.out.size))
      clear hq
      go_wp2_with fail
      go_ret
      exact ⟨rfl, hb.out⟩
    | true =>
      have h1 := fun w => issue_any ⟨s, sb, is_, f, t, ca, ky, sl⟩ ⟨s9, sb9, is_9, f9, t9, ca9, ky9, sl9⟩ w (hok hs hs2)
      have h2 := fun w => rissue_any ⟨s, sb, is_, f, t, ca, ky, sl⟩ ⟨s9, sb9, is_9, f9, t9, ca9, ky9, sl9⟩ w (hok hs hs2)
      generalize issueR ⟨s, sb, is_, f, t, ca, ky, sl⟩ ⟨s9, sb9, is_9, f9, t9, ca9, ky9, sl9⟩ = yr at *
      obtain ⟨⟨s2, sb2, is_2, f2, t2, ca2, ky2, sl2⟩, E⟩ := yr
      dsimp only [ctC] at h1 h2
      replace h1 := Lib.hid h1
      replace h2 := Lib.hid h2
      clear hok hs hs2
      obtain ⟨k0, k1, k2, k3, k4, k5, k6, k7, l0, l1, l2, l3, l4, l5, l6, l7⟩ := (show w3.cell? ⟨w.heap.size, 0, none⟩ = some (Value.int .i64 s) ∧ w3.cell? ⟨w.heap.size, 1, none⟩ = some (Value.string sb) ∧ w3.cell? ⟨w.heap.size, 2, none⟩ = some (Value.string is_) ∧ w3.cell? ⟨w.heap.size, 3, none⟩ = some (Value.int .i64 f) ∧ w3.cell? ⟨w.heap.size, 4, none⟩ = some (Value.int .i64 t) ∧ w3.cell? ⟨w.heap.size, 5, none⟩ = some (Value.bool ca) ∧ w3.cell? ⟨w.heap.size, 6, none⟩ = some (Value.int .u64 ky) ∧ w3.cell? ⟨w.heap.size, 7, none⟩ = some (Value.int .u64 sl) ∧ w3.cell? ⟨(w.heap.size + 1), 0, none⟩ = some (Value.int .i64 s9) ∧ w3.cell? ⟨(w.heap.size + 1), 1, none⟩ = some (Value.string sb9) ∧ w3.cell? ⟨(w.heap.size + 1), 2, none⟩ = some (Value.string is_9) ∧ w3.cell? ⟨(w.heap.size + 1), 3, none⟩ = some (Value.int .i64 f9) ∧ w3.cell? ⟨(w.heap.size + 1), 4, none⟩ = some (Value.int .i64 t9) ∧ w3.cell? ⟨(w.heap.size + 1), 5, none⟩ = some (Value.bool ca9) ∧ w3.cell? ⟨(w.heap.size + 1), 6, none⟩ = some (Value.int .u64 ky9) ∧ w3.cell? ⟨(w.heap.size + 1), 7, none⟩ = some (Value.int .u64 sl9) from ⟨px.out.cell 0, px.out.cell 1, px.out.cell 2, px.out.cell 3, px.out.cell 4, px.out.cell 5, px.out.cell 6, px.out.cell 7, py.out.cell 0, py.out.cell 1, py.out.cell 2, py.out.cell 3, py.out.cell 4, py.out.cell 5, py.out.cell 6, py.out.cell 7⟩)
      go_wp2_with fail
      clear k0 k1 k2 k3 k4 k5 k6 k7 l0 l1 l2 l3 l4 l5 l6 l7
      refine (h1.out _).mono ?_; rintro e w4 ⟨rfl, hq⟩
      have px := Lib.hid (px.out.below hq px.out.lt)
      have py := Lib.hid (py.out.below hq py.out.lt)
      have hb := Lib.hid (hb.out.trans (hq.mono hb.out.size))
      clear hq
      have pa := Lib.hid (Blk.new w4 52 #[Value.int .i64 s2, Value.string sb2, Value.string is_2, Value.int .i64 f2, Value.int .i64 t2, Value.bool ca2, Value.int .u64 ky2, Value.int .u64 sl2])
      have px := Lib.hid (px.out.alloc (.cells #[Value.int .i64 s2, Value.string sb2, Value.string is_2, Value.int .i64 f2, Value.int .i64 t2, Value.bool ca2, Value.int .u64 ky2, Value.int .u64 sl2] 52))
      have py := Lib.hid (py.out.alloc (.cells #[Value.int .i64 s2, Value.string sb2, Value.string is_2, Value.int .i64 f2, Value.int .i64 t2, Value.bool ca2, Value.int .u64 ky2, Value.int .u64 sl2] 52))
      have hb := Lib.hid (below_new hb.out (.cells #[Value.int .i64 s2, Value.string sb2, Value.string is_2, Value.int .i64 f2, Value.int .i64 t2, Value.bool ca2, Value.int .u64 ky2, Value.int .u64 sl2] 52))
      obtain ⟨k0, k1, k2, k3, k4, k5, k6, k7, l0, l1, l2, l3, l4, l5, l6, l7⟩ := (show (w4.alloc (.cells #[Value.int .i64 s2, Value.string sb2, Value.string is_2, Value.int .i64 f2, Value.int .i64 t2, Value.bool ca2, Value.int .u64 ky2, Value.int .u64 sl2] 52)).cell? ⟨w.heap.size, 0, none⟩ = some (Value.int .i64 s) ∧ (w4.alloc (.cells #[Value.int .i64 s2, Value.string sb2, Value.string is_2, Value.int .i64 f2, Value.int .i64 t2, Value.bool ca2, Value.int .u64 ky2, Value.int .u64 sl2] 52)).cell? ⟨w.heap.size, 1, none⟩ = some (Value.string sb) ∧ (w4.alloc (.cells #[Value.int .i64 s2, Value.string sb2, Value.string is_2, Value.int .i64 f2, Value.int .i64 t2, Value.bool ca2, Value.int .u64 ky2, Value.int .u64 sl2] 52)).cell? ⟨w.heap.size, 2, none⟩ = some (Value.string is_) ∧ (w4.alloc (.cells #[Value.int .i64 s2, Value.string sb2, Value.string is_2, Value.int .i64 f2, Value.int .i64 t2, Value.bool ca2, Value.int .u64 ky2, Value.int .u64 sl2] 52)).cell? ⟨w.heap.size, 3, none⟩ = some (Value.int .i64 f) ∧ (w4.alloc (.cells #[Value.int .i64 s2, Value.string sb2, Value.string is_2, Value.int .i64 f2, Value.int .i64 t2, Value.bool ca2, Value.int .u64 ky2, Value.int .u64 sl2] 52)).cell? ⟨w.heap.size, 4, none⟩ = some (Value.int .i64 t) ∧ (w4.alloc (.cells #[Value.int .i64 s2, Value.string sb2, Value.string is_2, Value.int .i64 f2, Value.int .i64 t2, Value.bool ca2, Value.int .u64 ky2, Value.int .u64 sl2] 52)).cell? ⟨w.heap.size, 5, none⟩ = some (Value.bool ca) ∧ (w4.alloc (.cells #[Value.int .i64 s2, Value.string sb2, Value.string is_2, Value.int .i64 f2, Value.int .i64 t2, Value.bool ca2, Value.int .u64 ky2, Value.int .u64 sl2] 52)).cell? ⟨w.heap.size, 6, none⟩ = some (Value.int .u64 ky) ∧ (w4.alloc (.cells #[Value.int .i64 s2, Value.string sb2, Value.string is_2, Value.int .i64 f2, Value.int .i64 t2, Value.bool ca2, Value.int .u64 ky2, Value.int .u64 sl2] 52)).cell? ⟨w.heap.size, 7, none⟩ = some (Value.int .u64 sl) ∧ (w4.alloc (.cells #[Value.int .i64 s2, Value.string sb2, Value.string is_2, Value.int .i64 f2, Value.int .i64 t2, Value.bool ca2, Value.int .u64 ky2, Value.int .u64 sl2] 52)).cell? ⟨(w.heap.size + 1), 0, none⟩ = some (Value.int .i64 s9) ∧ (w4.alloc (.cells #[Value.int .i64 s2, Value.string sb2, Value.string is_2, Value.int .i64 f2, Value.int .i64 t2, Value.bool ca2, Value.int .u64 ky2, Value.int .u64 sl2] 52)).cell? ⟨(w.heap.size + 1), 1, none⟩ = some (Value.string sb9) ∧ (w4.alloc (.cells #[Value.int .i64 s2, Value.string sb2, Value.string is_2, Value.int .i64 f2, Value.int .i64 t2, Value.bool ca2, Value.int .u64 ky2, Value.int .u64 sl2] 52)).cell? ⟨(w.heap.size + 1), 2, none⟩ = some (Value.string is_9) ∧ (w4.alloc (.cells #[Value.int .i64 s2, Value.string sb2, Value.string is_2, Value.int .i64 f2, Value.int .i64 t2, Value.bool ca2, Value.int .u64 ky2, Value.int .u64 sl2] 52)).cell? ⟨(w.heap.size + 1), 3, none⟩ = some (Value.int .i64 f9) ∧ (w4.alloc (.cells #[Value.int .i64 s2, Value.string sb2, Value.string is_2, Value.int .i64 f2, Value.int .i64 t2, Value.bool ca2, Value.int .u64 ky2, Value.int .u64 sl2] 52)).cell? ⟨(w.heap.size + 1), 4, none⟩ = some (Value.int .i64 t9) ∧ (w4.alloc (.cells #[Value.int .i64 s2, Value.string sb2, Value.string is_2, Value.int .i64 f2, Value.int .i64 t2, Value.bool ca2, Value.int .u64 ky2, Value.int .u64 sl2] 52)).cell? ⟨(w.heap.size + 1), 5, none⟩ = some (Value.bool ca9) ∧ (w4.alloc (.cells #[Value.int .i64 s2, Value.string sb2, Value.string is_2, Value.int .i64 f2, Value.int .i64 t2, Value.bool ca2, Value.int .u64 ky2, Value.int .u64 sl2] 52)).cell? ⟨(w.heap.size + 1), 6, none⟩ = some (Value.int .u64 ky9) ∧ (w4.alloc (.cells #[Value.int .i64 s2, Value.string sb2, Value.string is_2, Value.int .i64 f2, Value.int .i64 t2, Value.bool ca2, Value.int .u64 ky2, Value.int .u64 sl2] 52)).cell? ⟨(w.heap.size + 1), 7, none⟩ = some (Value.int .u64 sl9) from ⟨px.out.cell 0, px.out.cell 1, px.out.cell 2, px.out.cell 3, px.out.cell 4, px.out.cell 5, px.out.cell 6, px.out.cell 7, py.out.cell 0, py.out.cell 1, py.out.cell 2, py.out.cell 3, py.out.cell 4, py.out.cell 5, py.out.cell 6, py.out.cell 7⟩)
      go_wp2_with fail
      clear k0 k1 k2 k3 k4 k5 k6 k7 l0 l1 l2 l3 l4 l5 l6 l7
      refine (h2.out _).mono ?_; rintro e w5 ⟨rfl, hq⟩
      have pa := Lib.hid (pa.out.below hq pa.out.lt)
      have hb := Lib.hid (hb.out.trans (hq.mono hb.out.size))
      clear hq
      have pb := Lib.hid (Blk.new w5 52 #[Value.int .i64 s2, Value.string sb2, Value.string is_2, Value.int .i64 f2, Value.int .i64 t2, Value.bool ca2, Value.int .u64 ky2, Value.int .u64 sl2])
      have pa := Lib.hid (pa.out.alloc (.cells #[Value.int .i64 s2, Value.string sb2, Value.string is_2, Value.int .i64 f2, Value.int .i64 t2, Value.bool ca2, Value.int .u64 ky2, Value.int .u64 sl2] 52))
      have hb := Lib.hid (below_new hb.out (.cells #[Value.int .i64 s2, Value.string sb2, Value.string is_2, Value.int .i64 f2, Value.int .i64 t2, Value.bool ca2, Value.int .u64 ky2, Value.int .u64 sl2] 52))
      obtain ⟨k0, k1, k2, k3, k4, k5, k6, k7⟩ := (show (w5.alloc (.cells #[Value.int .i64 s2, Value.string sb2, Value.string is_2, Value.int .i64 f2, Value.int .i64 t2, Value.bool ca2, Value.int .u64 ky2, Value.int .u64 sl2] 52)).cell? ⟨w4.heap.size, 0, none⟩ = some (Value.int .i64 s2) ∧ (w5.alloc (.cells #[Value.int .i64 s2, Value.string sb2, Value.string is_2, Value.int .i64 f2, Value.int .i64 t2, Value.bool ca2, Value.int .u64 ky2, Value.int .u64 sl2] 52)).cell? ⟨w4.heap.size, 1, none⟩ = some (Value.string sb2) ∧ (w5.alloc (.cells #[Value.int .i64 s2, Value.string sb2, Value.string is_2, Value.int .i64 f2, Value.int .i64 t2, Value.bool ca2, Value.int .u64 ky2, Value.int .u64 sl2] 52)).cell? ⟨w4.heap.size, 2, none⟩ = some (Value.string is_2) ∧ (w5.alloc (.cells #[Value.int .i64 s2, Value.string sb2, Value.string is_2, Value.int .i64 f2, Value.int .i64 t2, Value.bool ca2, Value.int .u64 ky2, Value.int .u64 sl2] 52)).cell? ⟨w4.heap.size, 3, none⟩ = some (Value.int .i64 f2) ∧ (w5.alloc (.cells #[Value.int .i64 s2, Value.string sb2, Value.string is_2, Value.int .i64 f2, Value.int .i64 t2, Value.bool ca2, Value.int .u64 ky2, Value.int .u64 sl2] 52)).cell? ⟨w4.heap.size, 4, none⟩ = some (Value.int .i64 t2) ∧ (w5.alloc (.cells #[Value.int .i64 s2, Value.string sb2, Value.string is_2, Value.int .i64 f2, Value.int .i64 t2, Value.bool ca2, Value.int .u64 ky2, Value.int .u64 sl2] 52)).cell? ⟨w4.heap.size, 5, none⟩ = some (Value.bool ca2) ∧ (w5.alloc (.cells #[Value.int .i64 s2, Value.string sb2, Value.string is_2, Value.int .i64 f2, Value.int .i64 t2, Value.bool ca2, Value.int .u64 ky2, Value.int .u64 sl2] 52)).cell? ⟨w4.heap.size, 6, none⟩ = some (Value.int .u64 ky2) ∧ (w5.alloc (.cells #[Value.int .i64 s2, Value.string sb2, Value.string is_2, Value.int .i64 f2, Value.int .i64 t2, Value.bool ca2, Value.int .u64 ky2, Value.int .u64 sl2] 52)).cell? ⟨w4.heap.size, 7, none⟩ = some (Value.int .u64 sl2) from ⟨pa.out.cell 0, pa.out.cell 1, pa.out.cell 2, pa.out.cell 3, pa.out.cell 4, pa.out.cell 5, pa.out.cell 6, pa.out.cell 7⟩)
      go_wp2_with fail
      clear k0 k1 k2 k3 k4 k5 k6 k7
      refine (awake_any _).mono ?_; rintro e wa ⟨rfl, hq⟩
      have hb := Lib.hid (hb.out.trans (hq.mono hb.out.size))
      clear hq
      go_wp2_with fail
      go_ret
      exact ⟨rfl, hb.out⟩
set_option maxRecDepth 100000 in
set_option maxHeartbeats 4000000 in
theorem lawVerifies (A A2 A3 : Option Addr) (n n2 n3 cp cp2 cp3 : Nat) (C R : List Ct) (rv : List Int) (now : Int) (w : World) (hC : LAt ctC 8 w w.heap.size A n C) (h : LAt ctC 8 w w.heap.size A2 n2 R) (hV : LAt iC 1 w w.heap.size A3 n3 rv) (hr : ∀ c ∈ C, CtR c) :
    Calls Try.prog 17 #[.slice A n cp, .agg #[Value.slice A2 n2 cp2, Value.slice A3 n3 cp3], .int .i64 now] w fun e w' => e = .returned (.bool true) ∧ Below w.heap.size w w' := by
  have px := Lib.hid (Blk.new w 59 #[Value.slice A2 n2 cp2, Value.slice A3 n3 cp3])
  have hb := Lib.hid (a1 w (.cells #[Value.slice A2 n2 cp2, Value.slice A3 n3 cp3] 59))
  have hC2 := Lib.hid (hC.more hb.out)
  have h2 := Lib.hid (h.more hb.out)
  have hV2 := Lib.hid (hV.more hb.out)
  have hlen := fun hh => few_len hh hC.len h.len hV.len
  clear hC h hV
  go_enter Try.func17, Try.ntmps17
  obtain ⟨k0, k1⟩ := (show (w.alloc (.cells #[Value.slice A2 n2 cp2, Value.slice A3 n3 cp3] 59)).cell? ⟨w.heap.size, 0, none⟩ = some (Value.slice A2 n2 cp2) ∧ (w.alloc (.cells #[Value.slice A2 n2 cp2, Value.slice A3 n3 cp3] 59)).cell? ⟨w.heap.size, 1, none⟩ = some (Value.slice A3 n3 cp3) from ⟨px.out.cell 0, px.out.cell 1⟩)
  go_wp2_with fail
  clear k0 k1
  generalize w.alloc (.cells #[Value.slice A2 n2 cp2, Value.slice A3 n3 cp3] 59) = w1 at *
  refine (few_any A A2 A3 n n2 n3 cp cp2 cp3 C R rv w1 hC2.out h2.out hV2.out).mono ?_; rintro e w2 ⟨rfl, hq⟩
  have hC2 := Lib.hid (hC2.out.more hq)
  have h2 := Lib.hid (h2.out.more hq)
  have hV2 := Lib.hid (hV2.out.more hq)
  have px := Lib.hid (px.out.below hq px.out.lt)
  have hb := Lib.hid (hb.out.trans (hq.mono hb.out.size))
  clear hq
  cases hs : fewB C R rv with
  | false =>
    clear hlen
    go_wp2_with fail
    refine (awake_any _).mono ?_; rintro e wa ⟨rfl, hq⟩
    have hb := Lib.hid (hb.out.trans (hq.mono hb.out.size))
    clear hq
    go_wp2_with fail
    go_ret
    exact ⟨rfl, hb.out⟩
  | true =>
    obtain ⟨g1, g2, g3⟩ := hlen hs
    have hok : ∀ c ∈ C, CtOk c := fun c hc => ct_ok (hr c hc) (few_short hs hc)
    have hv1 := fun wz (hz : Below w2.heap.size w2 wz) => verify_any A A2 A3 n n2 n3 cp cp2 cp3 C R rv now wz (hC2.out.more hz) (h2.out.more hz) (hV2.out.more hz) g1 g2 g3 hok
    have hv2 := fun wz (hz : Below w2.heap.size w2 wz) => rverify_any A A2 A3 n n2 n3 cp cp2 cp3 C R rv now wz (hC2.out.more hz) (h2.out.more hz) (hV2.out.more hz) g1 g2 g3 hok
    generalize verR C R rv now = V at *
    replace hv1 := Lib.hid hv1
    replace hv2 := Lib.hid hv2
    have kz : Hid (∀ wz, Below w2.heap.size w2 wz → wz.cell? ⟨w.heap.size, 0, none⟩ = some (Value.slice A2 n2 cp2) ∧ wz.cell? ⟨w.heap.size, 1, none⟩ = some (Value.slice A3 n3 cp3)) := fun wz hz => by
      have q := px.out.below hz px.out.lt
      exact ⟨q.cell 0, q.cell 1⟩
    have hb2 : Hid (Below w2.heap.size w2 w2) := Below.refl _ _
    clear hC2 h2 hV2 hok hlen hs hr g1 g2 g3
    go_wp2_with fail
    go_region_held3 (fun wz => wz.cell? ⟨w.heap.size, 0, none⟩ = some (Value.slice A2 n2 cp2) ∧ wz.cell? ⟨w.heap.size, 1, none⟩ = some (Value.slice A3 n3 cp3))
      ((refine kz.out _ ?_; (repeat (with_reducible refine below_dr ?_)); with_reducible exact hb2.out))
      (first
        | (go_at_call 59; refine (hv1.out _ (by (repeat (with_reducible refine below_dr ?_)); with_reducible exact hb2.out)).mono ?_; rintro e w8 ⟨rfl, hbq⟩; replace hb2 : Hid (Below w2.heap.size w2 w8) := (by first | exact hb2.out.trans (hbq.mono hb2.out.size) | exact (below_dr hb2.out).trans (hbq.mono (below_dr hb2.out).size)); clear hbq)
        | (go_at_call 60; refine (hv2.out _ (by (repeat (with_reducible refine below_dr ?_)); with_reducible exact hb2.out)).mono ?_; rintro e w8 ⟨rfl, hbq⟩; replace hb2 : Hid (Below w2.heap.size w2 w8) := (by first | exact hb2.out.trans (hbq.mono hb2.out.size) | exact (below_dr hb2.out).trans (hbq.mono (below_dr hb2.out).size)); clear hbq)
        | (go_at_call 51; refine (awake_any _).mono ?_; rintro e w8 ⟨rfl, hbq⟩; replace hb2 : Hid (Below w2.heap.size w2 w8) := (by first | exact hb2.out.trans (hbq.mono hb2.out.size) | exact (below_dr hb2.out).trans (hbq.mono (below_dr hb2.out).size)); clear hbq))
    all_goals
      go_wp2_with fail
      go_ret
      exact ⟨rfl, hb.out.trans (hb2.out.mono hb.out.size)⟩
end Go.Proofs.Ytiggpgeldigknaa
