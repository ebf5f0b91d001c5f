/- Certs: sealed, Seal. -/
import Derived.Test.YtiggpgeldigknaaCC
set_option linter.unusedVariables false
set_option linter.unusedSimpArgs false
namespace Go.Proofs.Ytiggpgeldigknaa
open Go.RowKit
theorem ct_set8 {w : World} {g : Nat} {a0 a1 a2 a3 a4 a5 a6 a7 : Value} (h : Blk w g 52 #[a0, a1, a2, a3, a4, a5, a6, a7]) (v0 v1 v2 v3 v4 v5 v6 v7 : Value) : Blk ((((((((w.setCell ⟨g, 0, none⟩ v0).setCell ⟨g, 1, none⟩ v1).setCell ⟨g, 2, none⟩ v2).setCell ⟨g, 3, none⟩ v3).setCell ⟨g, 4, none⟩ v4).setCell ⟨g, 5, none⟩ v5).setCell ⟨g, 6, none⟩ v6).setCell ⟨g, 7, none⟩ v7) g 52 #[v0, v1, v2, v3, v4, v5, v6, v7] := by
  have := ((((((((h.set_ 0 v0).set_ 1 v1).set_ 2 v2).set_ 3 v3).set_ 4 v4).set_ 5 v5).set_ 6 v6).set_ 7 v7)
  simpa using this
def sealC (c : Ct) (key : Int) : Int := Sip.sum key (ctB c (caI c.ca))
set_option maxRecDepth 100000 in
set_option maxHeartbeats 8000000 in
theorem rseal_any (c : Ct) (key : Int) (w : World) (hk : CtOk c) :
    Calls Try.prog 62 #[.agg (ctC c).toArray, .int .u64 key] w fun e w' => e = .returned (.int .u64 (sealC c key)) ∧ Below w.heap.size w w' := by
  have hl := Lib.hid (ctB_le hk (caI c.ca))
  replace hk := Lib.hid hk
  have hS : Hid (sealC c key = Sip.sum key (ctB c (caI c.ca))) := rfl
  have hR := fun w => rcontent_any c w hk.out
  generalize ctB c (caI c.ca) = cb at *
  have kz := Lib.hid (ct_box w c)
  go_enter Try.func62, Try.ntmps62
  unfold ctC
  obtain ⟨k0, k1, k2, k3, k4, k5, k6, k7⟩ := kz.out _ (Below.refl _ _)
  replace hR := Lib.hid hR
  go_wp2_with fail
  refine (hR.out _).mono ?_; rintro e w2 ⟨v, rfl, hs, hb⟩
  obtain ⟨A, n, cp, rfl, hA, hc⟩ := hs
  have hsum := Lib.hid (rsum_any A cb n cp key w2 hA.bytes hA.len hl.out)
  have hb2 := Lib.hid (below_a hb)
  clear hA hb k0 k1 k2 k3 k4 k5 k6 k7
  go_wp2_with fail
  refine hsum.out.mono ?_; rintro e w3 ⟨rfl, hb3⟩
  replace hb3 := Lib.hid hb3
  go_wp2_with fail
  go_ret
  exact ⟨by rw [hS.out]; rfl, hb2.out.trans (hb3.out.mono hb2.out.size)⟩
set_option maxRecDepth 100000 in
set_option maxHeartbeats 8000000 in
theorem sealed_any (c : Ct) (key : Int) (w : World) (hk : CtOk c) :
    Calls Try.prog 74 #[.agg (ctC c).toArray, .int .u64 key] w fun e w' => e = .returned (.agg (ctC { c with sl := sealC c key }).toArray) ∧ Below w.heap.size w w' := by
  have hl := Lib.hid (ctB_le hk (caI c.ca))
  replace hk := Lib.hid hk
  have hS : Hid (sealC c key = Sip.sum key (ctB c (caI c.ca))) := rfl
  have hR := fun w => content_any c w hk.out
  generalize ctB c (caI c.ca) = cb at *
  generalize hsv : sealC c key = sv at *
  go_enter Try.func74, Try.ntmps74
  unfold ctC
  replace hR := Lib.hid hR
  go_wp2_with fail
  refine (hR.out _).mono ?_; rintro e w2 ⟨v, rfl, hs, hb⟩
  obtain ⟨A, n, cp, rfl, hA, hc⟩ := hs
  have hsum := Lib.hid (sum_any' A cb n cp key w2 hA.bytes hA.len hl.out (by have := hA.len; omega))
  have q0 := Lib.hid (((Blk.new w 52 #[Value.int .i64 c.serial, Value.string c.subj, Value.string c.iss, Value.int .i64 c.from_, Value.int .i64 c.to_, Value.bool c.ca, Value.int .u64 c.key, Value.int .u64 c.sl]).alloc (.cells #[Value.int .i64 0, Value.string ⟨#[]⟩, Value.string ⟨#[]⟩, Value.int .i64 0, Value.int .i64 0, Value.bool false, Value.int .u64 0, Value.int .u64 0] 52)).below hb (by simp; omega))
  have q1 := Lib.hid ((Blk.new (w.alloc (.cells #[Value.int .i64 c.serial, Value.string c.subj, Value.string c.iss, Value.int .i64 c.from_, Value.int .i64 c.to_, Value.bool c.ca, Value.int .u64 c.key, Value.int .u64 c.sl] 52)) 52 #[Value.int .i64 0, Value.string ⟨#[]⟩, Value.string ⟨#[]⟩, Value.int .i64 0, Value.int .i64 0, Value.bool false, Value.int .u64 0, Value.int .u64 0]).below hb (by simp))
  have hb2 : Hid (Below w.heap.size w w2) := (((Below.refl _ w).alloc (Nat.le_refl _) _).alloc (by simp) _).trans (hb.mono (by simp; omega))
  have hsz2 := Lib.hid hb.size
  clear hb hA
  go_wp2_with fail
  refine hsum.out.mono ?_; rintro e w3 ⟨rfl, hb3⟩
  rw [← hS.out]
  replace hb3 := Lib.hid hb3
  have p0 := q0.out.below hb3.out q0.out.lt
  have p1 := q1.out.below hb3.out q1.out.lt
  have hb4 := Lib.hid (hb2.out.trans (hb3.out.mono hb2.out.size))
  rw [show (w.alloc (.cells #[Value.int .i64 c.serial, Value.string c.subj, Value.string c.iss, Value.int .i64 c.from_, Value.int .i64 c.to_, Value.bool c.ca, Value.int .u64 c.key, Value.int .u64 c.sl] 52)).heap.size = w.heap.size + 1 by simp] at p1
  replace p0 := Lib.hid p0
  replace p1 := Lib.hid p1
  obtain ⟨k0, k1, k2, k3, k4, k5, k6, k7, z0, z1, z2, z3, z4, z5, z6, z7⟩ := (show w3.cell? ⟨w.heap.size, 0, none⟩ = some (Value.int .i64 c.serial) ∧ w3.cell? ⟨w.heap.size, 1, none⟩ = some (Value.string c.subj) ∧ w3.cell? ⟨w.heap.size, 2, none⟩ = some (Value.string c.iss) ∧ w3.cell? ⟨w.heap.size, 3, none⟩ = some (Value.int .i64 c.from_) ∧ w3.cell? ⟨w.heap.size, 4, none⟩ = some (Value.int .i64 c.to_) ∧ w3.cell? ⟨w.heap.size, 5, none⟩ = some (Value.bool c.ca) ∧ w3.cell? ⟨w.heap.size, 6, none⟩ = some (Value.int .u64 c.key) ∧ w3.cell? ⟨w.heap.size, 7, none⟩ = some (Value.int .u64 c.sl) ∧ w3.cell? ⟨w.heap.size + 1, 0, none⟩ = some (Value.int .i64 0) ∧ w3.cell? ⟨w.heap.size + 1, 1, none⟩ = some (Value.string ⟨#[]⟩) ∧ w3.cell? ⟨w.heap.size + 1, 2, none⟩ = some (Value.string ⟨#[]⟩) ∧ w3.cell? ⟨w.heap.size + 1, 3, none⟩ = some (Value.int .i64 0) ∧ w3.cell? ⟨w.heap.size + 1, 4, none⟩ = some (Value.int .i64 0) ∧ w3.cell? ⟨w.heap.size + 1, 5, none⟩ = some (Value.bool false) ∧ w3.cell? ⟨w.heap.size + 1, 6, none⟩ = some (Value.int .u64 0) ∧ w3.cell? ⟨w.heap.size + 1, 7, none⟩ = some (Value.int .u64 0) from ⟨p0.out.cell 0, p0.out.cell 1, p0.out.cell 2, p0.out.cell 3, p0.out.cell 4, p0.out.cell 5, p0.out.cell 6, p0.out.cell 7, p1.out.cell 0, p1.out.cell 1, p1.out.cell 2, p1.out.cell 3, p1.out.cell 4, p1.out.cell 5, p1.out.cell 6, p1.out.cell 7⟩)
  obtain ⟨f0, f1, f2, f3, f4, f5, f6, f7, g0, g1, g2, g3, g4, g5, g6, g7⟩ := (show w3.frozen? ⟨w.heap.size, 0, none⟩ = false ∧ w3.frozen? ⟨w.heap.size, 1, none⟩ = false ∧ w3.frozen? ⟨w.heap.size, 2, none⟩ = false ∧ w3.frozen? ⟨w.heap.size, 3, none⟩ = false ∧ w3.frozen? ⟨w.heap.size, 4, none⟩ = false ∧ w3.frozen? ⟨w.heap.size, 5, none⟩ = false ∧ w3.frozen? ⟨w.heap.size, 6, none⟩ = false ∧ w3.frozen? ⟨w.heap.size, 7, none⟩ = false ∧ w3.frozen? ⟨w.heap.size + 1, 0, none⟩ = false ∧ w3.frozen? ⟨w.heap.size + 1, 1, none⟩ = false ∧ w3.frozen? ⟨w.heap.size + 1, 2, none⟩ = false ∧ w3.frozen? ⟨w.heap.size + 1, 3, none⟩ = false ∧ w3.frozen? ⟨w.heap.size + 1, 4, none⟩ = false ∧ w3.frozen? ⟨w.heap.size + 1, 5, none⟩ = false ∧ w3.frozen? ⟨w.heap.size + 1, 6, none⟩ = false ∧ w3.frozen? ⟨w.heap.size + 1, 7, none⟩ = false from ⟨p0.out.frozen 0, p0.out.frozen 1, p0.out.frozen 2, p0.out.frozen 3, p0.out.frozen 4, p0.out.frozen 5, p0.out.frozen 6, p0.out.frozen 7, p1.out.frozen 0, p1.out.frozen 1, p1.out.frozen 2, p1.out.frozen 3, p1.out.frozen 4, p1.out.frozen 5, p1.out.frozen 6, p1.out.frozen 7⟩)
  go_wp2_with fail
  (try simp only [Exit.inBlock, Exit.then])
  have hB := ct_set8 (p1.out.far (p := ⟨w.heap.size, 7, none⟩) (by simp) (Value.int .u64 sv)) (Value.int .i64 c.serial) (Value.string c.subj) (Value.string c.iss) (Value.int .i64 c.from_) (Value.int .i64 c.to_) (Value.bool c.ca) (Value.int .u64 c.key) (Value.int .u64 sv)
  refine bodyPost_ret (v := .agg #[Value.int .i64 c.serial, Value.string c.subj, Value.string c.iss, Value.int .i64 c.from_, Value.int .i64 c.to_, Value.bool c.ca, Value.int .u64 c.key, Value.int .u64 sv]) ?_ rfl ?_
  · exact results_cell_row (h := rfl) _ _ (w.heap.size + 1) 52 _ (0, 0) _ rfl hB Try.underlying52 rfl (by kernel_rfl)
  · refine ⟨rfl, ?_⟩
    exact (below_set (below_set (below_set (below_set (below_set (below_set (below_set (below_set (below_set hb4.out (Nat.le_refl _) 7 _) (Nat.le_succ _) 0 _) (Nat.le_succ _) 1 _) (Nat.le_succ _) 2 _) (Nat.le_succ _) 3 _) (Nat.le_succ _) 4 _) (Nat.le_succ _) 5 _) (Nat.le_succ _) 6 _) (Nat.le_succ _) 7 _)
end Go.Proofs.Ytiggpgeldigknaa
