/- Certs: Root of both. -/
import Derived.Test.YtiggpgeldigknaaCD
set_option linter.unusedVariables false
set_option linter.unusedSimpArgs false
namespace Go.Proofs.Ytiggpgeldigknaa
open Go.RowKit
theorem res2 {P : Program} {fn : Func} {p u : Tmp} {ty : TypeId} (h : fn.results = #[.cell p ty, .tmp u]) (tmps : Array Value) (w : World) (g : Nat) (t : TypeId) (cs : Array Value) (fr : Nat × Nat) (d : TypeDesc)
    (hp : tmps.getD p undef = .pointer (some ⟨g, 0, none⟩)) (hg : w.heap[g]? = some (.cells cs t fr))
    (hu : P.underlying ty = some d) (hd : (match d with | .struct _ | .array _ _ => true | _ => false) = true) (hi : (P.info? ty).map (·.size) = some cs.size) :
    (results fn tmps).run P w = .ok (.tuple #[.agg cs, tmps.getD u undef]) w := by
  rw [results_cell_tmp h, hp]
  simp [asAddr, run_loadVar_row w g t ty cs fr d hg hu hd hi, Result.andThen]
def selfC (c : Ct) : Ct := { c with iss := c.subj }
def noCt : Ct := ⟨0, ⟨#[]⟩, ⟨#[]⟩, 0, 0, false, 0, 0⟩
def rootR (c : Ct) : Ct × Int := if validE (selfC c) ≠ 0 then (noCt, validE (selfC c)) else if !c.ca then (noCt, 1) else ({ selfC c with sl := sealC (selfC c) c.key }, 0)
set_option maxRecDepth 100000 in
set_option maxHeartbeats 4000000 in
theorem root_any (c : Ct) (w : World) (hk : CtOk (selfC c)) :
    Calls Try.prog 34 #[.agg (ctC c).toArray] w fun e w' => e = .returned (.tuple #[.agg (ctC (rootR c).1).toArray, .int .i64 (rootR c).2]) ∧ Below w.heap.size w w' := by
  have hv := Lib.hid (valid_any (selfC c))
  have hs := Lib.hid (fun w => sealed_any (selfC c) c.key w hk)
  have hR : Hid (rootR c = if validE (selfC c) ≠ 0 then (noCt, validE (selfC c)) else if !c.ca then (noCt, 1) else ({ selfC c with sl := sealC (selfC c) c.key }, 0)) := rfl
  generalize hE : validE (selfC c) = E at *
  generalize hS : sealC (selfC c) c.key = sv at *
  replace hE := Lib.hid hE
  replace hS := Lib.hid hS
  go_enter Try.func34, Try.ntmps34
  unfold ctC
  go_wp2_with fail
  refine (hv.out _).mono ?_; rintro e w2 ⟨rfl, hb⟩
  have p0 := Lib.hid (((Blk.new w 52 #[Value.int .i64 c.serial, Value.string c.subj, Value.string c.subj, Value.int .i64 c.from_, Value.int .i64 c.to_, Value.bool c.ca, Value.int .u64 c.key, Value.int .u64 c.sl]).alloc (.cells #[Value.int .i64 0, Value.string ⟨#[]⟩, Value.string ⟨#[]⟩, Value.int .i64 0, Value.int .i64 0, Value.bool false, Value.int .u64 0, Value.int .u64 0] 52)).below hb (by simp; omega))
  have p1 := (Blk.new (w.alloc (.cells #[Value.int .i64 c.serial, Value.string c.subj, Value.string c.subj, Value.int .i64 c.from_, Value.int .i64 c.to_, Value.bool c.ca, Value.int .u64 c.key, Value.int .u64 c.sl] 52)) 52 #[Value.int .i64 0, Value.string ⟨#[]⟩, Value.string ⟨#[]⟩, Value.int .i64 0, Value.int .i64 0, Value.bool false, Value.int .u64 0, Value.int .u64 0]).below hb (by simp)
  rw [show (w.alloc (.cells #[Value.int .i64 c.serial, Value.string c.subj, Value.string c.subj, Value.int .i64 c.from_, Value.int .i64 c.to_, Value.bool c.ca, Value.int .u64 c.key, Value.int .u64 c.sl] 52)).heap.size = w.heap.size + 1 by simp] at p1
  replace p1 := Lib.hid p1
  have hbw : Hid (Below w.heap.size w w2) := (((Below.refl _ w).alloc (Nat.le_refl _) _).alloc (by simp) _).trans (hb.mono (by simp; omega))
  clear hb hv
  obtain ⟨k0, k1, k2, k3, k4, k5, k6, k7, z0, z1, z2, z3, z4, z5, z6, z7⟩ := (show w2.cell? ⟨w.heap.size, 0, none⟩ = some (Value.int .i64 c.serial) ∧ w2.cell? ⟨w.heap.size, 1, none⟩ = some (Value.string c.subj) ∧ w2.cell? ⟨w.heap.size, 2, none⟩ = some (Value.string c.subj) ∧ w2.cell? ⟨w.heap.size, 3, none⟩ = some (Value.int .i64 c.from_) ∧ w2.cell? ⟨w.heap.size, 4, none⟩ = some (Value.int .i64 c.to_) ∧ w2.cell? ⟨w.heap.size, 5, none⟩ = some (Value.bool c.ca) ∧ w2.cell? ⟨w.heap.size, 6, none⟩ = some (Value.int .u64 c.key) ∧ w2.cell? ⟨w.heap.size, 7, none⟩ = some (Value.int .u64 c.sl) ∧ w2.cell? ⟨w.heap.size + 1, 0, none⟩ = some (Value.int .i64 0) ∧ w2.cell? ⟨w.heap.size + 1, 1, none⟩ = some (Value.string ⟨#[]⟩) ∧ w2.cell? ⟨w.heap.size + 1, 2, none⟩ = some (Value.string ⟨#[]⟩) ∧ w2.cell? ⟨w.heap.size + 1, 3, none⟩ = some (Value.int .i64 0) ∧ w2.cell? ⟨w.heap.size + 1, 4, none⟩ = some (Value.int .i64 0) ∧ w2.cell? ⟨w.heap.size + 1, 5, none⟩ = some (Value.bool false) ∧ w2.cell? ⟨w.heap.size + 1, 6, none⟩ = some (Value.int .u64 0) ∧ w2.cell? ⟨w.heap.size + 1, 7, none⟩ = some (Value.int .u64 0) from ⟨p0.out.cell 0, p0.out.cell 1, p0.out.cell 2, p0.out.cell 3, p0.out.cell 4, p0.out.cell 5, p0.out.cell 6, p0.out.cell 7, p1.out.cell 0, p1.out.cell 1, p1.out.cell 2, p1.out.cell 3, p1.out.cell 4, p1.out.cell 5, p1.out.cell 6, p1.out.cell 7⟩)
  obtain ⟨f0, f1, f2, f3, f4, f5, f6, f7, g0, g1, g2, g3, g4, g5, g6, g7⟩ := (show w2.frozen? ⟨w.heap.size, 0, none⟩ = false ∧ w2.frozen? ⟨w.heap.size, 1, none⟩ = false ∧ w2.frozen? ⟨w.heap.size, 2, none⟩ = false ∧ w2.frozen? ⟨w.heap.size, 3, none⟩ = false ∧ w2.frozen? ⟨w.heap.size, 4, none⟩ = false ∧ w2.frozen? ⟨w.heap.size, 5, none⟩ = false ∧ w2.frozen? ⟨w.heap.size, 6, none⟩ = false ∧ w2.frozen? ⟨w.heap.size, 7, none⟩ = false ∧ w2.frozen? ⟨w.heap.size + 1, 0, none⟩ = false ∧ w2.frozen? ⟨w.heap.size + 1, 1, none⟩ = false ∧ w2.frozen? ⟨w.heap.size + 1, 2, none⟩ = false ∧ w2.frozen? ⟨w.heap.size + 1, 3, none⟩ = false ∧ w2.frozen? ⟨w.heap.size + 1, 4, none⟩ = false ∧ w2.frozen? ⟨w.heap.size + 1, 5, none⟩ = false ∧ w2.frozen? ⟨w.heap.size + 1, 6, none⟩ = false ∧ w2.frozen? ⟨w.heap.size + 1, 7, none⟩ = false from ⟨p0.out.frozen 0, p0.out.frozen 1, p0.out.frozen 2, p0.out.frozen 3, p0.out.frozen 4, p0.out.frozen 5, p0.out.frozen 6, p0.out.frozen 7, p1.out.frozen 0, p1.out.frozen 1, p1.out.frozen 2, p1.out.frozen 3, p1.out.frozen 4, p1.out.frozen 5, p1.out.frozen 6, p1.out.frozen 7⟩)
  by_cases h0 : E = 0
  · cases hca : c.ca with
    | true =>
      rw [hca] at k5
      go_wp2_with fail
      clear k0 k1 k2 k3 k4 k5 k6 k7 z0 z1 z2 z3 z4 z5 z6 z7 f0 f1 f2 f3 f4 f5 f6 f7 g0 g1 g2 g3 g4 g5 g6 g7
      have hs2 := hs.out
      simp only [ctC, selfC, hca] at hs2
      refine (hs2 _).mono ?_; rintro e w3 ⟨rfl, hb3⟩
      have p0 := Lib.hid (p0.out.below hb3 p0.out.lt)
      have p1 := Lib.hid (p1.out.below hb3 p1.out.lt)
      have hbw := Lib.hid (hbw.out.trans (hb3.mono hbw.out.size))
      clear hb3 hs hs2
      obtain ⟨k0, k1, k2, k3, k4, k5, k6, k7, z0, z1, z2, z3, z4, z5, z6, z7⟩ := (show w3.cell? ⟨w.heap.size, 0, none⟩ = some (Value.int .i64 c.serial) ∧ w3.cell? ⟨w.heap.size, 1, none⟩ = some (Value.string c.subj) ∧ w3.cell? ⟨w.heap.size, 2, none⟩ = some (Value.string c.subj) ∧ w3.cell? ⟨w.heap.size, 3, none⟩ = some (Value.int .i64 c.from_) ∧ w3.cell? ⟨w.heap.size, 4, none⟩ = some (Value.int .i64 c.to_) ∧ w3.cell? ⟨w.heap.size, 5, none⟩ = some (Value.bool c.ca) ∧ w3.cell? ⟨w.heap.size, 6, none⟩ = some (Value.int .u64 c.key) ∧ w3.cell? ⟨w.heap.size, 7, none⟩ = some (Value.int .u64 c.sl) ∧ w3.cell? ⟨w.heap.size + 1, 0, none⟩ = some (Value.int .i64 0) ∧ w3.cell? ⟨w.heap.size + 1, 1, none⟩ = some (Value.string ⟨#[]⟩) ∧ w3.cell? ⟨w.heap.size + 1, 2, none⟩ = some (Value.string ⟨#[]⟩) ∧ w3.cell? ⟨w.heap.size + 1, 3, none⟩ = some (Value.int .i64 0) ∧ w3.cell? ⟨w.heap.size + 1, 4, none⟩ = some (Value.int .i64 0) ∧ w3.cell? ⟨w.heap.size + 1, 5, none⟩ = some (Value.bool false) ∧ w3.cell? ⟨w.heap.size + 1, 6, none⟩ = some (Value.int .u64 0) ∧ w3.cell? ⟨w.heap.size + 1, 7, none⟩ = some (Value.int .u64 0) from ⟨p0.out.cell 0, p0.out.cell 1, p0.out.cell 2, p0.out.cell 3, p0.out.cell 4, p0.out.cell 5, p0.out.cell 6, p0.out.cell 7, p1.out.cell 0, p1.out.cell 1, p1.out.cell 2, p1.out.cell 3, p1.out.cell 4, p1.out.cell 5, p1.out.cell 6, p1.out.cell 7⟩)
      obtain ⟨f0, f1, f2, f3, f4, f5, f6, f7, g0, g1, g2, g3, g4, g5, g6, g7⟩ := (show w3.frozen? ⟨w.heap.size, 0, none⟩ = false ∧ w3.frozen? ⟨w.heap.size, 1, none⟩ = false ∧ w3.frozen? ⟨w.heap.size, 2, none⟩ = false ∧ w3.frozen? ⟨w.heap.size, 3, none⟩ = false ∧ w3.frozen? ⟨w.heap.size, 4, none⟩ = false ∧ w3.frozen? ⟨w.heap.size, 5, none⟩ = false ∧ w3.frozen? ⟨w.heap.size, 6, none⟩ = false ∧ w3.frozen? ⟨w.heap.size, 7, none⟩ = false ∧ w3.frozen? ⟨w.heap.size + 1, 0, none⟩ = false ∧ w3.frozen? ⟨w.heap.size + 1, 1, none⟩ = false ∧ w3.frozen? ⟨w.heap.size + 1, 2, none⟩ = false ∧ w3.frozen? ⟨w.heap.size + 1, 3, none⟩ = false ∧ w3.frozen? ⟨w.heap.size + 1, 4, none⟩ = false ∧ w3.frozen? ⟨w.heap.size + 1, 5, none⟩ = false ∧ w3.frozen? ⟨w.heap.size + 1, 6, none⟩ = false ∧ w3.frozen? ⟨w.heap.size + 1, 7, none⟩ = false from ⟨p0.out.frozen 0, p0.out.frozen 1, p0.out.frozen 2, p0.out.frozen 3, p0.out.frozen 4, p0.out.frozen 5, p0.out.frozen 6, p0.out.frozen 7, p1.out.frozen 0, p1.out.frozen 1, p1.out.frozen 2, p1.out.frozen 3, p1.out.frozen 4, p1.out.frozen 5, p1.out.frozen 6, p1.out.frozen 7⟩)
      rw [hca] at k5
      go_wp2_with fail
      (try simp only [Exit.inBlock, Exit.then])
      have hB := ct_set8 p1.out (Value.int .i64 c.serial) (Value.string c.subj) (Value.string c.subj) (Value.int .i64 c.from_) (Value.int .i64 c.to_) (Value.bool true) (Value.int .u64 c.key) (Value.int .u64 sv)
      refine bodyPost_ret (v := .tuple #[.agg #[Value.int .i64 c.serial, Value.string c.subj, Value.string c.subj, Value.int .i64 c.from_, Value.int .i64 c.to_, Value.bool true, Value.int .u64 c.key, Value.int .u64 sv], .int .i64 0]) ?_ rfl ?_
      · refine (res2 (fn := Try.f34) (p := 2) (u := 3) (ty := 52) rfl _ _ (w.heap.size + 1) 52 _ (0, 0) _ ?_ hB Try.underlying52 rfl (by kernel_rfl)).trans ?_
        · rfl
        · rfl
      · refine ⟨by rw [hR.out]; simp only [h0, hca, ne_eq, not_true_eq_false, if_false, Bool.not_true, Bool.false_eq_true, ctC, selfC]; try rfl, ?_⟩
        clear hB
        exact (below_set (below_set (below_set (below_set (below_set (below_set (below_set (below_set hbw.out (Nat.le_succ _) 0 _) (Nat.le_succ _) 1 _) (Nat.le_succ _) 2 _) (Nat.le_succ _) 3 _) (Nat.le_succ _) 4 _) (Nat.le_succ _) 5 _) (Nat.le_succ _) 6 _) (Nat.le_succ _) 7 _)
    | false =>
      rw [hca] at k5
      go_wp2_with fail
      (try simp only [Exit.inBlock, Exit.then])
      have hB := ct_set8 p1.out (Value.int .i64 0) (Value.string ⟨#[]⟩) (Value.string ⟨#[]⟩) (Value.int .i64 0) (Value.int .i64 0) (Value.bool false) (Value.int .u64 0) (Value.int .u64 0)
      refine bodyPost_ret (v := .tuple #[.agg #[Value.int .i64 0, Value.string ⟨#[]⟩, Value.string ⟨#[]⟩, Value.int .i64 0, Value.int .i64 0, Value.bool false, Value.int .u64 0, Value.int .u64 0], .int .i64 1]) ?_ rfl ?_
      · refine (res2 (fn := Try.f34) (p := 2) (u := 3) (ty := 52) rfl _ _ (w.heap.size + 1) 52 _ (0, 0) _ ?_ hB Try.underlying52 rfl (by kernel_rfl)).trans ?_
        · rfl
        · rfl
      · refine ⟨by rw [hR.out]; simp only [h0, hca, ne_eq, not_true_eq_false, if_false, Bool.not_false, if_true]; try rfl, ?_⟩
        clear hB
        exact (below_set (below_set (below_set (below_set (below_set (below_set (below_set (below_set hbw.out (Nat.le_succ _) 0 _) (Nat.le_succ _) 1 _) (Nat.le_succ _) 2 _) (Nat.le_succ _) 3 _) (Nat.le_succ _) 4 _) (Nat.le_succ _) 5 _) (Nat.le_succ _) 6 _) (Nat.le_succ _) 7 _)
  · go_wp2_with fail
    (try simp only [Exit.inBlock, Exit.then])
    have hB := ct_set8 p1.out (Value.int .i64 0) (Value.string ⟨#[]⟩) (Value.string ⟨#[]⟩) (Value.int .i64 0) (Value.int .i64 0) (Value.bool false) (Value.int .u64 0) (Value.int .u64 0)
    refine bodyPost_ret (v := .tuple #[.agg #[Value.int .i64 0, Value.string ⟨#[]⟩, Value.string ⟨#[]⟩, Value.int .i64 0, Value.int .i64 0, Value.bool false, Value.int .u64 0, Value.int .u64 0], .int .i64 E]) ?_ rfl ?_
    · refine (res2 (fn := Try.f34) (p := 2) (u := 3) (ty := 52) rfl _ _ (w.heap.size + 1) 52 _ (0, 0) _ ?_ hB Try.underlying52 rfl (by kernel_rfl)).trans ?_
      · rfl
      · rfl
    · refine ⟨by rw [hR.out]; simp only [h0, ne_eq, not_false_eq_true, if_true]; try rfl, ?_⟩
      clear hB
      exact (below_set (below_set (below_set (below_set (below_set (below_set (below_set (below_set hbw.out (Nat.le_succ _) 0 _) (Nat.le_succ _) 1 _) (Nat.le_succ _) 2 _) (Nat.le_succ _) 3 _) (Nat.le_succ _) 4 _) (Nat.le_succ _) 5 _) (Nat.le_succ _) 6 _) (Nat.le_succ _) 7 _)

set_option maxRecDepth 100000 in
set_option maxHeartbeats 4000000 in
theorem rroot_any (c : Ct) (w : World) (hk : CtOk (selfC c)) :
    Calls Try.prog 56 #[.agg (ctC c).toArray] w fun e w' => e = .returned (.tuple #[.agg (ctC (rootR c).1).toArray, .int .i64 (rootR c).2]) ∧ Below w.heap.size w w' := by
  have hv := Lib.hid (rvalid_any (selfC c))
  have hs := Lib.hid (fun w => rseal_any (selfC c) c.key w hk)
  have hR : Hid (rootR c = if validE (selfC c) ≠ 0 then (noCt, validE (selfC c)) else if !c.ca then (noCt, 1) else ({ selfC c with sl := sealC (selfC c) c.key }, 0)) := rfl
  generalize hE : validE (selfC c) = E at *
  generalize hS : sealC (selfC c) c.key = sv at *
  replace hE := Lib.hid hE
  replace hS := Lib.hid hS
  go_enter Try.func56, Try.ntmps56
  unfold ctC
  go_wp2_with fail
  refine (hv.out _).mono ?_; rintro e w2 ⟨rfl, hb⟩
  have p0 := Lib.hid (((Blk.new w 52 #[Value.int .i64 c.serial, Value.string c.subj, Value.string c.subj, Value.int .i64 c.from_, Value.int .i64 c.to_, Value.bool c.ca, Value.int .u64 c.key, Value.int .u64 c.sl]).alloc (.cells #[Value.int .i64 0, Value.string ⟨#[]⟩, Value.string ⟨#[]⟩, Value.int .i64 0, Value.int .i64 0, Value.bool false, Value.int .u64 0, Value.int .u64 0] 52)).below hb (by simp; omega))
  have p1 := (Blk.new (w.alloc (.cells #[Value.int .i64 c.serial, Value.string c.subj, Value.string c.subj, Value.int .i64 c.from_, Value.int .i64 c.to_, Value.bool c.ca, Value.int .u64 c.key, Value.int .u64 c.sl] 52)) 52 #[Value.int .i64 0, Value.string ⟨#[]⟩, Value.string ⟨#[]⟩, Value.int .i64 0, Value.int .i64 0, Value.bool false, Value.int .u64 0, Value.int .u64 0]).below hb (by simp)
  rw [show (w.alloc (.cells #[Value.int .i64 c.serial, Value.string c.subj, Value.string c.subj, Value.int .i64 c.from_, Value.int .i64 c.to_, Value.bool c.ca, Value.int .u64 c.key, Value.int .u64 c.sl] 52)).heap.size = w.heap.size + 1 by simp] at p1
  replace p1 := Lib.hid p1
  have hbw : Hid (Below w.heap.size w w2) := (((Below.refl _ w).alloc (Nat.le_refl _) _).alloc (by simp) _).trans (hb.mono (by simp; omega))
  clear hb hv
  obtain ⟨k0, k1, k2, k3, k4, k5, k6, k7, z0, z1, z2, z3, z4, z5, z6, z7⟩ := (show w2.cell? ⟨w.heap.size, 0, none⟩ = some (Value.int .i64 c.serial) ∧ w2.cell? ⟨w.heap.size, 1, none⟩ = some (Value.string c.subj) ∧ w2.cell? ⟨w.heap.size, 2, none⟩ = some (Value.string c.subj) ∧ w2.cell? ⟨w.heap.size, 3, none⟩ = some (Value.int .i64 c.from_) ∧ w2.cell? ⟨w.heap.size, 4, none⟩ = some (Value.int .i64 c.to_) ∧ w2.cell? ⟨w.heap.size, 5, none⟩ = some (Value.bool c.ca) ∧ w2.cell? ⟨w.heap.size, 6, none⟩ = some (Value.int .u64 c.key) ∧ w2.cell? ⟨w.heap.size, 7, none⟩ = some (Value.int .u64 c.sl) ∧ w2.cell? ⟨w.heap.size + 1, 0, none⟩ = some (Value.int .i64 0) ∧ w2.cell? ⟨w.heap.size + 1, 1, none⟩ = some (Value.string ⟨#[]⟩) ∧ w2.cell? ⟨w.heap.size + 1, 2, none⟩ = some (Value.string ⟨#[]⟩) ∧ w2.cell? ⟨w.heap.size + 1, 3, none⟩ = some (Value.int .i64 0) ∧ w2.cell? ⟨w.heap.size + 1, 4, none⟩ = some (Value.int .i64 0) ∧ w2.cell? ⟨w.heap.size + 1, 5, none⟩ = some (Value.bool false) ∧ w2.cell? ⟨w.heap.size + 1, 6, none⟩ = some (Value.int .u64 0) ∧ w2.cell? ⟨w.heap.size + 1, 7, none⟩ = some (Value.int .u64 0) from ⟨p0.out.cell 0, p0.out.cell 1, p0.out.cell 2, p0.out.cell 3, p0.out.cell 4, p0.out.cell 5, p0.out.cell 6, p0.out.cell 7, p1.out.cell 0, p1.out.cell 1, p1.out.cell 2, p1.out.cell 3, p1.out.cell 4, p1.out.cell 5, p1.out.cell 6, p1.out.cell 7⟩)
  obtain ⟨f0, f1, f2, f3, f4, f5, f6, f7, g0, g1, g2, g3, g4, g5, g6, g7⟩ := (show w2.frozen? ⟨w.heap.size, 0, none⟩ = false ∧ w2.frozen? ⟨w.heap.size, 1, none⟩ = false ∧ w2.frozen? ⟨w.heap.size, 2, none⟩ = false ∧ w2.frozen? ⟨w.heap.size, 3, none⟩ = false ∧ w2.frozen? ⟨w.heap.size, 4, none⟩ = false ∧ w2.frozen? ⟨w.heap.size, 5, none⟩ = false ∧ w2.frozen? ⟨w.heap.size, 6, none⟩ = false ∧ w2.frozen? ⟨w.heap.size, 7, none⟩ = false ∧ w2.frozen? ⟨w.heap.size + 1, 0, none⟩ = false ∧ w2.frozen? ⟨w.heap.size + 1, 1, none⟩ = false ∧ w2.frozen? ⟨w.heap.size + 1, 2, none⟩ = false ∧ w2.frozen? ⟨w.heap.size + 1, 3, none⟩ = false ∧ w2.frozen? ⟨w.heap.size + 1, 4, none⟩ = false ∧ w2.frozen? ⟨w.heap.size + 1, 5, none⟩ = false ∧ w2.frozen? ⟨w.heap.size + 1, 6, none⟩ = false ∧ w2.frozen? ⟨w.heap.size + 1, 7, none⟩ = false from ⟨p0.out.frozen 0, p0.out.frozen 1, p0.out.frozen 2, p0.out.frozen 3, p0.out.frozen 4, p0.out.frozen 5, p0.out.frozen 6, p0.out.frozen 7, p1.out.frozen 0, p1.out.frozen 1, p1.out.frozen 2, p1.out.frozen 3, p1.out.frozen 4, p1.out.frozen 5, p1.out.frozen 6, p1.out.frozen 7⟩)
  by_cases h0 : E = 0
  · cases hca : c.ca with
    | true =>
      rw [hca] at k5
      go_wp2_with fail
      clear k0 k1 k2 k3 k4 k5 k6 k7 z0 z1 z2 z3 z4 z5 z6 z7 f0 f1 f2 f3 f4 f5 f6 f7 g0 g1 g2 g3 g4 g5 g6 g7
      have hs2 := hs.out
      simp only [ctC, selfC, hca] at hs2
      refine (hs2 _).mono ?_; rintro e w3 ⟨rfl, hb3⟩
      have p0 := Lib.hid (p0.out.below hb3 p0.out.lt)
      have p1 := Lib.hid (p1.out.below hb3 p1.out.lt)
      have hbw := Lib.hid (hbw.out.trans (hb3.mono hbw.out.size))
      clear hb3 hs hs2
      obtain ⟨k0, k1, k2, k3, k4, k5, k6, k7, z0, z1, z2, z3, z4, z5, z6, z7⟩ := (show w3.cell? ⟨w.heap.size, 0, none⟩ = some (Value.int .i64 c.serial) ∧ w3.cell? ⟨w.heap.size, 1, none⟩ = some (Value.string c.subj) ∧ w3.cell? ⟨w.heap.size, 2, none⟩ = some (Value.string c.subj) ∧ w3.cell? ⟨w.heap.size, 3, none⟩ = some (Value.int .i64 c.from_) ∧ w3.cell? ⟨w.heap.size, 4, none⟩ = some (Value.int .i64 c.to_) ∧ w3.cell? ⟨w.heap.size, 5, none⟩ = some (Value.bool c.ca) ∧ w3.cell? ⟨w.heap.size, 6, none⟩ = some (Value.int .u64 c.key) ∧ w3.cell? ⟨w.heap.size, 7, none⟩ = some (Value.int .u64 c.sl) ∧ w3.cell? ⟨w.heap.size + 1, 0, none⟩ = some (Value.int .i64 0) ∧ w3.cell? ⟨w.heap.size + 1, 1, none⟩ = some (Value.string ⟨#[]⟩) ∧ w3.cell? ⟨w.heap.size + 1, 2, none⟩ = some (Value.string ⟨#[]⟩) ∧ w3.cell? ⟨w.heap.size + 1, 3, none⟩ = some (Value.int .i64 0) ∧ w3.cell? ⟨w.heap.size + 1, 4, none⟩ = some (Value.int .i64 0) ∧ w3.cell? ⟨w.heap.size + 1, 5, none⟩ = some (Value.bool false) ∧ w3.cell? ⟨w.heap.size + 1, 6, none⟩ = some (Value.int .u64 0) ∧ w3.cell? ⟨w.heap.size + 1, 7, none⟩ = some (Value.int .u64 0) from ⟨p0.out.cell 0, p0.out.cell 1, p0.out.cell 2, p0.out.cell 3, p0.out.cell 4, p0.out.cell 5, p0.out.cell 6, p0.out.cell 7, p1.out.cell 0, p1.out.cell 1, p1.out.cell 2, p1.out.cell 3, p1.out.cell 4, p1.out.cell 5, p1.out.cell 6, p1.out.cell 7⟩)
      obtain ⟨f0, f1, f2, f3, f4, f5, f6, f7, g0, g1, g2, g3, g4, g5, g6, g7⟩ := (show w3.frozen? ⟨w.heap.size, 0, none⟩ = false ∧ w3.frozen? ⟨w.heap.size, 1, none⟩ = false ∧ w3.frozen? ⟨w.heap.size, 2, none⟩ = false ∧ w3.frozen? ⟨w.heap.size, 3, none⟩ = false ∧ w3.frozen? ⟨w.heap.size, 4, none⟩ = false ∧ w3.frozen? ⟨w.heap.size, 5, none⟩ = false ∧ w3.frozen? ⟨w.heap.size, 6, none⟩ = false ∧ w3.frozen? ⟨w.heap.size, 7, none⟩ = false ∧ w3.frozen? ⟨w.heap.size + 1, 0, none⟩ = false ∧ w3.frozen? ⟨w.heap.size + 1, 1, none⟩ = false ∧ w3.frozen? ⟨w.heap.size + 1, 2, none⟩ = false ∧ w3.frozen? ⟨w.heap.size + 1, 3, none⟩ = false ∧ w3.frozen? ⟨w.heap.size + 1, 4, none⟩ = false ∧ w3.frozen? ⟨w.heap.size + 1, 5, none⟩ = false ∧ w3.frozen? ⟨w.heap.size + 1, 6, none⟩ = false ∧ w3.frozen? ⟨w.heap.size + 1, 7, none⟩ = false from ⟨p0.out.frozen 0, p0.out.frozen 1, p0.out.frozen 2, p0.out.frozen 3, p0.out.frozen 4, p0.out.frozen 5, p0.out.frozen 6, p0.out.frozen 7, p1.out.frozen 0, p1.out.frozen 1, p1.out.frozen 2, p1.out.frozen 3, p1.out.frozen 4, p1.out.frozen 5, p1.out.frozen 6, p1.out.frozen 7⟩)
      rw [hca] at k5
      go_wp2_with fail
      (try simp only [Exit.inBlock, Exit.then])
      have hB := ct_set8 (p1.out.far (p := ⟨w.heap.size, 7, none⟩) (by simp) (Value.int .u64 sv)) (Value.int .i64 c.serial) (Value.string c.subj) (Value.string c.subj) (Value.int .i64 c.from_) (Value.int .i64 c.to_) (Value.bool true) (Value.int .u64 c.key) (Value.int .u64 sv)
      refine bodyPost_ret (v := .tuple #[.agg #[Value.int .i64 c.serial, Value.string c.subj, Value.string c.subj, Value.int .i64 c.from_, Value.int .i64 c.to_, Value.bool true, Value.int .u64 c.key, Value.int .u64 sv], .int .i64 0]) ?_ rfl ?_
      · refine (res2 (fn := Try.f56) (p := 2) (u := 3) (ty := 52) rfl _ _ (w.heap.size + 1) 52 _ (0, 0) _ ?_ hB Try.underlying52 rfl (by kernel_rfl)).trans ?_
        · rfl
        · rfl
      · refine ⟨by rw [hR.out]; simp only [h0, hca, ne_eq, not_true_eq_false, if_false, Bool.not_true, Bool.false_eq_true, ctC, selfC]; try rfl, ?_⟩
        clear hB
        exact (below_set (below_set (below_set (below_set (below_set (below_set (below_set (below_set (below_set hbw.out (Nat.le_refl _) 7 _) (Nat.le_succ _) 0 _) (Nat.le_succ _) 1 _) (Nat.le_succ _) 2 _) (Nat.le_succ _) 3 _) (Nat.le_succ _) 4 _) (Nat.le_succ _) 5 _) (Nat.le_succ _) 6 _) (Nat.le_succ _) 7 _)
    | false =>
      rw [hca] at k5
      go_wp2_with fail
      (try simp only [Exit.inBlock, Exit.then])
      have hB := ct_set8 p1.out (Value.int .i64 0) (Value.string ⟨#[]⟩) (Value.string ⟨#[]⟩) (Value.int .i64 0) (Value.int .i64 0) (Value.bool false) (Value.int .u64 0) (Value.int .u64 0)
      refine bodyPost_ret (v := .tuple #[.agg #[Value.int .i64 0, Value.string ⟨#[]⟩, Value.string ⟨#[]⟩, Value.int .i64 0, Value.int .i64 0, Value.bool false, Value.int .u64 0, Value.int .u64 0], .int .i64 1]) ?_ rfl ?_
      · refine (res2 (fn := Try.f56) (p := 2) (u := 3) (ty := 52) rfl _ _ (w.heap.size + 1) 52 _ (0, 0) _ ?_ hB Try.underlying52 rfl (by kernel_rfl)).trans ?_
        · rfl
        · rfl
      · refine ⟨by rw [hR.out]; simp only [h0, hca, ne_eq, not_true_eq_false, if_false, Bool.not_false, if_true]; try rfl, ?_⟩
        clear hB
        exact (below_set (below_set (below_set (below_set (below_set (below_set (below_set (below_set hbw.out (Nat.le_succ _) 0 _) (Nat.le_succ _) 1 _) (Nat.le_succ _) 2 _) (Nat.le_succ _) 3 _) (Nat.le_succ _) 4 _) (Nat.le_succ _) 5 _) (Nat.le_succ _) 6 _) (Nat.le_succ _) 7 _)
  · go_wp2_with fail
    (try simp only [Exit.inBlock, Exit.then])
    have hB := ct_set8 p1.out (Value.int .i64 0) (Value.string ⟨#[]⟩) (Value.string ⟨#[]⟩) (Value.int .i64 0) (Value.int .i64 0) (Value.bool false) (Value.int .u64 0) (Value.int .u64 0)
    refine bodyPost_ret (v := .tuple #[.agg #[Value.int .i64 0, Value.string ⟨#[]⟩, Value.string ⟨#[]⟩, Value.int .i64 0, Value.int .i64 0, Value.bool false, Value.int .u64 0, Value.int .u64 0], .int .i64 E]) ?_ rfl ?_
    · refine (res2 (fn := Try.f56) (p := 2) (u := 3) (ty := 52) rfl _ _ (w.heap.size + 1) 52 _ (0, 0) _ ?_ hB Try.underlying52 rfl (by kernel_rfl)).trans ?_
      · rfl
      · rfl
    · refine ⟨by rw [hR.out]; simp only [h0, ne_eq, not_false_eq_true, if_true]; try rfl, ?_⟩
      clear hB
      exact (below_set (below_set (below_set (below_set (below_set (below_set (below_set (below_set hbw.out (Nat.le_succ _) 0 _) (Nat.le_succ _) 1 _) (Nat.le_succ _) 2 _) (Nat.le_succ _) 3 _) (Nat.le_succ _) 4 _) (Nat.le_succ _) 5 _) (Nat.le_succ _) 6 _) (Nat.le_succ _) 7 _)

end Go.Proofs.Ytiggpgeldigknaa
