/- Certs: Issue of both. -/
import Derived.Test.YtiggpgeldigknaaCE
set_option linter.unusedVariables false
set_option linter.unusedSimpArgs false
namespace Go.Proofs.Ytiggpgeldigknaa
open Go.RowKit
def issC (c b : Ct) : Ct := { c with iss := b.subj }
def outB (c b : Ct) : Bool := decide (c.from_ < b.from_) || decide (b.to_ < c.to_)
def issueR (c b : Ct) : Ct × Int := if validE (issC c b) ≠ 0 then (noCt, validE (issC c b)) else if validE b ≠ 0 then (noCt, validE b) else if !b.ca then (noCt, 14) else if outB c b then (noCt, 12) else ({ issC c b with sl := sealC (issC c b) b.key }, 0)
set_option maxRecDepth 100000 in
set_option maxHeartbeats 8000000 in
theorem issue_any (c b : Ct) (w : World) (hk : CtOk (issC c b)) :
    Calls Try.prog 35 #[.agg (ctC c).toArray, .agg (ctC b).toArray] w fun e w' => e = .returned (.tuple #[.agg (ctC (issueR c b).1).toArray, .int .i64 (issueR c b).2]) ∧ Below w.heap.size w w' := by
  have hv := Lib.hid (valid_any (issC c b))
  have hvb := Lib.hid (valid_any b)
  have hs := Lib.hid (fun w => sealed_any (issC c b) b.key w hk)
  have hR : Hid (issueR c b = if validE (issC c b) ≠ 0 then (noCt, validE (issC c b)) else if validE b ≠ 0 then (noCt, validE b) else if !b.ca then (noCt, 14) else if outB c b then (noCt, 12) else ({ issC c b with sl := sealC (issC c b) b.key }, 0)) := rfl
  have hO : Hid (outB c b = (decide (c.from_ < b.from_) || decide (b.to_ < c.to_))) := rfl
  generalize outB c b = ob at *
  generalize hE : validE (issC c b) = E at *
  generalize hF : validE b = F at *
  generalize hS : sealC (issC c b) b.key = sv at *
  replace hE := Lib.hid hE
  replace hF := Lib.hid hF
  replace hS := Lib.hid hS
  go_enter Try.func35, Try.ntmps35
  unfold ctC
  go_wp2_with fail
  have p0 := (((Blk.new w 52 #[Value.int .i64 c.serial, Value.string c.subj, Value.string b.subj, Value.int .i64 c.from_, Value.int .i64 c.to_, Value.bool c.ca, Value.int .u64 c.key, Value.int .u64 c.sl]).alloc (.cells #[Value.int .i64 b.serial, Value.string b.subj, Value.string b.iss, Value.int .i64 b.from_, Value.int .i64 b.to_, Value.bool b.ca, Value.int .u64 b.key, Value.int .u64 b.sl] 52)).alloc (.cells #[Value.int .i64 0, Value.string ⟨#[]⟩, Value.string ⟨#[]⟩, Value.int .i64 0, Value.int .i64 0, Value.bool false, Value.int .u64 0, Value.int .u64 0] 52))
  have p1 := ((Blk.new (w.alloc (.cells #[Value.int .i64 c.serial, Value.string c.subj, Value.string b.subj, Value.int .i64 c.from_, Value.int .i64 c.to_, Value.bool c.ca, Value.int .u64 c.key, Value.int .u64 c.sl] 52)) 52 #[Value.int .i64 b.serial, Value.string b.subj, Value.string b.iss, Value.int .i64 b.from_, Value.int .i64 b.to_, Value.bool b.ca, Value.int .u64 b.key, Value.int .u64 b.sl]).alloc (.cells #[Value.int .i64 0, Value.string ⟨#[]⟩, Value.string ⟨#[]⟩, Value.int .i64 0, Value.int .i64 0, Value.bool false, Value.int .u64 0, Value.int .u64 0] 52))
  have p2 := (Blk.new ((w.alloc (.cells #[Value.int .i64 c.serial, Value.string c.subj, Value.string b.subj, Value.int .i64 c.from_, Value.int .i64 c.to_, Value.bool c.ca, Value.int .u64 c.key, Value.int .u64 c.sl] 52)).alloc (.cells #[Value.int .i64 b.serial, Value.string b.subj, Value.string b.iss, Value.int .i64 b.from_, Value.int .i64 b.to_, Value.bool b.ca, Value.int .u64 b.key, Value.int .u64 b.sl] 52)) 52 #[Value.int .i64 0, Value.string ⟨#[]⟩, Value.string ⟨#[]⟩, Value.int .i64 0, Value.int .i64 0, Value.bool false, Value.int .u64 0, Value.int .u64 0])
  have hbw : Hid (Below w.heap.size w (((w.alloc (.cells #[Value.int .i64 c.serial, Value.string c.subj, Value.string b.subj, Value.int .i64 c.from_, Value.int .i64 c.to_, Value.bool c.ca, Value.int .u64 c.key, Value.int .u64 c.sl] 52)).alloc (.cells #[Value.int .i64 b.serial, Value.string b.subj, Value.string b.iss, Value.int .i64 b.from_, Value.int .i64 b.to_, Value.bool b.ca, Value.int .u64 b.key, Value.int .u64 b.sl] 52)).alloc (.cells #[Value.int .i64 0, Value.string ⟨#[]⟩, Value.string ⟨#[]⟩, Value.int .i64 0, Value.int .i64 0, Value.bool false, Value.int .u64 0, Value.int .u64 0] 52))) := (((Below.refl _ w).alloc (Nat.le_refl _) _).alloc (by simp) _).alloc (by simp; omega) _
  rw [show (w.alloc (.cells #[Value.int .i64 c.serial, Value.string c.subj, Value.string b.subj, Value.int .i64 c.from_, Value.int .i64 c.to_, Value.bool c.ca, Value.int .u64 c.key, Value.int .u64 c.sl] 52)).heap.size = w.heap.size + 1 by simp] at p1
  rw [show ((w.alloc (.cells #[Value.int .i64 c.serial, Value.string c.subj, Value.string b.subj, Value.int .i64 c.from_, Value.int .i64 c.to_, Value.bool c.ca, Value.int .u64 c.key, Value.int .u64 c.sl] 52)).alloc (.cells #[Value.int .i64 b.serial, Value.string b.subj, Value.string b.iss, Value.int .i64 b.from_, Value.int .i64 b.to_, Value.bool b.ca, Value.int .u64 b.key, Value.int .u64 b.sl] 52)).heap.size = w.heap.size + 2 by simp] at p2
  generalize ((w.alloc (.cells #[Value.int .i64 c.serial, Value.string c.subj, Value.string b.subj, Value.int .i64 c.from_, Value.int .i64 c.to_, Value.bool c.ca, Value.int .u64 c.key, Value.int .u64 c.sl] 52)).alloc (.cells #[Value.int .i64 b.serial, Value.string b.subj, Value.string b.iss, Value.int .i64 b.from_, Value.int .i64 b.to_, Value.bool b.ca, Value.int .u64 b.key, Value.int .u64 b.sl] 52)).alloc (.cells #[Value.int .i64 0, Value.string ⟨#[]⟩, Value.string ⟨#[]⟩, Value.int .i64 0, Value.int .i64 0, Value.bool false, Value.int .u64 0, Value.int .u64 0] 52) = w1 at *
  replace p0 := Lib.hid p0
  replace p1 := Lib.hid p1
  replace p2 := Lib.hid p2
  refine (hv.out _).mono ?_; rintro e w2 ⟨rfl, hb⟩
  have p0 := Lib.hid (p0.out.below hb p0.out.lt)
  have p1 := Lib.hid (p1.out.below hb p1.out.lt)
  have p2 := Lib.hid (p2.out.below hb p2.out.lt)
  have hbw := Lib.hid (hbw.out.trans (hb.mono hbw.out.size))
  clear hb hv
  obtain ⟨k0, k1, k2, k3, k4, k5, k6, k7, b0, b1, b2, b3, b4, b5, b6, b7, z0, z1, z2, z3, z4, z5, z6, z7⟩ := (show w2.cell? ⟨w.heap.size, 0, none⟩ = some (Value.int .i64 c.serial) ∧ w2.cell? ⟨w.heap.size, 1, none⟩ = some (Value.string c.subj) ∧ w2.cell? ⟨w.heap.size, 2, none⟩ = some (Value.string b.subj) ∧ w2.cell? ⟨w.heap.size, 3, none⟩ = some (Value.int .i64 c.from_) ∧ w2.cell? ⟨w.heap.size, 4, none⟩ = some (Value.int .i64 c.to_) ∧ w2.cell? ⟨w.heap.size, 5, none⟩ = some (Value.bool c.ca) ∧ w2.cell? ⟨w.heap.size, 6, none⟩ = some (Value.int .u64 c.key) ∧ w2.cell? ⟨w.heap.size, 7, none⟩ = some (Value.int .u64 c.sl) ∧ w2.cell? ⟨w.heap.size + 1, 0, none⟩ = some (Value.int .i64 b.serial) ∧ w2.cell? ⟨w.heap.size + 1, 1, none⟩ = some (Value.string b.subj) ∧ w2.cell? ⟨w.heap.size + 1, 2, none⟩ = some (Value.string b.iss) ∧ w2.cell? ⟨w.heap.size + 1, 3, none⟩ = some (Value.int .i64 b.from_) ∧ w2.cell? ⟨w.heap.size + 1, 4, none⟩ = some (Value.int .i64 b.to_) ∧ w2.cell? ⟨w.heap.size + 1, 5, none⟩ = some (Value.bool b.ca) ∧ w2.cell? ⟨w.heap.size + 1, 6, none⟩ = some (Value.int .u64 b.key) ∧ w2.cell? ⟨w.heap.size + 1, 7, none⟩ = some (Value.int .u64 b.sl) ∧ w2.cell? ⟨w.heap.size + 2, 0, none⟩ = some (Value.int .i64 0) ∧ w2.cell? ⟨w.heap.size + 2, 1, none⟩ = some (Value.string ⟨#[]⟩) ∧ w2.cell? ⟨w.heap.size + 2, 2, none⟩ = some (Value.string ⟨#[]⟩) ∧ w2.cell? ⟨w.heap.size + 2, 3, none⟩ = some (Value.int .i64 0) ∧ w2.cell? ⟨w.heap.size + 2, 4, none⟩ = some (Value.int .i64 0) ∧ w2.cell? ⟨w.heap.size + 2, 5, none⟩ = some (Value.bool false) ∧ w2.cell? ⟨w.heap.size + 2, 6, none⟩ = some (Value.int .u64 0) ∧ w2.cell? ⟨w.heap.size + 2, 7, none⟩ = some (Value.int .u64 0) from ⟨p0.out.cell 0, p0.out.cell 1, p0.out.cell 2, p0.out.cell 3, p0.out.cell 4, p0.out.cell 5, p0.out.cell 6, p0.out.cell 7, p1.out.cell 0, p1.out.cell 1, p1.out.cell 2, p1.out.cell 3, p1.out.cell 4, p1.out.cell 5, p1.out.cell 6, p1.out.cell 7, p2.out.cell 0, p2.out.cell 1, p2.out.cell 2, p2.out.cell 3, p2.out.cell 4, p2.out.cell 5, p2.out.cell 6, p2.out.cell 7⟩)
  obtain ⟨f0, f1, f2, f3, f4, f5, f6, f7, g0, g1, g2, g3, g4, g5, g6, g7⟩ := (show w2.frozen? ⟨w.heap.size, 0, none⟩ = false ∧ w2.frozen? ⟨w.heap.size, 1, none⟩ = false ∧ w2.frozen? ⟨w.heap.size, 2, none⟩ = false ∧ w2.frozen? ⟨w.heap.size, 3, none⟩ = false ∧ w2.frozen? ⟨w.heap.size, 4, none⟩ = false ∧ w2.frozen? ⟨w.heap.size, 5, none⟩ = false ∧ w2.frozen? ⟨w.heap.size, 6, none⟩ = false ∧ w2.frozen? ⟨w.heap.size, 7, none⟩ = false ∧ w2.frozen? ⟨w.heap.size + 2, 0, none⟩ = false ∧ w2.frozen? ⟨w.heap.size + 2, 1, none⟩ = false ∧ w2.frozen? ⟨w.heap.size + 2, 2, none⟩ = false ∧ w2.frozen? ⟨w.heap.size + 2, 3, none⟩ = false ∧ w2.frozen? ⟨w.heap.size + 2, 4, none⟩ = false ∧ w2.frozen? ⟨w.heap.size + 2, 5, none⟩ = false ∧ w2.frozen? ⟨w.heap.size + 2, 6, none⟩ = false ∧ w2.frozen? ⟨w.heap.size + 2, 7, none⟩ = false from ⟨p0.out.frozen 0, p0.out.frozen 1, p0.out.frozen 2, p0.out.frozen 3, p0.out.frozen 4, p0.out.frozen 5, p0.out.frozen 6, p0.out.frozen 7, p2.out.frozen 0, p2.out.frozen 1, p2.out.frozen 2, p2.out.frozen 3, p2.out.frozen 4, p2.out.frozen 5, p2.out.frozen 6, p2.out.frozen 7⟩)
  by_cases h0 : E = 0
  · go_wp2_with fail
    clear k0 k1 k2 k3 k4 k5 k6 k7 b0 b1 b2 b3 b4 b5 b6 b7 z0 z1 z2 z3 z4 z5 z6 z7 f0 f1 f2 f3 f4 f5 f6 f7 g0 g1 g2 g3 g4 g5 g6 g7
    refine (hvb.out _).mono ?_; rintro e w3 ⟨rfl, hb⟩
    have p0 := Lib.hid (p0.out.below hb p0.out.lt)
    have p1 := Lib.hid (p1.out.below hb p1.out.lt)
    have p2 := Lib.hid (p2.out.below hb p2.out.lt)
    have hbw := Lib.hid (hbw.out.trans (hb.mono hbw.out.size))
    clear hb hvb
    obtain ⟨k0, k1, k2, k3, k4, k5, k6, k7, b0, b1, b2, b3, b4, b5, b6, b7, z0, z1, z2, z3, z4, z5, z6, z7⟩ := (show w3.cell? ⟨w.heap.size, 0, none⟩ = some (Value.int .i64 c.serial) ∧ w3.cell? ⟨w.heap.size, 1, none⟩ = some (Value.string c.subj) ∧ w3.cell? ⟨w.heap.size, 2, none⟩ = some (Value.string b.subj) ∧ w3.cell? ⟨w.heap.size, 3, none⟩ = some (Value.int .i64 c.from_) ∧ w3.cell? ⟨w.heap.size, 4, none⟩ = some (Value.int .i64 c.to_) ∧ w3.cell? ⟨w.heap.size, 5, none⟩ = some (Value.bool c.ca) ∧ w3.cell? ⟨w.heap.size, 6, none⟩ = some (Value.int .u64 c.key) ∧ w3.cell? ⟨w.heap.size, 7, none⟩ = some (Value.int .u64 c.sl) ∧ w3.cell? ⟨w.heap.size + 1, 0, none⟩ = some (Value.int .i64 b.serial) ∧ w3.cell? ⟨w.heap.size + 1, 1, none⟩ = some (Value.string b.subj) ∧ w3.cell? ⟨w.heap.size + 1, 2, none⟩ = some (Value.string b.iss) ∧ w3.cell? ⟨w.heap.size + 1, 3, none⟩ = some (Value.int .i64 b.from_) ∧ w3.cell? ⟨w.heap.size + 1, 4, none⟩ = some (Value.int .i64 b.to_) ∧ w3.cell? ⟨w.heap.size + 1, 5, none⟩ = some (Value.bool b.ca) ∧ w3.cell? ⟨w.heap.size + 1, 6, none⟩ = some (Value.int .u64 b.key) ∧ w3.cell? ⟨w.heap.size + 1, 7, none⟩ = some (Value.int .u64 b.sl) ∧ w3.cell? ⟨w.heap.size + 2, 0, none⟩ = some (Value.int .i64 0) ∧ w3.cell? ⟨w.heap.size + 2, 1, none⟩ = some (Value.string ⟨#[]⟩) ∧ w3.cell? ⟨w.heap.size + 2, 2, none⟩ = some (Value.string ⟨#[]⟩) ∧ w3.cell? ⟨w.heap.size + 2, 3, none⟩ = some (Value.int .i64 0) ∧ w3.cell? ⟨w.heap.size + 2, 4, none⟩ = some (Value.int .i64 0) ∧ w3.cell? ⟨w.heap.size + 2, 5, none⟩ = some (Value.bool false) ∧ w3.cell? ⟨w.heap.size + 2, 6, none⟩ = some (Value.int .u64 0) ∧ w3.cell? ⟨w.heap.size + 2, 7, none⟩ = some (Value.int .u64 0) from ⟨p0.out.cell 0, p0.out.cell 1, p0.out.cell 2, p0.out.cell 3, p0.out.cell 4, p0.out.cell 5, p0.out.cell 6, p0.out.cell 7, p1.out.cell 0, p1.out.cell 1, p1.out.cell 2, p1.out.cell 3, p1.out.cell 4, p1.out.cell 5, p1.out.cell 6, p1.out.cell 7, p2.out.cell 0, p2.out.cell 1, p2.out.cell 2, p2.out.cell 3, p2.out.cell 4, p2.out.cell 5, p2.out.cell 6, p2.out.cell 7⟩)
    obtain ⟨f0, f1, f2, f3, f4, f5, f6, f7, g0, g1, g2, g3, g4, g5, g6, g7⟩ := (show w3.frozen? ⟨w.heap.size, 0, none⟩ = false ∧ w3.frozen? ⟨w.heap.size, 1, none⟩ = false ∧ w3.frozen? ⟨w.heap.size, 2, none⟩ = false ∧ w3.frozen? ⟨w.heap.size, 3, none⟩ = false ∧ w3.frozen? ⟨w.heap.size, 4, none⟩ = false ∧ w3.frozen? ⟨w.heap.size, 5, none⟩ = false ∧ w3.frozen? ⟨w.heap.size, 6, none⟩ = false ∧ w3.frozen? ⟨w.heap.size, 7, none⟩ = false ∧ w3.frozen? ⟨w.heap.size + 2, 0, none⟩ = false ∧ w3.frozen? ⟨w.heap.size + 2, 1, none⟩ = false ∧ w3.frozen? ⟨w.heap.size + 2, 2, none⟩ = false ∧ w3.frozen? ⟨w.heap.size + 2, 3, none⟩ = false ∧ w3.frozen? ⟨w.heap.size + 2, 4, none⟩ = false ∧ w3.frozen? ⟨w.heap.size + 2, 5, none⟩ = false ∧ w3.frozen? ⟨w.heap.size + 2, 6, none⟩ = false ∧ w3.frozen? ⟨w.heap.size + 2, 7, none⟩ = false from ⟨p0.out.frozen 0, p0.out.frozen 1, p0.out.frozen 2, p0.out.frozen 3, p0.out.frozen 4, p0.out.frozen 5, p0.out.frozen 6, p0.out.frozen 7, p2.out.frozen 0, p2.out.frozen 1, p2.out.frozen 2, p2.out.frozen 3, p2.out.frozen 4, p2.out.frozen 5, p2.out.frozen 6, p2.out.frozen 7⟩)
    by_cases h1 : F = 0
    · cases hca : b.ca with
      | true =>
        rw [hca] at b5
        by_cases h2 : c.from_ < b.from_
        · go_wp2_with fail
          (try simp only [Exit.inBlock, Exit.then])
          have hB := ct_set8 p2.out (Value.int .i64 0) (Value.string ⟨#[]⟩) (Value.string ⟨#[]⟩) (Value.int .i64 0) (Value.int .i64 0) (Value.bool false) (Value.int .u64 0) (Value.int .u64 0)
          refine bodyPost_ret (v := .tuple #[.agg #[Value.int .i64 0, Value.string ⟨#[]⟩, Value.string ⟨#[]⟩, Value.int .i64 0, Value.int .i64 0, Value.bool false, Value.int .u64 0, Value.int .u64 0], .int .i64 12]) ?_ rfl ?_
          · refine (res2 (fn := Try.f35) (p := 4) (u := 5) (ty := 52) rfl _ _ (w.heap.size + 2) 52 _ (0, 0) _ ?_ hB Try.underlying52 rfl (by kernel_rfl)).trans ?_
            · rfl
            · rfl
          · refine ⟨by rw [hR.out]; simp only [h0, h1, hca, hO.out, h2, decide_true, Bool.true_or, ne_eq, not_true_eq_false, if_false, Bool.not_true, Bool.false_eq_true, if_true]; try rfl, ?_⟩
            clear hB
            exact (below_set (below_set (below_set (below_set (below_set (below_set (below_set (below_set hbw.out (by omega) 0 _) (by omega) 1 _) (by omega) 2 _) (by omega) 3 _) (by omega) 4 _) (by omega) 5 _) (by omega) 6 _) (by omega) 7 _)
        · by_cases h3 : b.to_ < c.to_
          · go_wp2_with fail
            (try simp only [Exit.inBlock, Exit.then])
            have hB := ct_set8 p2.out (Value.int .i64 0) (Value.string ⟨#[]⟩) (Value.string ⟨#[]⟩) (Value.int .i64 0) (Value.int .i64 0) (Value.bool false) (Value.int .u64 0) (Value.int .u64 0)
            refine bodyPost_ret (v := .tuple #[.agg #[Value.int .i64 0, Value.string ⟨#[]⟩, Value.string ⟨#[]⟩, Value.int .i64 0, Value.int .i64 0, Value.bool false, Value.int .u64 0, Value.int .u64 0], .int .i64 12]) ?_ rfl ?_
            · refine (res2 (fn := Try.f35) (p := 4) (u := 5) (ty := 52) rfl _ _ (w.heap.size + 2) 52 _ (0, 0) _ ?_ hB Try.underlying52 rfl (by kernel_rfl)).trans ?_
              · rfl
              · rfl
            · refine ⟨by rw [hR.out]; simp only [h0, h1, hca, hO.out, h2, h3, decide_true, decide_false, Bool.or_true, ne_eq, not_true_eq_false, if_false, Bool.not_true, Bool.false_eq_true, if_true]; try rfl, ?_⟩
              clear hB
              exact (below_set (below_set (below_set (below_set (below_set (below_set (below_set (below_set hbw.out (by omega) 0 _) (by omega) 1 _) (by omega) 2 _) (by omega) 3 _) (by omega) 4 _) (by omega) 5 _) (by omega) 6 _) (by omega) 7 _)
          · have hO0 : Hid (ob = false) := by show _ = _; rw [hO.out]; simp [h2, h3]
            go_wp2_with fail
            clear k0 k1 k2 k3 k4 k5 k6 k7 b0 b1 b2 b3 b4 b5 b6 b7 z0 z1 z2 z3 z4 z5 z6 z7 f0 f1 f2 f3 f4 f5 f6 f7 g0 g1 g2 g3 g4 g5 g6 g7
            have hs2 := hs.out
            simp only [ctC, issC] at hs2
            refine (hs2 _).mono ?_; rintro e w4 ⟨rfl, hb⟩
            have p0 := Lib.hid (p0.out.below hb p0.out.lt)
            have p1 := Lib.hid (p1.out.below hb p1.out.lt)
            have p2 := Lib.hid (p2.out.below hb p2.out.lt)
            have hbw := Lib.hid (hbw.out.trans (hb.mono hbw.out.size))
            clear hb hs hs2
            obtain ⟨k0, k1, k2, k3, k4, k5, k6, k7, b0, b1, b2, b3, b4, b5, b6, b7, z0, z1, z2, z3, z4, z5, z6, z7⟩ := (show w4.cell? ⟨w.heap.size, 0, none⟩ = some (Value.int .i64 c.serial) ∧ w4.cell? ⟨w.heap.size, 1, none⟩ = some (Value.string c.subj) ∧ w4.cell? ⟨w.heap.size, 2, none⟩ = some (Value.string b.subj) ∧ w4.cell? ⟨w.heap.size, 3, none⟩ = some (Value.int .i64 c.from_) ∧ w4.cell? ⟨w.heap.size, 4, none⟩ = some (Value.int .i64 c.to_) ∧ w4.cell? ⟨w.heap.size, 5, none⟩ = some (Value.bool c.ca) ∧ w4.cell? ⟨w.heap.size, 6, none⟩ = some (Value.int .u64 c.key) ∧ w4.cell? ⟨w.heap.size, 7, none⟩ = some (Value.int .u64 c.sl) ∧ w4.cell? ⟨w.heap.size + 1, 0, none⟩ = some (Value.int .i64 b.serial) ∧ w4.cell? ⟨w.heap.size + 1, 1, none⟩ = some (Value.string b.subj) ∧ w4.cell? ⟨w.heap.size + 1, 2, none⟩ = some (Value.string b.iss) ∧ w4.cell? ⟨w.heap.size + 1, 3, none⟩ = some (Value.int .i64 b.from_) ∧ w4.cell? ⟨w.heap.size + 1, 4, none⟩ = some (Value.int .i64 b.to_) ∧ w4.cell? ⟨w.heap.size + 1, 5, none⟩ = some (Value.bool b.ca) ∧ w4.cell? ⟨w.heap.size + 1, 6, none⟩ = some (Value.int .u64 b.key) ∧ w4.cell? ⟨w.heap.size + 1, 7, none⟩ = some (Value.int .u64 b.sl) ∧ w4.cell? ⟨w.heap.size + 2, 0, none⟩ = some (Value.int .i64 0) ∧ w4.cell? ⟨w.heap.size + 2, 1, none⟩ = some (Value.string ⟨#[]⟩) ∧ w4.cell? ⟨w.heap.size + 2, 2, none⟩ = some (Value.string ⟨#[]⟩) ∧ w4.cell? ⟨w.heap.size + 2, 3, none⟩ = some (Value.int .i64 0) ∧ w4.cell? ⟨w.heap.size + 2, 4, none⟩ = some (Value.int .i64 0) ∧ w4.cell? ⟨w.heap.size + 2, 5, none⟩ = some (Value.bool false) ∧ w4.cell? ⟨w.heap.size + 2, 6, none⟩ = some (Value.int .u64 0) ∧ w4.cell? ⟨w.heap.size + 2, 7, none⟩ = some (Value.int .u64 0) from ⟨p0.out.cell 0, p0.out.cell 1, p0.out.cell 2, p0.out.cell 3, p0.out.cell 4, p0.out.cell 5, p0.out.cell 6, p0.out.cell 7, p1.out.cell 0, p1.out.cell 1, p1.out.cell 2, p1.out.cell 3, p1.out.cell 4, p1.out.cell 5, p1.out.cell 6, p1.out.cell 7, p2.out.cell 0, p2.out.cell 1, p2.out.cell 2, p2.out.cell 3, p2.out.cell 4, p2.out.cell 5, p2.out.cell 6, p2.out.cell 7⟩)
            obtain ⟨f0, f1, f2, f3, f4, f5, f6, f7, g0, g1, g2, g3, g4, g5, g6, g7⟩ := (show w4.frozen? ⟨w.heap.size, 0, none⟩ = false ∧ w4.frozen? ⟨w.heap.size, 1, none⟩ = false ∧ w4.frozen? ⟨w.heap.size, 2, none⟩ = false ∧ w4.frozen? ⟨w.heap.size, 3, none⟩ = false ∧ w4.frozen? ⟨w.heap.size, 4, none⟩ = false ∧ w4.frozen? ⟨w.heap.size, 5, none⟩ = false ∧ w4.frozen? ⟨w.heap.size, 6, none⟩ = false ∧ w4.frozen? ⟨w.heap.size, 7, none⟩ = false ∧ w4.frozen? ⟨w.heap.size + 2, 0, none⟩ = false ∧ w4.frozen? ⟨w.heap.size + 2, 1, none⟩ = false ∧ w4.frozen? ⟨w.heap.size + 2, 2, none⟩ = false ∧ w4.frozen? ⟨w.heap.size + 2, 3, none⟩ = false ∧ w4.frozen? ⟨w.heap.size + 2, 4, none⟩ = false ∧ w4.frozen? ⟨w.heap.size + 2, 5, none⟩ = false ∧ w4.frozen? ⟨w.heap.size + 2, 6, none⟩ = false ∧ w4.frozen? ⟨w.heap.size + 2, 7, none⟩ = false from ⟨p0.out.frozen 0, p0.out.frozen 1, p0.out.frozen 2, p0.out.frozen 3, p0.out.frozen 4, p0.out.frozen 5, p0.out.frozen 6, p0.out.frozen 7, p2.out.frozen 0, p2.out.frozen 1, p2.out.frozen 2, p2.out.frozen 3, p2.out.frozen 4, p2.out.frozen 5, p2.out.frozen 6, p2.out.frozen 7⟩)
            go_wp2_with fail
            (try simp only [Exit.inBlock, Exit.then])
            have hB := ct_set8 p2.out (Value.int .i64 c.serial) (Value.string c.subj) (Value.string b.subj) (Value.int .i64 c.from_) (Value.int .i64 c.to_) (Value.bool c.ca) (Value.int .u64 c.key) (Value.int .u64 sv)
            refine bodyPost_ret (v := .tuple #[.agg #[Value.int .i64 c.serial, Value.string c.subj, Value.string b.subj, Value.int .i64 c.from_, Value.int .i64 c.to_, Value.bool c.ca, Value.int .u64 c.key, Value.int .u64 sv], .int .i64 0]) ?_ rfl ?_
            · refine (res2 (fn := Try.f35) (p := 4) (u := 5) (ty := 52) rfl _ _ (w.heap.size + 2) 52 _ (0, 0) _ ?_ hB Try.underlying52 rfl (by kernel_rfl)).trans ?_
              · rfl
              · rfl
            · refine ⟨by rw [hR.out]; simp only [h0, h1, hca, hO0.out, ne_eq, not_true_eq_false, if_false, Bool.not_true, Bool.false_eq_true, ctC, issC]; try rfl, ?_⟩
              clear hB
              exact (below_set (below_set (below_set (below_set (below_set (below_set (below_set (below_set hbw.out (by omega) 0 _) (by omega) 1 _) (by omega) 2 _) (by omega) 3 _) (by omega) 4 _) (by omega) 5 _) (by omega) 6 _) (by omega) 7 _)
      | false =>
        rw [hca] at b5
        go_wp2_with fail
        (try simp only [Exit.inBlock, Exit.then])
        have hB := ct_set8 p2.out (Value.int .i64 0) (Value.string ⟨#[]⟩) (Value.string ⟨#[]⟩) (Value.int .i64 0) (Value.int .i64 0) (Value.bool false) (Value.int .u64 0) (Value.int .u64 0)
        refine bodyPost_ret (v := .tuple #[.agg #[Value.int .i64 0, Value.string ⟨#[]⟩, Value.string ⟨#[]⟩, Value.int .i64 0, Value.int .i64 0, Value.bool false, Value.int .u64 0, Value.int .u64 0], .int .i64 14]) ?_ rfl ?_
        · refine (res2 (fn := Try.f35) (p := 4) (u := 5) (ty := 52) rfl _ _ (w.heap.size + 2) 52 _ (0, 0) _ ?_ hB Try.underlying52 rfl (by kernel_rfl)).trans ?_
          · rfl
          · rfl
        · refine ⟨by rw [hR.out]; simp only [h0, h1, hca, ne_eq, not_true_eq_false, if_false, Bool.not_false, if_true]; try rfl, ?_⟩
          clear hB
          exact (below_set (below_set (below_set (below_set (below_set (below_set (below_set (below_set hbw.out (by omega) 0 _) (by omega) 1 _) (by omega) 2 _) (by omega) 3 _) (by omega) 4 _) (by omega) 5 _) (by omega) 6 _) (by omega) 7 _)
    · go_wp2_with fail
      (try simp only [Exit.inBlock, Exit.then])
      have hB := ct_set8 p2.out (Value.int .i64 0) (Value.string ⟨#[]⟩) (Value.string ⟨#[]⟩) (Value.int .i64 0) (Value.int .i64 0) (Value.bool false) (Value.int .u64 0) (Value.int .u64 0)
      refine bodyPost_ret (v := .tuple #[.agg #[Value.int .i64 0, Value.string ⟨#[]⟩, Value.string ⟨#[]⟩, Value.int .i64 0, Value.int .i64 0, Value.bool false, Value.int .u64 0, Value.int .u64 0], .int .i64 F]) ?_ rfl ?_
      · refine (res2 (fn := Try.f35) (p := 4) (u := 5) (ty := 52) rfl _ _ (w.heap.size + 2) 52 _ (0, 0) _ ?_ hB Try.underlying52 rfl (by kernel_rfl)).trans ?_
        · rfl
        · rfl
      · refine ⟨by rw [hR.out]; simp only [h0, h1, ne_eq, not_true_eq_false, not_false_eq_true, if_false, if_true]; try rfl, ?_⟩
        clear hB
        exact (below_set (below_set (below_set (below_set (below_set (below_set (below_set (below_set hbw.out (by omega) 0 _) (by omega) 1 _) (by omega) 2 _) (by omega) 3 _) (by omega) 4 _) (by omega) 5 _) (by omega) 6 _) (by omega) 7 _)
  · go_wp2_with fail
    (try simp only [Exit.inBlock, Exit.then])
    have hB := ct_set8 p2.out (Value.int .i64 0) (Value.string ⟨#[]⟩) (Value.string ⟨#[]⟩) (Value.int .i64 0) (Value.int .i64 0) (Value.bool false) (Value.int .u64 0) (Value.int .u64 0)
    refine bodyPost_ret (v := .tuple #[.agg #[Value.int .i64 0, Value.string ⟨#[]⟩, Value.string ⟨#[]⟩, Value.int .i64 0, Value.int .i64 0, Value.bool false, Value.int .u64 0, Value.int .u64 0], .int .i64 E]) ?_ rfl ?_
    · refine (res2 (fn := Try.f35) (p := 4) (u := 5) (ty := 52) rfl _ _ (w.heap.size + 2) 52 _ (0, 0) _ ?_ hB Try.underlying52 rfl (by kernel_rfl)).trans ?_
      · rfl
      · rfl
    · refine ⟨by rw [hR.out]; simp only [h0, ne_eq, not_false_eq_true, if_true]; try rfl, ?_⟩
      clear hB
      exact (below_set (below_set (below_set (below_set (below_set (below_set (below_set (below_set hbw.out (by omega) 0 _) (by omega) 1 _) (by omega) 2 _) (by omega) 3 _) (by omega) 4 _) (by omega) 5 _) (by omega) 6 _) (by omega) 7 _)

set_option maxRecDepth 100000 in
set_option maxHeartbeats 8000000 in
theorem rissue_any (c b : Ct) (w : World) (hk : CtOk (issC c b)) :
    Calls Try.prog 57 #[.agg (ctC c).toArray, .agg (ctC b).toArray] w fun e w' => e = .returned (.tuple #[.agg (ctC (issueR c b).1).toArray, .int .i64 (issueR c b).2]) ∧ Below w.heap.size w w' := by
  have hv := Lib.hid (rvalid_any (issC c b))
  have hvb := Lib.hid (rvalid_any b)
  have hs := Lib.hid (fun w => rseal_any (issC c b) b.key w hk)
  have hR : Hid (issueR c b = if validE (issC c b) ≠ 0 then (noCt, validE (issC c b)) else if validE b ≠ 0 then (noCt, validE b) else if !b.ca then (noCt, 14) else if outB c b then (noCt, 12) else ({ issC c b with sl := sealC (issC c b) b.key }, 0)) := rfl
  have hO : Hid (outB c b = (decide (c.from_ < b.from_) || decide (b.to_ < c.to_))) := rfl
  generalize outB c b = ob at *
  generalize hE : validE (issC c b) = E at *
  generalize hF : validE b = F at *
  generalize hS : sealC (issC c b) b.key = sv at *
  replace hE := Lib.hid hE
  replace hF := Lib.hid hF
  replace hS := Lib.hid hS
  go_enter Try.func57, Try.ntmps57
  unfold ctC
  go_wp2_with fail
  have p0 := (((Blk.new w 52 #[Value.int .i64 c.serial, Value.string c.subj, Value.string b.subj, Value.int .i64 c.from_, Value.int .i64 c.to_, Value.bool c.ca, Value.int .u64 c.key, Value.int .u64 c.sl]).alloc (.cells #[Value.int .i64 b.serial, Value.string b.subj, Value.string b.iss, Value.int .i64 b.from_, Value.int .i64 b.to_, Value.bool b.ca, Value.int .u64 b.key, Value.int .u64 b.sl] 52)).alloc (.cells #[Value.int .i64 0, Value.string ⟨#[]⟩, Value.string ⟨#[]⟩, Value.int .i64 0, Value.int .i64 0, Value.bool false, Value.int .u64 0, Value.int .u64 0] 52))
  have p1 := ((Blk.new (w.alloc (.cells #[Value.int .i64 c.serial, Value.string c.subj, Value.string b.subj, Value.int .i64 c.from_, Value.int .i64 c.to_, Value.bool c.ca, Value.int .u64 c.key, Value.int .u64 c.sl] 52)) 52 #[Value.int .i64 b.serial, Value.string b.subj, Value.string b.iss, Value.int .i64 b.from_, Value.int .i64 b.to_, Value.bool b.ca, Value.int .u64 b.key, Value.int .u64 b.sl]).alloc (.cells #[Value.int .i64 0, Value.string ⟨#[]⟩, Value.string ⟨#[]⟩, Value.int .i64 0, Value.int .i64 0, Value.bool false, Value.int .u64 0, Value.int .u64 0] 52))
  have p2 := (Blk.new ((w.alloc (.cells #[Value.int .i64 c.serial, Value.string c.subj, Value.string b.subj, Value.int .i64 c.from_, Value.int .i64 c.to_, Value.bool c.ca, Value.int .u64 c.key, Value.int .u64 c.sl] 52)).alloc (.cells #[Value.int .i64 b.serial, Value.string b.subj, Value.string b.iss, Value.int .i64 b.from_, Value.int .i64 b.to_, Value.bool b.ca, Value.int .u64 b.key, Value.int .u64 b.sl] 52)) 52 #[Value.int .i64 0, Value.string ⟨#[]⟩, Value.string ⟨#[]⟩, Value.int .i64 0, Value.int .i64 0, Value.bool false, Value.int .u64 0, Value.int .u64 0])
  have hbw : Hid (Below w.heap.size w (((w.alloc (.cells #[Value.int .i64 c.serial, Value.string c.subj, Value.string b.subj, Value.int .i64 c.from_, Value.int .i64 c.to_, Value.bool c.ca, Value.int .u64 c.key, Value.int .u64 c.sl] 52)).alloc (.cells #[Value.int .i64 b.serial, Value.string b.subj, Value.string b.iss, Value.int .i64 b.from_, Value.int .i64 b.to_, Value.bool b.ca, Value.int .u64 b.key, Value.int .u64 b.sl] 52)).alloc (.cells #[Value.int .i64 0, Value.string ⟨#[]⟩, Value.string ⟨#[]⟩, Value.int .i64 0, Value.int .i64 0, Value.bool false, Value.int .u64 0, Value.int .u64 0] 52))) := (((Below.refl _ w).alloc (Nat.le_refl _) _).alloc (by simp) _).alloc (by simp; omega) _
  rw [show (w.alloc (.cells #[Value.int .i64 c.serial, Value.string c.subj, Value.string b.subj, Value.int .i64 c.from_, Value.int .i64 c.to_, Value.bool c.ca, Value.int .u64 c.key, Value.int .u64 c.sl] 52)).heap.size = w.heap.size + 1 by simp] at p1
  rw [show ((w.alloc (.cells #[Value.int .i64 c.serial, Value.string c.subj, Value.string b.subj, Value.int .i64 c.from_, Value.int .i64 c.to_, Value.bool c.ca, Value.int .u64 c.key, Value.int .u64 c.sl] 52)).alloc (.cells #[Value.int .i64 b.serial, Value.string b.subj, Value.string b.iss, Value.int .i64 b.from_, Value.int .i64 b.to_, Value.bool b.ca, Value.int .u64 b.key, Value.int .u64 b.sl] 52)).heap.size = w.heap.size + 2 by simp] at p2
  generalize ((w.alloc (.cells #[Value.int .i64 c.serial, Value.string c.subj, Value.string b.subj, Value.int .i64 c.from_, Value.int .i64 c.to_, Value.bool c.ca, Value.int .u64 c.key, Value.int .u64 c.sl] 52)).alloc (.cells #[Value.int .i64 b.serial, Value.string b.subj, Value.string b.iss, Value.int .i64 b.from_, Value.int .i64 b.to_, Value.bool b.ca, Value.int .u64 b.key, Value.int .u64 b.sl] 52)).alloc (.cells #[Value.int .i64 0, Value.string ⟨#[]⟩, Value.string ⟨#[]⟩, Value.int .i64 0, Value.int .i64 0, Value.bool false, Value.int .u64 0, Value.int .u64 0] 52) = w1 at *
  replace p0 := Lib.hid p0
  replace p1 := Lib.hid p1
  replace p2 := Lib.hid p2
  refine (hv.out _).mono ?_; rintro e w2 ⟨rfl, hb⟩
  have p0 := Lib.hid (p0.out.below hb p0.out.lt)
  have p1 := Lib.hid (p1.out.below hb p1.out.lt)
  have p2 := Lib.hid (p2.out.below hb p2.out.lt)
  have hbw := Lib.hid (hbw.out.trans (hb.mono hbw.out.size))
  clear hb hv
  obtain ⟨k0, k1, k2, k3, k4, k5, k6, k7, b0, b1, b2, b3, b4, b5, b6, b7, z0, z1, z2, z3, z4, z5, z6, z7⟩ := (show w2.cell? ⟨w.heap.size, 0, none⟩ = some (Value.int .i64 c.serial) ∧ w2.cell? ⟨w.heap.size, 1, none⟩ = some (Value.string c.subj) ∧ w2.cell? ⟨w.heap.size, 2, none⟩ = some (Value.string b.subj) ∧ w2.cell? ⟨w.heap.size, 3, none⟩ = some (Value.int .i64 c.from_) ∧ w2.cell? ⟨w.heap.size, 4, none⟩ = some (Value.int .i64 c.to_) ∧ w2.cell? ⟨w.heap.size, 5, none⟩ = some (Value.bool c.ca) ∧ w2.cell? ⟨w.heap.size, 6, none⟩ = some (Value.int .u64 c.key) ∧ w2.cell? ⟨w.heap.size, 7, none⟩ = some (Value.int .u64 c.sl) ∧ w2.cell? ⟨w.heap.size + 1, 0, none⟩ = some (Value.int .i64 b.serial) ∧ w2.cell? ⟨w.heap.size + 1, 1, none⟩ = some (Value.string b.subj) ∧ w2.cell? ⟨w.heap.size + 1, 2, none⟩ = some (Value.string b.iss) ∧ w2.cell? ⟨w.heap.size + 1, 3, none⟩ = some (Value.int .i64 b.from_) ∧ w2.cell? ⟨w.heap.size + 1, 4, none⟩ = some (Value.int .i64 b.to_) ∧ w2.cell? ⟨w.heap.size + 1, 5, none⟩ = some (Value.bool b.ca) ∧ w2.cell? ⟨w.heap.size + 1, 6, none⟩ = some (Value.int .u64 b.key) ∧ w2.cell? ⟨w.heap.size + 1, 7, none⟩ = some (Value.int .u64 b.sl) ∧ w2.cell? ⟨w.heap.size + 2, 0, none⟩ = some (Value.int .i64 0) ∧ w2.cell? ⟨w.heap.size + 2, 1, none⟩ = some (Value.string ⟨#[]⟩) ∧ w2.cell? ⟨w.heap.size + 2, 2, none⟩ = some (Value.string ⟨#[]⟩) ∧ w2.cell? ⟨w.heap.size + 2, 3, none⟩ = some (Value.int .i64 0) ∧ w2.cell? ⟨w.heap.size + 2, 4, none⟩ = some (Value.int .i64 0) ∧ w2.cell? ⟨w.heap.size + 2, 5, none⟩ = some (Value.bool false) ∧ w2.cell? ⟨w.heap.size + 2, 6, none⟩ = some (Value.int .u64 0) ∧ w2.cell? ⟨w.heap.size + 2, 7, none⟩ = some (Value.int .u64 0) from ⟨p0.out.cell 0, p0.out.cell 1, p0.out.cell 2, p0.out.cell 3, p0.out.cell 4, p0.out.cell 5, p0.out.cell 6, p0.out.cell 7, p1.out.cell 0, p1.out.cell 1, p1.out.cell 2, p1.out.cell 3, p1.out.cell 4, p1.out.cell 5, p1.out.cell 6, p1.out.cell 7, p2.out.cell 0, p2.out.cell 1, p2.out.cell 2, p2.out.cell 3, p2.out.cell 4, p2.out.cell 5, p2.out.cell 6, p2.out.cell 7⟩)
  obtain ⟨f0, f1, f2, f3, f4, f5, f6, f7, g0, g1, g2, g3, g4, g5, g6, g7⟩ := (show w2.frozen? ⟨w.heap.size, 0, none⟩ = false ∧ w2.frozen? ⟨w.heap.size, 1, none⟩ = false ∧ w2.frozen? ⟨w.heap.size, 2, none⟩ = false ∧ w2.frozen? ⟨w.heap.size, 3, none⟩ = false ∧ w2.frozen? ⟨w.heap.size, 4, none⟩ = false ∧ w2.frozen? ⟨w.heap.size, 5, none⟩ = false ∧ w2.frozen? ⟨w.heap.size, 6, none⟩ = false ∧ w2.frozen? ⟨w.heap.size, 7, none⟩ = false ∧ w2.frozen? ⟨w.heap.size + 2, 0, none⟩ = false ∧ w2.frozen? ⟨w.heap.size + 2, 1, none⟩ = false ∧ w2.frozen? ⟨w.heap.size + 2, 2, none⟩ = false ∧ w2.frozen? ⟨w.heap.size + 2, 3, none⟩ = false ∧ w2.frozen? ⟨w.heap.size + 2, 4, none⟩ = false ∧ w2.frozen? ⟨w.heap.size + 2, 5, none⟩ = false ∧ w2.frozen? ⟨w.heap.size + 2, 6, none⟩ = false ∧ w2.frozen? ⟨w.heap.size + 2, 7, none⟩ = false from ⟨p0.out.frozen 0, p0.out.frozen 1, p0.out.frozen 2, p0.out.frozen 3, p0.out.frozen 4, p0.out.frozen 5, p0.out.frozen 6, p0.out.frozen 7, p2.out.frozen 0, p2.out.frozen 1, p2.out.frozen 2, p2.out.frozen 3, p2.out.frozen 4, p2.out.frozen 5, p2.out.frozen 6, p2.out.frozen 7⟩)
  by_cases h0 : E = 0
  · go_wp2_with fail
    clear k0 k1 k2 k3 k4 k5 k6 k7 b0 b1 b2 b3 b4 b5 b6 b7 z0 z1 z2 z3 z4 z5 z6 z7 f0 f1 f2 f3 f4 f5 f6 f7 g0 g1 g2 g3 g4 g5 g6 g7
    refine (hvb.out _).mono ?_; rintro e w3 ⟨rfl, hb⟩
    have p0 := Lib.hid (p0.out.below hb p0.out.lt)
    have p1 := Lib.hid (p1.out.below hb p1.out.lt)
    have p2 := Lib.hid (p2.out.below hb p2.out.lt)
    have hbw := Lib.hid (hbw.out.trans (hb.mono hbw.out.size))
    clear hb hvb
    obtain ⟨k0, k1, k2, k3, k4, k5, k6, k7, b0, b1, b2, b3, b4, b5, b6, b7, z0, z1, z2, z3, z4, z5, z6, z7⟩ := (show w3.cell? ⟨w.heap.size, 0, none⟩ = some (Value.int .i64 c.serial) ∧ w3.cell? ⟨w.heap.size, 1, none⟩ = some (Value.string c.subj) ∧ w3.cell? ⟨w.heap.size, 2, none⟩ = some (Value.string b.subj) ∧ w3.cell? ⟨w.heap.size, 3, none⟩ = some (Value.int .i64 c.from_) ∧ w3.cell? ⟨w.heap.size, 4, none⟩ = some (Value.int .i64 c.to_) ∧ w3.cell? ⟨w.heap.size, 5, none⟩ = some (Value.bool c.ca) ∧ w3.cell? ⟨w.heap.size, 6, none⟩ = some (Value.int .u64 c.key) ∧ w3.cell? ⟨w.heap.size, 7, none⟩ = some (Value.int .u64 c.sl) ∧ w3.cell? ⟨w.heap.size + 1, 0, none⟩ = some (Value.int .i64 b.serial) ∧ w3.cell? ⟨w.heap.size + 1, 1, none⟩ = some (Value.string b.subj) ∧ w3.cell? ⟨w.heap.size + 1, 2, none⟩ = some (Value.string b.iss) ∧ w3.cell? ⟨w.heap.size + 1, 3, none⟩ = some (Value.int .i64 b.from_) ∧ w3.cell? ⟨w.heap.size + 1, 4, none⟩ = some (Value.int .i64 b.to_) ∧ w3.cell? ⟨w.heap.size + 1, 5, none⟩ = some (Value.bool b.ca) ∧ w3.cell? ⟨w.heap.size + 1, 6, none⟩ = some (Value.int .u64 b.key) ∧ w3.cell? ⟨w.heap.size + 1, 7, none⟩ = some (Value.int .u64 b.sl) ∧ w3.cell? ⟨w.heap.size + 2, 0, none⟩ = some (Value.int .i64 0) ∧ w3.cell? ⟨w.heap.size + 2, 1, none⟩ = some (Value.string ⟨#[]⟩) ∧ w3.cell? ⟨w.heap.size + 2, 2, none⟩ = some (Value.string ⟨#[]⟩) ∧ w3.cell? ⟨w.heap.size + 2, 3, none⟩ = some (Value.int .i64 0) ∧ w3.cell? ⟨w.heap.size + 2, 4, none⟩ = some (Value.int .i64 0) ∧ w3.cell? ⟨w.heap.size + 2, 5, none⟩ = some (Value.bool false) ∧ w3.cell? ⟨w.heap.size + 2, 6, none⟩ = some (Value.int .u64 0) ∧ w3.cell? ⟨w.heap.size + 2, 7, none⟩ = some (Value.int .u64 0) from ⟨p0.out.cell 0, p0.out.cell 1, p0.out.cell 2, p0.out.cell 3, p0.out.cell 4, p0.out.cell 5, p0.out.cell 6, p0.out.cell 7, p1.out.cell 0, p1.out.cell 1, p1.out.cell 2, p1.out.cell 3, p1.out.cell 4, p1.out.cell 5, p1.out.cell 6, p1.out.cell 7, p2.out.cell 0, p2.out.cell 1, p2.out.cell 2, p2.out.cell 3, p2.out.cell 4, p2.out.cell 5, p2.out.cell 6, p2.out.cell 7⟩)
    obtain ⟨f0, f1, f2, f3, f4, f5, f6, f7, g0, g1, g2, g3, g4, g5, g6, g7⟩ := (show w3.frozen? ⟨w.heap.size, 0, none⟩ = false ∧ w3.frozen? ⟨w.heap.size, 1, none⟩ = false ∧ w3.frozen? ⟨w.heap.size, 2, none⟩ = false ∧ w3.frozen? ⟨w.heap.size, 3, none⟩ = false ∧ w3.frozen? ⟨w.heap.size, 4, none⟩ = false ∧ w3.frozen? ⟨w.heap.size, 5, none⟩ = false ∧ w3.frozen? ⟨w.heap.size, 6, none⟩ = false ∧ w3.frozen? ⟨w.heap.size, 7, none⟩ = false ∧ w3.frozen? ⟨w.heap.size + 2, 0, none⟩ = false ∧ w3.frozen? ⟨w.heap.size + 2, 1, none⟩ = false ∧ w3.frozen? ⟨w.heap.size + 2, 2, none⟩ = false ∧ w3.frozen? ⟨w.heap.size + 2, 3, none⟩ = false ∧ w3.frozen? ⟨w.heap.size + 2, 4, none⟩ = false ∧ w3.frozen? ⟨w.heap.size + 2, 5, none⟩ = false ∧ w3.frozen? ⟨w.heap.size + 2, 6, none⟩ = false ∧ w3.frozen? ⟨w.heap.size + 2, 7, none⟩ = false from ⟨p0.out.frozen 0, p0.out.frozen 1, p0.out.frozen 2, p0.out.frozen 3, p0.out.frozen 4, p0.out.frozen 5, p0.out.frozen 6, p0.out.frozen 7, p2.out.frozen 0, p2.out.frozen 1, p2.out.frozen 2, p2.out.frozen 3, p2.out.frozen 4, p2.out.frozen 5, p2.out.frozen 6, p2.out.frozen 7⟩)
    by_cases h1 : F = 0
    · cases hca : b.ca with
      | true =>
        rw [hca] at b5
        by_cases h2 : c.from_ < b.from_
        · go_wp2_with fail
          (try simp only [Exit.inBlock, Exit.then])
          have hB := ct_set8 p2.out (Value.int .i64 0) (Value.string ⟨#[]⟩) (Value.string ⟨#[]⟩) (Value.int .i64 0) (Value.int .i64 0) (Value.bool false) (Value.int .u64 0) (Value.int .u64 0)
          refine bodyPost_ret (v := .tuple #[.agg #[Value.int .i64 0, Value.string ⟨#[]⟩, Value.string ⟨#[]⟩, Value.int .i64 0, Value.int .i64 0, Value.bool false, Value.int .u64 0, Value.int .u64 0], .int .i64 12]) ?_ rfl ?_
          · refine (res2 (fn := Try.f57) (p := 4) (u := 5) (ty := 52) rfl _ _ (w.heap.size + 2) 52 _ (0, 0) _ ?_ hB Try.underlying52 rfl (by kernel_rfl)).trans ?_
            · rfl
            · rfl
          · refine ⟨by rw [hR.out]; simp only [h0, h1, hca, hO.out, h2, decide_true, Bool.true_or, ne_eq, not_true_eq_false, if_false, Bool.not_true, Bool.false_eq_true, if_true]; try rfl, ?_⟩
            clear hB
            exact (below_set (below_set (below_set (below_set (below_set (below_set (below_set (below_set hbw.out (by omega) 0 _) (by omega) 1 _) (by omega) 2 _) (by omega) 3 _) (by omega) 4 _) (by omega) 5 _) (by omega) 6 _) (by omega) 7 _)
        · by_cases h3 : b.to_ < c.to_
          · go_wp2_with fail
            (try simp only [Exit.inBlock, Exit.then])
            have hB := ct_set8 p2.out (Value.int .i64 0) (Value.string ⟨#[]⟩) (Value.string ⟨#[]⟩) (Value.int .i64 0) (Value.int .i64 0) (Value.bool false) (Value.int .u64 0) (Value.int .u64 0)
            refine bodyPost_ret (v := .tuple #[.agg #[Value.int .i64 0, Value.string ⟨#[]⟩, Value.string ⟨#[]⟩, Value.int .i64 0, Value.int .i64 0, Value.bool false, Value.int .u64 0, Value.int .u64 0], .int .i64 12]) ?_ rfl ?_
            · refine (res2 (fn := Try.f57) (p := 4) (u := 5) (ty := 52) rfl _ _ (w.heap.size + 2) 52 _ (0, 0) _ ?_ hB Try.underlying52 rfl (by kernel_rfl)).trans ?_
              · rfl
              · rfl
            · refine ⟨by rw [hR.out]; simp only [h0, h1, hca, hO.out, h2, h3, decide_true, decide_false, Bool.or_true, ne_eq, not_true_eq_false, if_false, Bool.not_true, Bool.false_eq_true, if_true]; try rfl, ?_⟩
              clear hB
              exact (below_set (below_set (below_set (below_set (below_set (below_set (below_set (below_set hbw.out (by omega) 0 _) (by omega) 1 _) (by omega) 2 _) (by omega) 3 _) (by omega) 4 _) (by omega) 5 _) (by omega) 6 _) (by omega) 7 _)
          · have hO0 : Hid (ob = false) := by show _ = _; rw [hO.out]; simp [h2, h3]
            go_wp2_with fail
            clear k0 k1 k2 k3 k4 k5 k6 k7 b0 b1 b2 b3 b4 b5 b6 b7 z0 z1 z2 z3 z4 z5 z6 z7 f0 f1 f2 f3 f4 f5 f6 f7 g0 g1 g2 g3 g4 g5 g6 g7
            have hs2 := hs.out
            simp only [ctC, issC] at hs2
            refine (hs2 _).mono ?_; rintro e w4 ⟨rfl, hb⟩
            have p0 := Lib.hid (p0.out.below hb p0.out.lt)
            have p1 := Lib.hid (p1.out.below hb p1.out.lt)
            have p2 := Lib.hid (p2.out.below hb p2.out.lt)
            have hbw := Lib.hid (hbw.out.trans (hb.mono hbw.out.size))
            clear hb hs hs2
            obtain ⟨k0, k1, k2, k3, k4, k5, k6, k7, b0, b1, b2, b3, b4, b5, b6, b7, z0, z1, z2, z3, z4, z5, z6, z7⟩ := (show w4.cell? ⟨w.heap.size, 0, none⟩ = some (Value.int .i64 c.serial) ∧ w4.cell? ⟨w.heap.size, 1, none⟩ = some (Value.string c.subj) ∧ w4.cell? ⟨w.heap.size, 2, none⟩ = some (Value.string b.subj) ∧ w4.cell? ⟨w.heap.size, 3, none⟩ = some (Value.int .i64 c.from_) ∧ w4.cell? ⟨w.heap.size, 4, none⟩ = some (Value.int .i64 c.to_) ∧ w4.cell? ⟨w.heap.size, 5, none⟩ = some (Value.bool c.ca) ∧ w4.cell? ⟨w.heap.size, 6, none⟩ = some (Value.int .u64 c.key) ∧ w4.cell? ⟨w.heap.size, 7, none⟩ = some (Value.int .u64 c.sl) ∧ w4.cell? ⟨w.heap.size + 1, 0, none⟩ = some (Value.int .i64 b.serial) ∧ w4.cell? ⟨w.heap.size + 1, 1, none⟩ = some (Value.string b.subj) ∧ w4.cell? ⟨w.heap.size + 1, 2, none⟩ = some (Value.string b.iss) ∧ w4.cell? ⟨w.heap.size + 1, 3, none⟩ = some (Value.int .i64 b.from_) ∧ w4.cell? ⟨w.heap.size + 1, 4, none⟩ = some (Value.int .i64 b.to_) ∧ w4.cell? ⟨w.heap.size + 1, 5, none⟩ = some (Value.bool b.ca) ∧ w4.cell? ⟨w.heap.size + 1, 6, none⟩ = some (Value.int .u64 b.key) ∧ w4.cell? ⟨w.heap.size + 1, 7, none⟩ = some (Value.int .u64 b.sl) ∧ w4.cell? ⟨w.heap.size + 2, 0, none⟩ = some (Value.int .i64 0) ∧ w4.cell? ⟨w.heap.size + 2, 1, none⟩ = some (Value.string ⟨#[]⟩) ∧ w4.cell? ⟨w.heap.size + 2, 2, none⟩ = some (Value.string ⟨#[]⟩) ∧ w4.cell? ⟨w.heap.size + 2, 3, none⟩ = some (Value.int .i64 0) ∧ w4.cell? ⟨w.heap.size + 2, 4, none⟩ = some (Value.int .i64 0) ∧ w4.cell? ⟨w.heap.size + 2, 5, none⟩ = some (Value.bool false) ∧ w4.cell? ⟨w.heap.size + 2, 6, none⟩ = some (Value.int .u64 0) ∧ w4.cell? ⟨w.heap.size + 2, 7, none⟩ = some (Value.int .u64 0) from ⟨p0.out.cell 0, p0.out.cell 1, p0.out.cell 2, p0.out.cell 3, p0.out.cell 4, p0.out.cell 5, p0.out.cell 6, p0.out.cell 7, p1.out.cell 0, p1.out.cell 1, p1.out.cell 2, p1.out.cell 3, p1.out.cell 4, p1.out.cell 5, p1.out.cell 6, p1.out.cell 7, p2.out.cell 0, p2.out.cell 1, p2.out.cell 2, p2.out.cell 3, p2.out.cell 4, p2.out.cell 5, p2.out.cell 6, p2.out.cell 7⟩)
            obtain ⟨f0, f1, f2, f3, f4, f5, f6, f7, g0, g1, g2, g3, g4, g5, g6, g7⟩ := (show w4.frozen? ⟨w.heap.size, 0, none⟩ = false ∧ w4.frozen? ⟨w.heap.size, 1, none⟩ = false ∧ w4.frozen? ⟨w.heap.size, 2, none⟩ = false ∧ w4.frozen? ⟨w.heap.size, 3, none⟩ = false ∧ w4.frozen? ⟨w.heap.size, 4, none⟩ = false ∧ w4.frozen? ⟨w.heap.size, 5, none⟩ = false ∧ w4.frozen? ⟨w.heap.size, 6, none⟩ = false ∧ w4.frozen? ⟨w.heap.size, 7, none⟩ = false ∧ w4.frozen? ⟨w.heap.size + 2, 0, none⟩ = false ∧ w4.frozen? ⟨w.heap.size + 2, 1, none⟩ = false ∧ w4.frozen? ⟨w.heap.size + 2, 2, none⟩ = false ∧ w4.frozen? ⟨w.heap.size + 2, 3, none⟩ = false ∧ w4.frozen? ⟨w.heap.size + 2, 4, none⟩ = false ∧ w4.frozen? ⟨w.heap.size + 2, 5, none⟩ = false ∧ w4.frozen? ⟨w.heap.size + 2, 6, none⟩ = false ∧ w4.frozen? ⟨w.heap.size + 2, 7, none⟩ = false from ⟨p0.out.frozen 0, p0.out.frozen 1, p0.out.frozen 2, p0.out.frozen 3, p0.out.frozen 4, p0.out.frozen 5, p0.out.frozen 6, p0.out.frozen 7, p2.out.frozen 0, p2.out.frozen 1, p2.out.frozen 2, p2.out.frozen 3, p2.out.frozen 4, p2.out.frozen 5, p2.out.frozen 6, p2.out.frozen 7⟩)
            go_wp2_with fail
            (try simp only [Exit.inBlock, Exit.then])
            have hB := ct_set8 (p2.out.far (p := ⟨w.heap.size, 7, none⟩) (by simp) (Value.int .u64 sv)) (Value.int .i64 c.serial) (Value.string c.subj) (Value.string b.subj) (Value.int .i64 c.from_) (Value.int .i64 c.to_) (Value.bool c.ca) (Value.int .u64 c.key) (Value.int .u64 sv)
            refine bodyPost_ret (v := .tuple #[.agg #[Value.int .i64 c.serial, Value.string c.subj, Value.string b.subj, Value.int .i64 c.from_, Value.int .i64 c.to_, Value.bool c.ca, Value.int .u64 c.key, Value.int .u64 sv], .int .i64 0]) ?_ rfl ?_
            · refine (res2 (fn := Try.f57) (p := 4) (u := 5) (ty := 52) rfl _ _ (w.heap.size + 2) 52 _ (0, 0) _ ?_ hB Try.underlying52 rfl (by kernel_rfl)).trans ?_
              · rfl
              · rfl
            · refine ⟨by rw [hR.out]; simp only [h0, h1, hca, hO0.out, ne_eq, not_true_eq_false, if_false, Bool.not_true, Bool.false_eq_true, ctC, issC]; try rfl, ?_⟩
              clear hB
              exact (below_set (below_set (below_set (below_set (below_set (below_set (below_set (below_set (below_set hbw.out (Nat.le_refl _) 7 _) (by omega) 0 _) (by omega) 1 _) (by omega) 2 _) (by omega) 3 _) (by omega) 4 _) (by omega) 5 _) (by omega) 6 _) (by omega) 7 _)
      | false =>
        rw [hca] at b5
        go_wp2_with fail
        (try simp only [Exit.inBlock, Exit.then])
        have hB := ct_set8 p2.out (Value.int .i64 0) (Value.string ⟨#[]⟩) (Value.string ⟨#[]⟩) (Value.int .i64 0) (Value.int .i64 0) (Value.bool false) (Value.int .u64 0) (Value.int .u64 0)
        refine bodyPost_ret (v := .tuple #[.agg #[Value.int .i64 0, Value.string ⟨#[]⟩, Value.string ⟨#[]⟩, Value.int .i64 0, Value.int .i64 0, Value.bool false, Value.int .u64 0, Value.int .u64 0], .int .i64 14]) ?_ rfl ?_
        · refine (res2 (fn := Try.f57) (p := 4) (u := 5) (ty := 52) rfl _ _ (w.heap.size + 2) 52 _ (0, 0) _ ?_ hB Try.underlying52 rfl (by kernel_rfl)).trans ?_
          · rfl
          · rfl
        · refine ⟨by rw [hR.out]; simp only [h0, h1, hca, ne_eq, not_true_eq_false, if_false, Bool.not_false, if_true]; try rfl, ?_⟩
          clear hB
          exact (below_set (below_set (below_set (below_set (below_set (below_set (below_set (below_set hbw.out (by omega) 0 _) (by omega) 1 _) (by omega) 2 _) (by omega) 3 _) (by omega) 4 _) (by omega) 5 _) (by omega) 6 _) (by omega) 7 _)
    · go_wp2_with fail
      (try simp only [Exit.inBlock, Exit.then])
      have hB := ct_set8 p2.out (Value.int .i64 0) (Value.string ⟨#[]⟩) (Value.string ⟨#[]⟩) (Value.int .i64 0) (Value.int .i64 0) (Value.bool false) (Value.int .u64 0) (Value.int .u64 0)
      refine bodyPost_ret (v := .tuple #[.agg #[Value.int .i64 0, Value.string ⟨#[]⟩, Value.string ⟨#[]⟩, Value.int .i64 0, Value.int .i64 0, Value.bool false, Value.int .u64 0, Value.int .u64 0], .int .i64 F]) ?_ rfl ?_
      · refine (res2 (fn := Try.f57) (p := 4) (u := 5) (ty := 52) rfl _ _ (w.heap.size + 2) 52 _ (0, 0) _ ?_ hB Try.underlying52 rfl (by kernel_rfl)).trans ?_
        · rfl
        · rfl
      · refine ⟨by rw [hR.out]; simp only [h0, h1, ne_eq, not_true_eq_false, not_false_eq_true, if_false, if_true]; try rfl, ?_⟩
        clear hB
        exact (below_set (below_set (below_set (below_set (below_set (below_set (below_set (below_set hbw.out (by omega) 0 _) (by omega) 1 _) (by omega) 2 _) (by omega) 3 _) (by omega) 4 _) (by omega) 5 _) (by omega) 6 _) (by omega) 7 _)
  · go_wp2_with fail
    (try simp only [Exit.inBlock, Exit.then])
    have hB := ct_set8 p2.out (Value.int .i64 0) (Value.string ⟨#[]⟩) (Value.string ⟨#[]⟩) (Value.int .i64 0) (Value.int .i64 0) (Value.bool false) (Value.int .u64 0) (Value.int .u64 0)
    refine bodyPost_ret (v := .tuple #[.agg #[Value.int .i64 0, Value.string ⟨#[]⟩, Value.string ⟨#[]⟩, Value.int .i64 0, Value.int .i64 0, Value.bool false, Value.int .u64 0, Value.int .u64 0], .int .i64 E]) ?_ rfl ?_
    · refine (res2 (fn := Try.f57) (p := 4) (u := 5) (ty := 52) rfl _ _ (w.heap.size + 2) 52 _ (0, 0) _ ?_ hB Try.underlying52 rfl (by kernel_rfl)).trans ?_
      · rfl
      · rfl
    · refine ⟨by rw [hR.out]; simp only [h0, ne_eq, not_false_eq_true, if_true]; try rfl, ?_⟩
      clear hB
      exact (below_set (below_set (below_set (below_set (below_set (below_set (below_set (below_set hbw.out (by omega) 0 _) (by omega) 1 _) (by omega) 2 _) (by omega) 3 _) (by omega) 4 _) (by omega) 5 _) (by omega) 6 _) (by omega) 7 _)

end Go.Proofs.Ytiggpgeldigknaa
