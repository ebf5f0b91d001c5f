/- Certs: Verify of the reference. -/
import Derived.Test.YtiggpgeldigknaaCK
set_option linter.unusedVariables false
set_option linter.unusedSimpArgs false
namespace Go.Proofs.Ytiggpgeldigknaa
open Go.RowKit
set_option maxRecDepth 100000 in
set_option maxHeartbeats 1000000 in
theorem rverify_any (A A2 A3 : Option Addr) (n n2 n3 cp cp2 cp3 : Nat) (C R : List Ct) (rv : List Int) (now : Int) (w : World) (hC : LAt ctC 8 w w.heap.size A n C) (h : LAt ctC 8 w w.heap.size A2 n2 R) (hV : LAt iC 1 w w.heap.size A3 n3 rv)
    (hn1 : n ≤ 1000) (hn2 : n2 ≤ 1000) (hn3 : n3 ≤ 1000) (hok : ∀ c ∈ C, CtOk c) :
    Calls Try.prog 60 #[.slice A n cp, .agg #[Value.slice A2 n2 cp2, Value.slice A3 n3 cp3], .int .i64 now] w fun e w' => e = .returned (.int .i64 (verR C R rv now)) ∧ Below w.heap.size w w' := by
  have hn := Lib.hid hC.len
  have hvr : Hid (verR C R rv now = if C.length = 0 ∨ 4 < C.length then 1 else if badC C = true then 1 else runV (stepV C R rv now) C.length 0) := rfl
  rw [hn.out] at hvr
  have p0 := Lib.hid (Blk.new w 59 #[Value.slice A2 n2 cp2, Value.slice A3 n3 cp3])
  have hbw : Hid (Below w.heap.size w (w.alloc (.cells #[Value.slice A2 n2 cp2, Value.slice A3 n3 cp3] 59))) := a1 w _
  by_cases h0 : n = 0
  · subst h0
    have hS : Hid (verR C R rv now = 1) := by show _ = _; rw [hvr.out]; simp
    go_enter Try.func60, Try.ntmps60
    go_wp2_with fail
    go_ret
    exact ⟨by rw [hS.out]; rfl, hbw.out⟩
  by_cases h4 : 4 < n
  · have hS : Hid (verR C R rv now = 1) := by show _ = _; rw [hvr.out]; simp [h4]
    have h00 : (0 : Int) < n := by omega
    have h44 : (4 : Int) < n := by omega
    go_enter Try.func60, Try.ntmps60
    go_wp2_with fail
    go_ret
    exact ⟨by rw [hS.out]; rfl, hbw.out⟩
  rw [if_neg (by omega)] at hvr
  have h00 : ((n : Int) == 0) = false := by simp; omega
  have h44 : (n : Int) ≤ 4 := by omega
  have hC2 := Lib.hid (hC.more hbw.out)
  have h2 := Lib.hid (h.more hbw.out)
  have hV2 := Lib.hid (hV.more hbw.out)
  clear h hV hC
  replace hok := Lib.hid hok
  go_enter Try.func60, Try.ntmps60
  go_wp2_with fail
  generalize w.alloc (.cells #[Value.slice A2 n2 cp2, Value.slice A3 n3 cp3] 59) = w2 at *
  go_loopw [7] (fun i wr => ∃ k : Nat, k ≤ n ∧ i = .int .i64 k ∧ Hid (Below w2.heap.size w2 wr) ∧ Hid (badC C = badC (C.drop k))) (fun i _ => n - (intOf i).toNat)
  case atStart => exact ⟨0, Nat.zero_le _, rfl, Below.refl _ _, rfl⟩
  case round =>
    obtain ⟨k, hkn, rfl, hb, hx⟩ := hrel
    by_cases hlt : k < n
    · have hk0 : (0 : Int) ≤ k := by omega
      have hk1 : (k : Int) < n := by omega
      have hkl : k < C.length := by have := hn.out; omega
      have hst := Lib.hid (badC_drop C k hkl)
      obtain ⟨ad, hA, hadb, e0, e1, e2, e3, e4, e5, e6, e7⟩ := ct_cells (hC2.out.below hb.out (Nat.le_refl _)) hlt
      subst hA
      generalize C[k] = y at *
      obtain ⟨s, sb, is_, f, t, ca, ky, sl⟩ := y
      go_wp2_with fail
      refine (rvalid_any ⟨s, sb, is_, f, t, ca, ky, sl⟩ _).mono ?_; rintro e w4 ⟨rfl, hq⟩
      have hb := Lib.hid (hb.out.trans (hq.mono hb.out.size))
      clear hq
      by_cases hE : validE ⟨s, sb, is_, f, t, ca, ky, sl⟩ = 0
      · have hN : Hid (badC C = badC (C.drop (k + 1))) := by show _ = _; rw [hx.out, hst.out]; simp [hE]
        go_wp2_with fail
        go_roundw
        case rel => exact ⟨k + 1, by omega, by go_num, hb.out, hN.out⟩
        case measure => simp [intOf]; omega
      · have hN : Hid (badC C = true) := by show _ = _; rw [hx.out, hst.out]; simp [hE]
        have hS : Hid (verR C R rv now = 1) := by show _ = _; rw [hvr.out, if_pos hN.out]
        go_wp2_with fail
        go_ret
        exact ⟨by rw [hS.out]; rfl, hbw.out.trans (hb.out.mono hbw.out.size)⟩
    · have hN : Hid (badC C = false) := by show _ = _; rw [hx.out, List.drop_eq_nil_of_le (by have := hn.out; omega)]; rfl
      have hvr : Hid (verR C R rv now = runV (stepV C R rv now) n 0) := by show _ = _; rw [hvr.out, if_neg (by rw [hN.out]; simp)]
      clear hx
      go_wp2_with fail
      go_loopw [8] (fun i wr' => ∃ k : Nat, k ≤ n ∧ i = .int .i64 k ∧ Hid (Below w2.heap.size w2 wr') ∧ Hid (verR C R rv now = runV (stepV C R rv now) (n - k) k)) (fun i _ => n - (intOf i).toNat)
      case atStart => exact ⟨0, Nat.zero_le _, rfl, hb.out, by show _ = _; rw [hvr.out]; rfl⟩
      case round =>
        clear hb hlt hkn
        obtain ⟨k, hkn, rfl, hb, hx⟩ := hrel
        by_cases hlt : k < n
        · have hk0 : (0 : Int) ≤ k := by omega
          have hk1 : (k : Int) < n := by omega
          have hkl : k < C.length := by have := hn.out; omega
          have hst := Lib.hid (runV_step (stepV C R rv now) hlt)
          have hfk : Hid (stepV C R rv now k = stepE rv now C[k] (issR C R rv now k)) := by show _ = _; rw [stepV, getD_lt C noCt hkl]
          rw [hfk.out] at hst
          clear hfk
          have hoc : CtOk C[k] := hok.out _ (List.getElem_mem hkl)
          obtain ⟨ad, hA, hadb, e0, e1, e2, e3, e4, e5, e6, e7⟩ := ct_cells (hC2.out.below hb.out (Nat.le_refl _)) hlt
          subst hA
          have hiA : Hid (k + 1 = n → issR C R rv now k = rootP (rootF rv C[k].iss now R)) := by
            intro he
            rw [issR, if_pos (by rw [hn.out]; exact he), getD_lt C noCt hkl]
          have hiB : Hid (∀ h : k + 1 < n, issR C R rv now k = linkP C[k] (C[k + 1]'(by rw [hn.out]; exact h))) := by
            intro he
            rw [issR, if_neg (by rw [hn.out]; omega), getD_lt C noCt hkl, getD_lt C noCt (by rw [hn.out]; exact he)]
          generalize C[k] = y at *
          obtain ⟨s, sb, is_, f, t, ca, ky, sl⟩ := y
          replace hoc := Lib.hid hoc
          go_wp2_with fail
          have py := Lib.hid (Blk.new wr 52 #[Value.int .i64 s, Value.string sb, Value.string is_, Value.int .i64 f, Value.int .i64 t, Value.bool ca, Value.int .u64 ky, Value.int .u64 sl])
          have pt := Lib.hid ((p0.out.below hb.out p0.out.lt).alloc (.cells #[Value.int .i64 s, Value.string sb, Value.string is_, Value.int .i64 f, Value.int .i64 t, Value.bool ca, Value.int .u64 ky, Value.int .u64 sl] 52))
          have hb := Lib.hid (below_new hb.out (.cells #[Value.int .i64 s, Value.string sb, Value.string is_, Value.int .i64 f, Value.int .i64 t, Value.bool ca, Value.int .u64 ky, Value.int .u64 sl] 52))
          generalize hw3 : wr.alloc (.cells #[Value.int .i64 s, Value.string sb, Value.string is_, Value.int .i64 f, Value.int .i64 t, Value.bool ca, Value.int .u64 ky, Value.int .u64 sl] 52) = w3 at *
          clear e0 e1 e2 e3 e4 e5 e6 e7 hw3
          generalize hsp : spanH f t now = sp at *
          replace hsp := Lib.hid hsp
          refine (holds_any f t now _).mono ?_; rintro e w4 ⟨rfl, hq⟩
          have py := Lib.hid (py.out.below hq py.out.lt)
          have pt := Lib.hid (pt.out.below hq pt.out.lt)
          have hb := Lib.hid (hb.out.trans (hq.mono hb.out.size))
          clear hq
          rw [hsp.out]
          cases sp with
          | false =>
            have hS : Hid (verR C R rv now = 12) := by show _ = _; rw [hx.out, hst.out]; simp [stepE, hsp.out]
            go_wp2_with fail
            go_ret
            exact ⟨by rw [hS.out]; rfl, by
              repeat (first | (with_reducible refine below_set ?_ (by omega) _ _) | (with_reducible refine below_new ?_ _) | (with_reducible refine below_drewN ?_ _) | (with_reducible refine below_dr ?_))
              exact hbw.out.trans (hb.out.mono hbw.out.size)⟩
          | true =>
            obtain ⟨k0, t0, t1⟩ := (show w4.cell? ⟨wr.heap.size, 0, none⟩ = some (Value.int .i64 s) ∧ w4.cell? ⟨w.heap.size, 0, none⟩ = some (Value.slice A2 n2 cp2) ∧ w4.cell? ⟨w.heap.size, 1, none⟩ = some (Value.slice A3 n3 cp3) from ⟨py.out.cell 0, pt.out.cell 0, pt.out.cell 1⟩)
            generalize hhs : hasI rv s = hh
            have hq0 := rhas_any A3 rv n3 cp3 s w4 (hV2.out.more hb.out) hn3
            rw [hhs] at hq0
            replace hq0 := Lib.hid hq0
            replace hhs := Lib.hid hhs
            go_wp2_with fail
            clear k0 t0 t1
            refine (hq0.out).mono ?_; rintro e w5 ⟨rfl, hq⟩
            have py := Lib.hid (py.out.below hq py.out.lt)
            have pt := Lib.hid (pt.out.below hq pt.out.lt)
            have hb := Lib.hid (hb.out.trans (hq.mono hb.out.size))
            clear hq
            cases hh with
            | true =>
              have hS : Hid (verR C R rv now = 13) := by show _ = _; rw [hx.out, hst.out]; simp [stepE, hsp.out, hhs.out]
              go_wp2_with fail
              go_ret
              exact ⟨by rw [hS.out]; rfl, by
                repeat (first | (with_reducible refine below_set ?_ (by omega) _ _) | (with_reducible refine below_new ?_ _) | (with_reducible refine below_drewN ?_ _) | (with_reducible refine below_dr ?_))
                exact hbw.out.trans (hb.out.mono hbw.out.size)⟩
            | false =>
              by_cases hlast : k + 1 = n
              · have hst := hst.out
                rw [hiA.out hlast] at hst
                clear hiA hiB
                have hi11 : ¬ (k : Int) + 1 < n := by omega
                have hi12 : (n : Int) ≤ (k : Int) + 1 := by omega
                have hq1 := trusted_any A2 A3 n2 n3 cp2 cp3 R rv is_ now (w5.alloc (.cells #[Value.int .i64 0, Value.string ⟨#[]⟩, Value.string ⟨#[]⟩, Value.int .i64 0, Value.int .i64 0, Value.bool false, Value.int .u64 0, Value.int .u64 0] 52)) (h2.out.more (below_new hb.out (.cells #[Value.int .i64 0, Value.string ⟨#[]⟩, Value.string ⟨#[]⟩, Value.int .i64 0, Value.int .i64 0, Value.bool false, Value.int .u64 0, Value.int .u64 0] 52))) (hV2.out.more (below_new hb.out (.cells #[Value.int .i64 0, Value.string ⟨#[]⟩, Value.string ⟨#[]⟩, Value.int .i64 0, Value.int .i64 0, Value.bool false, Value.int .u64 0, Value.int .u64 0] 52))) hn2 hn3
                rw [resC_p] at hq1
                generalize rootP (rootF rv is_ now R) = yr at *
                obtain ⟨⟨s2, sb2, is_2, f2, t2, ca2, ky2, sl2⟩, ok⟩ := yr
                dsimp only [ctC] at hq1
                replace hq1 := Lib.hid hq1
                replace hst := Lib.hid hst
                have hlt5 : wr.heap.size < w5.heap.size := py.out.lt
                have hsz5 := hb.out.size
                have hwz5 : w.heap.size ≤ w5.heap.size := Nat.le_trans hbw.out.size hsz5
                have pb := Lib.hid (Blk.new w5 52 #[Value.int .i64 0, Value.string ⟨#[]⟩, Value.string ⟨#[]⟩, Value.int .i64 0, Value.int .i64 0, Value.bool false, Value.int .u64 0, Value.int .u64 0])
                have py := Lib.hid (py.out.alloc (.cells #[Value.int .i64 0, Value.string ⟨#[]⟩, Value.string ⟨#[]⟩, Value.int .i64 0, Value.int .i64 0, Value.bool false, Value.int .u64 0, Value.int .u64 0] 52))
                have pt := Lib.hid (pt.out.alloc (.cells #[Value.int .i64 0, Value.string ⟨#[]⟩, Value.string ⟨#[]⟩, Value.int .i64 0, Value.int .i64 0, Value.bool false, Value.int .u64 0, Value.int .u64 0] 52))
                have hb := Lib.hid (below_new hb.out (.cells #[Value.int .i64 0, Value.string ⟨#[]⟩, Value.string ⟨#[]⟩, Value.int .i64 0, Value.int .i64 0, Value.bool false, Value.int .u64 0, Value.int .u64 0] 52))
                obtain ⟨k2, t0, t1⟩ := (show (w5.alloc (.cells #[Value.int .i64 0, Value.string ⟨#[]⟩, Value.string ⟨#[]⟩, Value.int .i64 0, Value.int .i64 0, Value.bool false, Value.int .u64 0, Value.int .u64 0] 52)).cell? ⟨wr.heap.size, 2, none⟩ = some (Value.string is_) ∧ (w5.alloc (.cells #[Value.int .i64 0, Value.string ⟨#[]⟩, Value.string ⟨#[]⟩, Value.int .i64 0, Value.int .i64 0, Value.bool false, Value.int .u64 0, Value.int .u64 0] 52)).cell? ⟨w.heap.size, 0, none⟩ = some (Value.slice A2 n2 cp2) ∧ (w5.alloc (.cells #[Value.int .i64 0, Value.string ⟨#[]⟩, Value.string ⟨#[]⟩, Value.int .i64 0, Value.int .i64 0, Value.bool false, Value.int .u64 0, Value.int .u64 0] 52)).cell? ⟨w.heap.size, 1, none⟩ = some (Value.slice A3 n3 cp3) from ⟨py.out.cell 2, pt.out.cell 0, pt.out.cell 1⟩)
                go_wp2_with fail
                clear k2 t0 t1
                refine (hq1.out).mono ?_; rintro e w6 ⟨rfl, hq⟩
                have py := Lib.hid (py.out.below hq py.out.lt)
                have pb := Lib.hid (pb.out.below hq pb.out.lt)
                have hb := Lib.hid (hb.out.trans (hq.mono hb.out.size))
                clear hq
                obtain ⟨z0, z1, z2, z3, z4, z5, z6, z7, g0, g1, g2, g3, g4, g5, g6, g7⟩ := (show w6.cell? ⟨w5.heap.size, 0, none⟩ = some (Value.int .i64 0) ∧ w6.cell? ⟨w5.heap.size, 1, none⟩ = some (Value.string ⟨#[]⟩) ∧ w6.cell? ⟨w5.heap.size, 2, none⟩ = some (Value.string ⟨#[]⟩) ∧ w6.cell? ⟨w5.heap.size, 3, none⟩ = some (Value.int .i64 0) ∧ w6.cell? ⟨w5.heap.size, 4, none⟩ = some (Value.int .i64 0) ∧ w6.cell? ⟨w5.heap.size, 5, none⟩ = some (Value.bool false) ∧ w6.cell? ⟨w5.heap.size, 6, none⟩ = some (Value.int .u64 0) ∧ w6.cell? ⟨w5.heap.size, 7, none⟩ = some (Value.int .u64 0) ∧ w6.frozen? ⟨w5.heap.size, 0, none⟩ = false ∧ w6.frozen? ⟨w5.heap.size, 1, none⟩ = false ∧ w6.frozen? ⟨w5.heap.size, 2, none⟩ = false ∧ w6.frozen? ⟨w5.heap.size, 3, none⟩ = false ∧ w6.frozen? ⟨w5.heap.size, 4, none⟩ = false ∧ w6.frozen? ⟨w5.heap.size, 5, none⟩ = false ∧ w6.frozen? ⟨w5.heap.size, 6, none⟩ = false ∧ w6.frozen? ⟨w5.heap.size, 7, none⟩ = false from ⟨pb.out.cell 0, pb.out.cell 1, pb.out.cell 2, pb.out.cell 3, pb.out.cell 4, pb.out.cell 5, pb.out.cell 6, pb.out.cell 7, pb.out.frozen 0, pb.out.frozen 1, pb.out.frozen 2, pb.out.frozen 3, pb.out.frozen 4, pb.out.frozen 5, pb.out.frozen 6, pb.out.frozen 7⟩)
                cases ok with
                | false =>
                  have hS : Hid (verR C R rv now = 14) := by show _ = _; rw [hx.out, hst.out]; simp [stepE, hsp.out, hhs.out]
                  go_wp2_with fail
                  go_ret
                  exact ⟨by rw [hS.out]; rfl, by
                    repeat (first | (with_reducible refine below_set ?_ (by omega) _ _) | (with_reducible refine below_new ?_ _) | (with_reducible refine below_drewN ?_ _) | (with_reducible refine below_dr ?_))
                    exact hbw.out.trans (hb.out.mono hbw.out.size)⟩
                | true =>
                  have py := Lib.hid (((((((((py.out.far (p := ⟨w5.heap.size, 0, none⟩) (by simp; omega) (Value.int .i64 s2)).far (p := ⟨w5.heap.size, 1, none⟩) (by simp; omega) (Value.string sb2)).far (p := ⟨w5.heap.size, 2, none⟩) (by simp; omega) (Value.string is_2)).far (p := ⟨w5.heap.size, 3, none⟩) (by simp; omega) (Value.int .i64 f2)).far (p := ⟨w5.heap.size, 4, none⟩) (by simp; omega) (Value.int .i64 t2)).far (p := ⟨w5.heap.size, 5, none⟩) (by simp; omega) (Value.bool ca2)).far (p := ⟨w5.heap.size, 6, none⟩) (by simp; omega) (Value.int .u64 ky2)).far (p := ⟨w5.heap.size, 7, none⟩) (by simp; omega) (Value.int .u64 sl2)))
                  have pb := Lib.hid (ct_set8 pb.out (Value.int .i64 s2) (Value.string sb2) (Value.string is_2) (Value.int .i64 f2) (Value.int .i64 t2) (Value.bool ca2) (Value.int .u64 ky2) (Value.int .u64 sl2))
                  have hg5 : w2.heap.size ≤ w5.heap.size := hsz5
                  have hb := Lib.hid (below_set (below_set (below_set (below_set (below_set (below_set (below_set (below_set hb.out hg5 0 (Value.int .i64 s2)) hg5 1 (Value.string sb2)) hg5 2 (Value.string is_2)) hg5 3 (Value.int .i64 f2)) hg5 4 (Value.int .i64 t2)) hg5 5 (Value.bool ca2)) hg5 6 (Value.int .u64 ky2)) hg5 7 (Value.int .u64 sl2))
                  go_wp2_with fail
                  generalize ((((((((w6.setCell ⟨w5.heap.size, 0, none⟩ (Value.int .i64 s2)).setCell ⟨w5.heap.size, 1, none⟩ (Value.string sb2)).setCell ⟨w5.heap.size, 2, none⟩ (Value.string is_2)).setCell ⟨w5.heap.size, 3, none⟩ (Value.int .i64 f2)).setCell ⟨w5.heap.size, 4, none⟩ (Value.int .i64 t2)).setCell ⟨w5.heap.size, 5, none⟩ (Value.bool ca2)).setCell ⟨w5.heap.size, 6, none⟩ (Value.int .u64 ky2)).setCell ⟨w5.heap.size, 7, none⟩ (Value.int .u64 sl2)) = w7 at *
                  clear z0 z1 z2 z3 z4 z5 z6 z7 g0 g1 g2 g3 g4 g5 g6 g7
                  have hq2 := fun wz => rseal_any ⟨s, sb, is_, f, t, ca, ky, sl⟩ ky2 wz hoc.out
                  generalize hsv : sealC ⟨s, sb, is_, f, t, ca, ky, sl⟩ ky2 = sv at *
                  dsimp only [ctC] at hq2
                  replace hq2 := Lib.hid hq2
                  replace hsv := Lib.hid hsv
                  have hb2 : Hid (Below w7.heap.size w7 w7) := Below.refl _ _
                  have kz : Hid (∀ wz, Below w7.heap.size w7 wz → wz.cell? ⟨wr.heap.size, 0, none⟩ = some (Value.int .i64 s) ∧ wz.cell? ⟨wr.heap.size, 1, none⟩ = some (Value.string sb) ∧ wz.cell? ⟨wr.heap.size, 2, none⟩ = some (Value.string is_) ∧ wz.cell? ⟨wr.heap.size, 3, none⟩ = some (Value.int .i64 f) ∧ wz.cell? ⟨wr.heap.size, 4, none⟩ = some (Value.int .i64 t) ∧ wz.cell? ⟨wr.heap.size, 5, none⟩ = some (Value.bool ca) ∧ wz.cell? ⟨wr.heap.size, 6, none⟩ = some (Value.int .u64 ky) ∧ wz.cell? ⟨wr.heap.size, 7, none⟩ = some (Value.int .u64 sl) ∧ wz.cell? ⟨w5.heap.size, 6, none⟩ = some (Value.int .u64 ky2)) := fun wz h => by
                    have q0 := py.out.below h py.out.lt
                    have q1 := pb.out.below h pb.out.lt
                    exact ⟨q0.cell 0, q0.cell 1, q0.cell 2, q0.cell 3, q0.cell 4, q0.cell 5, q0.cell 6, q0.cell 7, q1.cell 6⟩
                  by_cases hsl : sl = sv
                  · subst hsl
                    have hN : Hid (verR C R rv now = runV (stepV C R rv now) (n - (k + 1)) (k + 1)) := by show _ = _; rw [hx.out, hst.out, if_neg (by simp [stepE, linkP, hsp.out, hhs.out, hsv.out])]
                    clear hx hst hsp hhs hsv
                    go_region_held3 (fun wz => wz.cell? ⟨wr.heap.size, 0, none⟩ = some (Value.int .i64 s) ∧ wz.cell? ⟨wr.heap.size, 1, none⟩ = some (Value.string sb) ∧ wz.cell? ⟨wr.heap.size, 2, none⟩ = some (Value.string is_) ∧ wz.cell? ⟨wr.heap.size, 3, none⟩ = some (Value.int .i64 f) ∧ wz.cell? ⟨wr.heap.size, 4, none⟩ = some (Value.int .i64 t) ∧ wz.cell? ⟨wr.heap.size, 5, none⟩ = some (Value.bool ca) ∧ wz.cell? ⟨wr.heap.size, 6, none⟩ = some (Value.int .u64 ky) ∧ wz.cell? ⟨wr.heap.size, 7, none⟩ = some (Value.int .u64 sl) ∧ wz.cell? ⟨w5.heap.size, 6, none⟩ = some (Value.int .u64 ky2))
                      ((refine kz.out _ ?_; (repeat (with_reducible refine below_dr ?_)); with_reducible exact hb2.out))
                      (first
                        | (go_at_call 62; refine (hq2.out _).mono ?_; rintro e w8 ⟨rfl, hbq⟩; replace hb2 : Hid (Below w7.heap.size w7 w8) := ((below_dr (Below.refl _ _)).trans hbq); clear hbq))
                    have hb := Lib.hid (hb.out.trans (hb2.out.mono hb.out.size))
                    go_wp2_with fail
                    go_roundw
                    case rel => exact ⟨k + 1, by omega, by go_num, hb.out, hN.out⟩
                    case measure => simp [intOf]; omega
                  · have hS : Hid (verR C R rv now = 7) := by show _ = _; rw [hx.out, hst.out]; simp [stepE, linkP, hsp.out, hhs.out, hsv.out, hsl]
                    clear hx hst hsp hhs hsv
                    go_region_held3 (fun wz => wz.cell? ⟨wr.heap.size, 0, none⟩ = some (Value.int .i64 s) ∧ wz.cell? ⟨wr.heap.size, 1, none⟩ = some (Value.string sb) ∧ wz.cell? ⟨wr.heap.size, 2, none⟩ = some (Value.string is_) ∧ wz.cell? ⟨wr.heap.size, 3, none⟩ = some (Value.int .i64 f) ∧ wz.cell? ⟨wr.heap.size, 4, none⟩ = some (Value.int .i64 t) ∧ wz.cell? ⟨wr.heap.size, 5, none⟩ = some (Value.bool ca) ∧ wz.cell? ⟨wr.heap.size, 6, none⟩ = some (Value.int .u64 ky) ∧ wz.cell? ⟨wr.heap.size, 7, none⟩ = some (Value.int .u64 sl) ∧ wz.cell? ⟨w5.heap.size, 6, none⟩ = some (Value.int .u64 ky2))
                      ((refine kz.out _ ?_; (repeat (with_reducible refine below_dr ?_)); with_reducible exact hb2.out))
                      (first
                        | (go_at_call 62; refine (hq2.out _).mono ?_; rintro e w8 ⟨rfl, hbq⟩; replace hb2 : Hid (Below w7.heap.size w7 w8) := ((below_dr (Below.refl _ _)).trans hbq); clear hbq))
                    have hb := Lib.hid (hb.out.trans (hb2.out.mono hb.out.size))
                    go_wp2_with fail
                    go_ret
                    exact ⟨by rw [hS.out]; rfl, hbw.out.trans (hb.out.mono hbw.out.size)⟩
              · have hi1 : k + 1 < n := by omega
                have hst := hst.out
                rw [hiB.out hi1] at hst
                clear hiA hiB
                have hi10 : (0 : Int) ≤ (k : Int) + 1 := by omega
                have hi11 : (k : Int) + 1 < n := by omega
                have hi12 : (((k : Int) + 1).toNat) = k + 1 := by omega
                obtain ⟨ad2, hA2, _, d0, d1, d2, d3, d4, d5, d6, d7⟩ := ct_cells (hC2.out.below (below_new hb.out (.cells #[Value.int .i64 0, Value.string ⟨#[]⟩, Value.string ⟨#[]⟩, Value.int .i64 0, Value.int .i64 0, Value.bool false, Value.int .u64 0, Value.int .u64 0] 52)) (Nat.le_refl _)) hi1
                cases hA2
                generalize (C[k + 1]'(by rw [hn.out]; exact hi1)) = c1 at *
                obtain ⟨s2, sb2, is_2, f2, t2, ca2, ky2, sl2⟩ := c1
                replace hst := Lib.hid hst
                cases ca2 with
                | false =>
                  have hS : Hid (verR C R rv now = 14) := by show _ = _; rw [hx.out, hst.out]; simp [stepE, linkP, hsp.out, hhs.out]
                  go_wp2_with fail
                  go_ret
                  exact ⟨by rw [hS.out]; rfl, by
                    repeat (first | (with_reducible refine below_set ?_ (by omega) _ _) | (with_reducible refine below_new ?_ _) | (with_reducible refine below_drewN ?_ _) | (with_reducible refine below_dr ?_))
                    exact hbw.out.trans (hb.out.mono hbw.out.size)⟩
                | true =>
                  by_cases h1 : is_ = sb2
                  · subst h1
                    have pb := Lib.hid (Blk.new w5 52 #[Value.int .i64 s2, Value.string is_, Value.string is_2, Value.int .i64 f2, Value.int .i64 t2, Value.bool true, Value.int .u64 ky2, Value.int .u64 sl2])
                    have py := Lib.hid (py.out.alloc (.cells #[Value.int .i64 s2, Value.string is_, Value.string is_2, Value.int .i64 f2, Value.int .i64 t2, Value.bool true, Value.int .u64 ky2, Value.int .u64 sl2] 52))
                    have hb := Lib.hid (below_new hb.out (.cells #[Value.int .i64 s2, Value.string is_, Value.string is_2, Value.int .i64 f2, Value.int .i64 t2, Value.bool true, Value.int .u64 ky2, Value.int .u64 sl2] 52))
                    have k2 : (w5.alloc (.cells #[Value.int .i64 s2, Value.string is_, Value.string is_2, Value.int .i64 f2, Value.int .i64 t2, Value.bool true, Value.int .u64 ky2, Value.int .u64 sl2] 52)).cell? ⟨wr.heap.size, 2, none⟩ = some (Value.string is_) := py.out.cell 2
                    go_wp2_with fail
                    clear k2
                    generalize w5.alloc (.cells #[Value.int .i64 s2, Value.string is_, Value.string is_2, Value.int .i64 f2, Value.int .i64 t2, Value.bool true, Value.int .u64 ky2, Value.int .u64 sl2] 52) = w7 at *
                    have hq2 := fun wz => rseal_any ⟨s, sb, is_, f, t, ca, ky, sl⟩ ky2 wz hoc.out
                    generalize hsv : sealC ⟨s, sb, is_, f, t, ca, ky, sl⟩ ky2 = sv at *
                    dsimp only [ctC] at hq2
                    replace hq2 := Lib.hid hq2
                    replace hsv := Lib.hid hsv
                    have hb2 : Hid (Below w7.heap.size w7 w7) := Below.refl _ _
                    have kz : Hid (∀ wz, Below w7.heap.size w7 wz → wz.cell? ⟨wr.heap.size, 0, none⟩ = some (Value.int .i64 s) ∧ wz.cell? ⟨wr.heap.size, 1, none⟩ = some (Value.string sb) ∧ wz.cell? ⟨wr.heap.size, 2, none⟩ = some (Value.string is_) ∧ wz.cell? ⟨wr.heap.size, 3, none⟩ = some (Value.int .i64 f) ∧ wz.cell? ⟨wr.heap.size, 4, none⟩ = some (Value.int .i64 t) ∧ wz.cell? ⟨wr.heap.size, 5, none⟩ = some (Value.bool ca) ∧ wz.cell? ⟨wr.heap.size, 6, none⟩ = some (Value.int .u64 ky) ∧ wz.cell? ⟨wr.heap.size, 7, none⟩ = some (Value.int .u64 sl) ∧ wz.cell? ⟨w5.heap.size, 6, none⟩ = some (Value.int .u64 ky2)) := fun wz h => by
                      have q0 := py.out.below h py.out.lt
                      have q1 := pb.out.below h pb.out.lt
                      exact ⟨q0.cell 0, q0.cell 1, q0.cell 2, q0.cell 3, q0.cell 4, q0.cell 5, q0.cell 6, q0.cell 7, q1.cell 6⟩
                    by_cases hsl : sl = sv
                    · subst hsl
                      have hN : Hid (verR C R rv now = runV (stepV C R rv now) (n - (k + 1)) (k + 1)) := by show _ = _; rw [hx.out, hst.out, if_neg (by simp [stepE, linkP, hsp.out, hhs.out, hsv.out])]
                      clear hx hst hsp hhs hsv
                      go_region_held3 (fun wz => wz.cell? ⟨wr.heap.size, 0, none⟩ = some (Value.int .i64 s) ∧ wz.cell? ⟨wr.heap.size, 1, none⟩ = some (Value.string sb) ∧ wz.cell? ⟨wr.heap.size, 2, none⟩ = some (Value.string is_) ∧ wz.cell? ⟨wr.heap.size, 3, none⟩ = some (Value.int .i64 f) ∧ wz.cell? ⟨wr.heap.size, 4, none⟩ = some (Value.int .i64 t) ∧ wz.cell? ⟨wr.heap.size, 5, none⟩ = some (Value.bool ca) ∧ wz.cell? ⟨wr.heap.size, 6, none⟩ = some (Value.int .u64 ky) ∧ wz.cell? ⟨wr.heap.size, 7, none⟩ = some (Value.int .u64 sl) ∧ wz.cell? ⟨w5.heap.size, 6, none⟩ = some (Value.int .u64 ky2))
                        ((refine kz.out _ ?_; (repeat (with_reducible refine below_dr ?_)); with_reducible exact hb2.out))
                        (first
                          | (go_at_call 62; refine (hq2.out _).mono ?_; rintro e w8 ⟨rfl, hbq⟩; replace hb2 : Hid (Below w7.heap.size w7 w8) := ((below_dr (Below.refl _ _)).trans hbq); clear hbq))
                      have hb := Lib.hid (hb.out.trans (hb2.out.mono hb.out.size))
                      go_wp2_with fail
                      go_roundw
                      case rel => exact ⟨k + 1, by omega, by go_num, hb.out, hN.out⟩
                      case measure => simp [intOf]; omega
                    · have hS : Hid (verR C R rv now = 7) := by show _ = _; rw [hx.out, hst.out]; simp [stepE, linkP, hsp.out, hhs.out, hsv.out, hsl]
                      clear hx hst hsp hhs hsv
                      go_region_held3 (fun wz => wz.cell? ⟨wr.heap.size, 0, none⟩ = some (Value.int .i64 s) ∧ wz.cell? ⟨wr.heap.size, 1, none⟩ = some (Value.string sb) ∧ wz.cell? ⟨wr.heap.size, 2, none⟩ = some (Value.string is_) ∧ wz.cell? ⟨wr.heap.size, 3, none⟩ = some (Value.int .i64 f) ∧ wz.cell? ⟨wr.heap.size, 4, none⟩ = some (Value.int .i64 t) ∧ wz.cell? ⟨wr.heap.size, 5, none⟩ = some (Value.bool ca) ∧ wz.cell? ⟨wr.heap.size, 6, none⟩ = some (Value.int .u64 ky) ∧ wz.cell? ⟨wr.heap.size, 7, none⟩ = some (Value.int .u64 sl) ∧ wz.cell? ⟨w5.heap.size, 6, none⟩ = some (Value.int .u64 ky2))
                        ((refine kz.out _ ?_; (repeat (with_reducible refine below_dr ?_)); with_reducible exact hb2.out))
                        (first
                          | (go_at_call 62; refine (hq2.out _).mono ?_; rintro e w8 ⟨rfl, hbq⟩; replace hb2 : Hid (Below w7.heap.size w7 w8) := ((below_dr (Below.refl _ _)).trans hbq); clear hbq))
                      have hb := Lib.hid (hb.out.trans (hb2.out.mono hb.out.size))
                      go_wp2_with fail
                      go_ret
                      exact ⟨by rw [hS.out]; rfl, hbw.out.trans (hb.out.mono hbw.out.size)⟩
                  · have h1 : ¬ sb2 = is_ := fun e => h1 e.symm
                    have h1t := str_ne h1
                    have h1b : (sb2.toList == is_.toList) = false := by simpa using h1t
                    have pyz := Lib.hid (py.out.alloc (.cells #[Value.int .i64 s2, Value.string sb2, Value.string is_2, Value.int .i64 f2, Value.int .i64 t2, Value.bool true, Value.int .u64 ky2, Value.int .u64 sl2] 52))
                    have k2 : (w5.alloc (.cells #[Value.int .i64 s2, Value.string sb2, Value.string is_2, Value.int .i64 f2, Value.int .i64 t2, Value.bool true, Value.int .u64 ky2, Value.int .u64 sl2] 52)).cell? ⟨wr.heap.size, 2, none⟩ = some (Value.string is_) := pyz.out.cell 2
                    have hS : Hid (verR C R rv now = 14) := by show _ = _; rw [hx.out, hst.out]; simp [stepE, linkP, hsp.out, hhs.out, h1]
                    go_wp2_with fail
                    go_ret
                    exact ⟨by rw [hS.out]; rfl, by
                      repeat (first | (with_reducible refine below_set ?_ (by omega) _ _) | (with_reducible refine below_new ?_ _) | (with_reducible refine below_drewN ?_ _) | (with_reducible refine below_dr ?_))
                      exact hbw.out.trans (hb.out.mono hbw.out.size)⟩
        · have hS : Hid (verR C R rv now = 0) := by show _ = _; rw [hx.out, show n - k = 0 by omega]; rfl
          go_wp2_with fail
          go_ret
          exact ⟨by rw [hS.out]; rfl, hbw.out.trans (hb.out.mono hbw.out.size)⟩
end Go.Proofs.Ytiggpgeldigknaa
