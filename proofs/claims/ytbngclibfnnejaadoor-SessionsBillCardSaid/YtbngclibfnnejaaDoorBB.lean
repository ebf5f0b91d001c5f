/- The calendar and the tariff's restriction, walked. -/
import Derived.Test.YtbngclibfnnejaaDoorBA
import Derived.Test.YtbngclibfnnejaaDoorIH
set_option linter.unusedVariables false
set_option linter.unusedSimpArgs false
namespace Go.Proofs.YtbngclibfnnejaaDoor
open Go.RowKit
set_option maxRecDepth 100000 in
set_option maxHeartbeats 4000000 in
theorem validZone_any (w : World) : Calls Tryd.prog 70 #[.agg #[Value.int .i64 0, Value.bool false]] w fun e w' => e = .returned (.bool true) ∧ Below w.heap.size w w' := by
  have hx := Lib.hid (Blk.new w 51 #[Value.int .i64 0, Value.bool false])
  have hb : Hid (Below w.heap.size w (w.alloc (.cells #[Value.int .i64 0, Value.bool false] 51))) := a1 w _
  have k0 : ((w.alloc (.cells #[Value.int .i64 0, Value.bool false] 51))).cell? ⟨w.heap.size, 0, none⟩ = some (Value.int .i64 0) := (hx.out).cell 0; have k1 : ((w.alloc (.cells #[Value.int .i64 0, Value.bool false] 51))).cell? ⟨w.heap.size, 1, none⟩ = some (Value.bool false) := (hx.out).cell 1
  go_enter Tryd.func70, Tryd.ntmps70
  go_wp2_with fail
  go_ret
  exact ⟨rfl, hb.out⟩
set_option maxRecDepth 100000 in
set_option maxHeartbeats 4000000 in
theorem isTime_any (t : Int) (w : World) (h0 : 0 ≤ t) (h1 : t ≤ 268435456) : Calls Tryd.prog 71 #[.int .i64 t] w fun e w' => e = .returned (.bool true) ∧ Below w.heap.size w w' := by
  have d0 : decide ((0 : Int) ≤ t) = true := by simpa using h0
  have d1 : decide (t ≤ 268435456) = true := by simpa using h1
  go_enter Tryd.func71, Tryd.ntmps71
  go_wp2_with fail
  go_ret
  exact ⟨rfl, Below.refl _ _⟩
set_option maxRecDepth 100000 in
set_option maxHeartbeats 4000000 in
theorem offset_any (t : Int) (w : World) : Calls Tryd.prog 73 #[.agg #[Value.int .i64 0, Value.bool false], .int .i64 t] w fun e w' => e = .returned (.int .i64 0) ∧ Below w.heap.size w w' := by
  have hx := Lib.hid (Blk.new w 51 #[Value.int .i64 0, Value.bool false])
  have hb : Hid (Below w.heap.size w (w.alloc (.cells #[Value.int .i64 0, Value.bool false] 51))) := a1 w _
  have k0 : ((w.alloc (.cells #[Value.int .i64 0, Value.bool false] 51))).cell? ⟨w.heap.size, 0, none⟩ = some (Value.int .i64 0) := (hx.out).cell 0; have k1 : ((w.alloc (.cells #[Value.int .i64 0, Value.bool false] 51))).cell? ⟨w.heap.size, 1, none⟩ = some (Value.bool false) := (hx.out).cell 1
  have hc := Lib.hid (validZone_any (w.alloc (.cells #[Value.int .i64 0, Value.bool false] 51)))
  go_enter Tryd.func73, Tryd.ntmps73
  go_wp2_with fail
  refine hc.out.mono ?_; rintro e w1 ⟨rfl, hq⟩
  replace hx := Lib.hid (hx.out.below hq hx.out.lt)
  replace hb := Lib.hid (hb.out.trans (hq.mono hb.out.size))
  clear hq hc
  have m0 : (w1).cell? ⟨w.heap.size, 0, none⟩ = some (Value.int .i64 0) := (hx.out).cell 0; have m1 : (w1).cell? ⟨w.heap.size, 1, none⟩ = some (Value.bool false) := (hx.out).cell 1
  go_wp2_with fail
  go_ret
  exact ⟨rfl, hb.out⟩
set_option maxRecDepth 100000 in
set_option maxHeartbeats 4000000 in
theorem local_any (t : Int) (w : World) (hg : GlobOk w) (h0 : 0 ≤ t) (h1 : t ≤ 268435456) : Calls Tryd.prog 66 #[.agg #[Value.int .i64 0, Value.bool false], .int .i64 t] w fun e w' => (∃ a b c d m : Int, e = .returned (.tuple #[.agg #[Value.int .i64 a, Value.int .i64 b, Value.int .i64 c, Value.int .i64 d, Value.int .i64 m], .int .i64 0]) ∧ 1 ≤ d ∧ d ≤ 7) ∧ Below w.heap.size w w' := by
  have hx0 := Blk.new w 51 #[Value.int .i64 0, Value.bool false]
  have hy0 := Blk.new (w.alloc (.cells #[Value.int .i64 0, Value.bool false] 51)) 141 #[Value.int .i64 0, Value.int .i64 0, Value.int .i64 0, Value.int .i64 0, Value.int .i64 0]
  rw [show (w.alloc (.cells #[Value.int .i64 0, Value.bool false] 51)).heap.size = w.heap.size + 1 by simp] at hy0
  have hb0 : Below w.heap.size w ((w.alloc (.cells #[Value.int .i64 0, Value.bool false] 51)).alloc (.cells #[Value.int .i64 0, Value.int .i64 0, Value.int .i64 0, Value.int .i64 0, Value.int .i64 0] 141)) := below_new (a1 w _) _
  have hx1 : Blk ((w.alloc (.cells #[Value.int .i64 0, Value.bool false] 51)).alloc (.cells #[Value.int .i64 0, Value.int .i64 0, Value.int .i64 0, Value.int .i64 0, Value.int .i64 0] 141)) w.heap.size 51 #[Value.int .i64 0, Value.bool false] := hx0.below (a1 _ _) (by simp)
  have hx := Lib.hid hx1
  have hy := Lib.hid hy0
  have hb := Lib.hid hb0
  have hG := Lib.hid (hg.more hb0)
  clear hx0 hy0 hx1 hb0
  have hvz := Lib.hid (fun w => validZone_any w)
  have hit := Lib.hid (fun w => isTime_any t w h0 h1)
  have hof := Lib.hid (fun w => offset_any t w)
  have hci := Lib.hid (fun w hg => civil_any t w hg h0 h1)
  have k0 : (((w.alloc (.cells #[Value.int .i64 0, Value.bool false] 51)).alloc (.cells #[Value.int .i64 0, Value.int .i64 0, Value.int .i64 0, Value.int .i64 0, Value.int .i64 0] 141))).cell? ⟨w.heap.size, 0, none⟩ = some (Value.int .i64 0) := (hx.out).cell 0; have k1 : (((w.alloc (.cells #[Value.int .i64 0, Value.bool false] 51)).alloc (.cells #[Value.int .i64 0, Value.int .i64 0, Value.int .i64 0, Value.int .i64 0, Value.int .i64 0] 141))).cell? ⟨w.heap.size, 1, none⟩ = some (Value.bool false) := (hx.out).cell 1
  go_enter Tryd.func66, Tryd.ntmps66
  go_wp2_with fail
  refine (hvz.out _).mono ?_; rintro e w1 ⟨rfl, hq⟩
  replace hx := Lib.hid (hx.out.below hq hx.out.lt)
  replace hy := Lib.hid (hy.out.below hq hy.out.lt)
  replace hb := Lib.hid (hb.out.trans (hq.mono hb.out.size))
  replace hG := Lib.hid (hG.out.more hq)
  clear hq hvz
  go_wp2_with fail
  refine (hit.out _).mono ?_; rintro e w2 ⟨rfl, hq⟩
  replace hx := Lib.hid (hx.out.below hq hx.out.lt)
  replace hy := Lib.hid (hy.out.below hq hy.out.lt)
  replace hb := Lib.hid (hb.out.trans (hq.mono hb.out.size))
  replace hG := Lib.hid (hG.out.more hq)
  clear hq hit
  have n0 : (w2).cell? ⟨w.heap.size, 0, none⟩ = some (Value.int .i64 0) := (hx.out).cell 0; have n1 : (w2).cell? ⟨w.heap.size, 1, none⟩ = some (Value.bool false) := (hx.out).cell 1
  go_wp2_with fail
  refine (hof.out _).mono ?_; rintro e w3 ⟨rfl, hq⟩
  replace hy := Lib.hid (hy.out.below hq hy.out.lt)
  replace hb := Lib.hid (hb.out.trans (hq.mono hb.out.size))
  replace hG := Lib.hid (hG.out.more hq)
  clear hq hof
  go_wp2_with fail
  refine (hci.out _ hG.out).mono ?_; rintro e w4 ⟨⟨a, b, c, d, m, rfl, hd1, hd7⟩, hq⟩
  replace hy := Lib.hid (hy.out.below hq hy.out.lt)
  replace hb := Lib.hid (hb.out.trans (hq.mono hb.out.size))
  replace hd1 := Lib.hid hd1
  replace hd7 := Lib.hid hd7
  clear hq hci
  have c0 : (w4).cell? ⟨(w.heap.size + 1), 0, none⟩ = some (Value.int .i64 0) := (hy.out).cell 0; have c1 : (w4).cell? ⟨(w.heap.size + 1), 1, none⟩ = some (Value.int .i64 0) := (hy.out).cell 1; have c2 : (w4).cell? ⟨(w.heap.size + 1), 2, none⟩ = some (Value.int .i64 0) := (hy.out).cell 2; have c3 : (w4).cell? ⟨(w.heap.size + 1), 3, none⟩ = some (Value.int .i64 0) := (hy.out).cell 3; have c4 : (w4).cell? ⟨(w.heap.size + 1), 4, none⟩ = some (Value.int .i64 0) := (hy.out).cell 4; have z0 : (w4).frozen? ⟨(w.heap.size + 1), 0, none⟩ = false := (hy.out).frozen 0; have z1 : (w4).frozen? ⟨(w.heap.size + 1), 1, none⟩ = false := (hy.out).frozen 1; have z2 : (w4).frozen? ⟨(w.heap.size + 1), 2, none⟩ = false := (hy.out).frozen 2; have z3 : (w4).frozen? ⟨(w.heap.size + 1), 3, none⟩ = false := (hy.out).frozen 3; have z4 : (w4).frozen? ⟨(w.heap.size + 1), 4, none⟩ = false := (hy.out).frozen 4
  go_wp2_with fail
  (try simp only [Exit.inBlock, Exit.then])
  have hRf : Blk (((((w4.setCell ⟨(w.heap.size + 1), 0, none⟩ (Value.int .i64 a)).setCell ⟨(w.heap.size + 1), 1, none⟩ (Value.int .i64 b)).setCell ⟨(w.heap.size + 1), 2, none⟩ (Value.int .i64 c)).setCell ⟨(w.heap.size + 1), 3, none⟩ (Value.int .i64 d)).setCell ⟨(w.heap.size + 1), 4, none⟩ (Value.int .i64 m)) (w.heap.size + 1) 141 #[Value.int .i64 a, Value.int .i64 b, Value.int .i64 c, Value.int .i64 d, Value.int .i64 m] := ((((hy.out.set_ 0 _).set_ 1 _).set_ 2 _).set_ 3 _).set_ 4 _
  refine bodyPost_ret (v := .tuple #[.agg #[Value.int .i64 a, Value.int .i64 b, Value.int .i64 c, Value.int .i64 d, Value.int .i64 m], .int .i64 0]) ?_ rfl ?_
  · refine (res2 (fn := Tryd.f66) (p := 4) (u := 5) (ty := 141) rfl _ _ (w.heap.size + 1) 141 _ (0, 0) _ ?_ hRf Tryd.underlying141 rfl (by kernel_rfl)).trans ?_
    · rfl
    · rfl
  · exact ⟨⟨_, _, _, _, _, rfl, hd1.out, hd7.out⟩, below_set (below_set (below_set (below_set (below_set hb.out (by omega) 0 _) (by omega) 1 _) (by omega) 2 _) (by omega) 3 _) (by omega) 4 _⟩
set_option maxRecDepth 100000 in
set_option maxHeartbeats 4000000 in
theorem onDay_any (d : Int) (w : World) : Calls Tryd.prog 74 #[.int .i64 0, .int .i64 d] w fun e w' => e = .returned (.bool true) ∧ Below w.heap.size w w' := by
  go_enter Tryd.func74, Tryd.ntmps74
  go_wp2_with fail
  go_ret
  exact ⟨rfl, Below.refl _ _⟩
set_option maxRecDepth 100000 in
set_option maxHeartbeats 4000000 in
theorem inHours_any (d m : Int) (w : World) : Calls Tryd.prog 67 #[.agg #[Value.int .i64 0, Value.int .i64 0, Value.int .i64 0, Value.int .i64 (-1), Value.int .i64 (-1), Value.int .i64 (-1), Value.int .i64 (-1), Value.int .i64 (-1), Value.int .i64 (-1), Value.int .i64 (-1), Value.int .i64 (-1)], .int .i64 d, .int .i64 m] w fun e w' => e = .returned (.bool true) ∧ Below w.heap.size w w' := by
  have hx := Lib.hid (Blk.new w 28 #[Value.int .i64 0, Value.int .i64 0, Value.int .i64 0, Value.int .i64 (-1), Value.int .i64 (-1), Value.int .i64 (-1), Value.int .i64 (-1), Value.int .i64 (-1), Value.int .i64 (-1), Value.int .i64 (-1), Value.int .i64 (-1)])
  have hb : Hid (Below w.heap.size w (w.alloc (.cells #[Value.int .i64 0, Value.int .i64 0, Value.int .i64 0, Value.int .i64 (-1), Value.int .i64 (-1), Value.int .i64 (-1), Value.int .i64 (-1), Value.int .i64 (-1), Value.int .i64 (-1), Value.int .i64 (-1), Value.int .i64 (-1)] 28))) := a1 w _
  have k0 : ((w.alloc (.cells #[Value.int .i64 0, Value.int .i64 0, Value.int .i64 0, Value.int .i64 (-1), Value.int .i64 (-1), Value.int .i64 (-1), Value.int .i64 (-1), Value.int .i64 (-1), Value.int .i64 (-1), Value.int .i64 (-1), Value.int .i64 (-1)] 28))).cell? ⟨w.heap.size, 0, none⟩ = some (Value.int .i64 0) := (hx.out).cell 0; have k1 : ((w.alloc (.cells #[Value.int .i64 0, Value.int .i64 0, Value.int .i64 0, Value.int .i64 (-1), Value.int .i64 (-1), Value.int .i64 (-1), Value.int .i64 (-1), Value.int .i64 (-1), Value.int .i64 (-1), Value.int .i64 (-1), Value.int .i64 (-1)] 28))).cell? ⟨w.heap.size, 1, none⟩ = some (Value.int .i64 0) := (hx.out).cell 1; have k2 : ((w.alloc (.cells #[Value.int .i64 0, Value.int .i64 0, Value.int .i64 0, Value.int .i64 (-1), Value.int .i64 (-1), Value.int .i64 (-1), Value.int .i64 (-1), Value.int .i64 (-1), Value.int .i64 (-1), Value.int .i64 (-1), Value.int .i64 (-1)] 28))).cell? ⟨w.heap.size, 2, none⟩ = some (Value.int .i64 0) := (hx.out).cell 2
  have hc := Lib.hid (onDay_any d (w.alloc (.cells #[Value.int .i64 0, Value.int .i64 0, Value.int .i64 0, Value.int .i64 (-1), Value.int .i64 (-1), Value.int .i64 (-1), Value.int .i64 (-1), Value.int .i64 (-1), Value.int .i64 (-1), Value.int .i64 (-1), Value.int .i64 (-1)] 28)))
  go_enter Tryd.func67, Tryd.ntmps67
  go_wp2_with fail
  refine hc.out.mono ?_; rintro e w1 ⟨rfl, hq⟩
  replace hb := Lib.hid (hb.out.trans (hq.mono hb.out.size))
  clear hq hc
  go_wp2_with fail
  go_ret
  exact ⟨rfl, hb.out⟩
set_option maxRecDepth 100000 in
set_option maxHeartbeats 4000000 in
theorem within_any (g : Nat) (a b c d : Int) (w : World) (h : Blk w g 147 #[Value.int .i64 a, Value.int .i64 (-1), Value.int .i64 (-1), Value.int .i64 b, Value.int .i64 (-1), Value.int .i64 (-1), Value.int .i64 c, Value.int .i64 (-1), Value.int .i64 (-1), Value.int .i64 d, Value.int .i64 (-1), Value.int .i64 (-1)]) : Calls Tryd.prog 68 #[.slice (some ⟨g, 0, none⟩) 4 4] w fun e w' => e = .returned (.bool true) ∧ Below w.heap.size w w' := by
  replace h := Lib.hid h
  go_enter Tryd.func68, Tryd.ntmps68
  go_wp2_with fail
  go_loopw [7] (fun i wr => ∃ k : Nat, k ≤ 4 ∧ i = .int .i64 k ∧ Hid (Below w.heap.size w wr)) (fun i _ => 4 - (intOf i).toNat)
  case atStart => exact ⟨0, Nat.zero_le _, rfl, Below.refl _ _⟩
  case round =>
    obtain ⟨k, hk, rfl, hbL⟩ := hrel
    have hB := Lib.hid (h.out.below hbL.out h.out.lt)
    rcases (show k = 0 ∨ k = 1 ∨ k = 2 ∨ k = 3 ∨ k = 4 by omega) with rfl | rfl | rfl | rfl | rfl
    · have c0 : wr.cell? ⟨g, 0, none⟩ = some (Value.int .i64 a) := hB.out.cell 0; have c1 : wr.cell? ⟨g, 1, none⟩ = some (Value.int .i64 (-1)) := hB.out.cell 1; have c2 : wr.cell? ⟨g, 2, none⟩ = some (Value.int .i64 (-1)) := hB.out.cell 2
      have hb2 : Hid (Below w.heap.size w (wr.alloc (.cells #[Value.int .i64 a, Value.int .i64 (-1), Value.int .i64 (-1)] 147))) := hbL.out.alloc hbL.out.size _
      have hy := Lib.hid (Blk.new wr 147 #[Value.int .i64 a, Value.int .i64 (-1), Value.int .i64 (-1)])
      have m0 : ((wr.alloc (.cells #[Value.int .i64 a, Value.int .i64 (-1), Value.int .i64 (-1)] 147))).cell? ⟨wr.heap.size, 0, none⟩ = some (Value.int .i64 a) := (hy.out).cell 0; have m1 : ((wr.alloc (.cells #[Value.int .i64 a, Value.int .i64 (-1), Value.int .i64 (-1)] 147))).cell? ⟨wr.heap.size, 1, none⟩ = some (Value.int .i64 (-1)) := (hy.out).cell 1; have m2 : ((wr.alloc (.cells #[Value.int .i64 a, Value.int .i64 (-1), Value.int .i64 (-1)] 147))).cell? ⟨wr.heap.size, 2, none⟩ = some (Value.int .i64 (-1)) := (hy.out).cell 2
      clear hk hbL
      go_wp2_with fail
      go_roundw
      case rel => exact ⟨1, by omega, by go_num, hb2.out⟩
      case measure => simp [intOf]
    · have c0 : wr.cell? ⟨g, 3, none⟩ = some (Value.int .i64 b) := hB.out.cell 3; have c1 : wr.cell? ⟨g, 4, none⟩ = some (Value.int .i64 (-1)) := hB.out.cell 4; have c2 : wr.cell? ⟨g, 5, none⟩ = some (Value.int .i64 (-1)) := hB.out.cell 5
      have hb2 : Hid (Below w.heap.size w (wr.alloc (.cells #[Value.int .i64 b, Value.int .i64 (-1), Value.int .i64 (-1)] 147))) := hbL.out.alloc hbL.out.size _
      have hy := Lib.hid (Blk.new wr 147 #[Value.int .i64 b, Value.int .i64 (-1), Value.int .i64 (-1)])
      have m0 : ((wr.alloc (.cells #[Value.int .i64 b, Value.int .i64 (-1), Value.int .i64 (-1)] 147))).cell? ⟨wr.heap.size, 0, none⟩ = some (Value.int .i64 b) := (hy.out).cell 0; have m1 : ((wr.alloc (.cells #[Value.int .i64 b, Value.int .i64 (-1), Value.int .i64 (-1)] 147))).cell? ⟨wr.heap.size, 1, none⟩ = some (Value.int .i64 (-1)) := (hy.out).cell 1; have m2 : ((wr.alloc (.cells #[Value.int .i64 b, Value.int .i64 (-1), Value.int .i64 (-1)] 147))).cell? ⟨wr.heap.size, 2, none⟩ = some (Value.int .i64 (-1)) := (hy.out).cell 2
      clear hk hbL
      go_wp2_with fail
      go_roundw
      case rel => exact ⟨2, by omega, by go_num, hb2.out⟩
      case measure => simp [intOf]
    · have c0 : wr.cell? ⟨g, 6, none⟩ = some (Value.int .i64 c) := hB.out.cell 6; have c1 : wr.cell? ⟨g, 7, none⟩ = some (Value.int .i64 (-1)) := hB.out.cell 7; have c2 : wr.cell? ⟨g, 8, none⟩ = some (Value.int .i64 (-1)) := hB.out.cell 8
      have hb2 : Hid (Below w.heap.size w (wr.alloc (.cells #[Value.int .i64 c, Value.int .i64 (-1), Value.int .i64 (-1)] 147))) := hbL.out.alloc hbL.out.size _
      have hy := Lib.hid (Blk.new wr 147 #[Value.int .i64 c, Value.int .i64 (-1), Value.int .i64 (-1)])
      have m0 : ((wr.alloc (.cells #[Value.int .i64 c, Value.int .i64 (-1), Value.int .i64 (-1)] 147))).cell? ⟨wr.heap.size, 0, none⟩ = some (Value.int .i64 c) := (hy.out).cell 0; have m1 : ((wr.alloc (.cells #[Value.int .i64 c, Value.int .i64 (-1), Value.int .i64 (-1)] 147))).cell? ⟨wr.heap.size, 1, none⟩ = some (Value.int .i64 (-1)) := (hy.out).cell 1; have m2 : ((wr.alloc (.cells #[Value.int .i64 c, Value.int .i64 (-1), Value.int .i64 (-1)] 147))).cell? ⟨wr.heap.size, 2, none⟩ = some (Value.int .i64 (-1)) := (hy.out).cell 2
      clear hk hbL
      go_wp2_with fail
      go_roundw
      case rel => exact ⟨3, by omega, by go_num, hb2.out⟩
      case measure => simp [intOf]
    · have c0 : wr.cell? ⟨g, 9, none⟩ = some (Value.int .i64 d) := hB.out.cell 9; have c1 : wr.cell? ⟨g, 10, none⟩ = some (Value.int .i64 (-1)) := hB.out.cell 10; have c2 : wr.cell? ⟨g, 11, none⟩ = some (Value.int .i64 (-1)) := hB.out.cell 11
      have hb2 : Hid (Below w.heap.size w (wr.alloc (.cells #[Value.int .i64 d, Value.int .i64 (-1), Value.int .i64 (-1)] 147))) := hbL.out.alloc hbL.out.size _
      have hy := Lib.hid (Blk.new wr 147 #[Value.int .i64 d, Value.int .i64 (-1), Value.int .i64 (-1)])
      have m0 : ((wr.alloc (.cells #[Value.int .i64 d, Value.int .i64 (-1), Value.int .i64 (-1)] 147))).cell? ⟨wr.heap.size, 0, none⟩ = some (Value.int .i64 d) := (hy.out).cell 0; have m1 : ((wr.alloc (.cells #[Value.int .i64 d, Value.int .i64 (-1), Value.int .i64 (-1)] 147))).cell? ⟨wr.heap.size, 1, none⟩ = some (Value.int .i64 (-1)) := (hy.out).cell 1; have m2 : ((wr.alloc (.cells #[Value.int .i64 d, Value.int .i64 (-1), Value.int .i64 (-1)] 147))).cell? ⟨wr.heap.size, 2, none⟩ = some (Value.int .i64 (-1)) := (hy.out).cell 2
      clear hk hbL
      go_wp2_with fail
      go_roundw
      case rel => exact ⟨4, by omega, by go_num, hb2.out⟩
      case measure => simp [intOf]
    · clear hk
      go_wp2_with fail
      go_ret
      exact ⟨rfl, hbL.out⟩
end Go.Proofs.YtbngclibfnnejaaDoor
