/- The tariff's component in force, walked. -/
import Derived.Test.YtbngclibfnnejaaDoorBB
set_option linter.unusedVariables false
set_option linter.unusedSimpArgs false
namespace Go.Proofs.YtbngclibfnnejaaDoor
open Go.RowKit
set_option maxRecDepth 100000 in
set_option maxHeartbeats 4000000 in
theorem holds_any (at_ si en po : Int) (w : World) (hg : GlobOk w) (h0 : 0 ≤ at_) (h1 : at_ ≤ 268435456) : Calls Tryd.prog 64 #[.agg #[Value.int .i64 0, Value.int .i64 0, Value.int .i64 0, Value.int .i64 (-1), Value.int .i64 (-1), Value.int .i64 (-1), Value.int .i64 (-1), Value.int .i64 (-1), Value.int .i64 (-1), Value.int .i64 (-1), Value.int .i64 (-1)], .agg #[Value.int .i64 0, Value.bool false], .int .i64 at_, .int .i64 si, .int .i64 en, .int .i64 po] w fun e w' => e = .returned (.bool true) ∧ Below w.heap.size w w' := by
  have hx0 := Blk.new w 28 #[Value.int .i64 0, Value.int .i64 0, Value.int .i64 0, Value.int .i64 (-1), Value.int .i64 (-1), Value.int .i64 (-1), Value.int .i64 (-1), Value.int .i64 (-1), Value.int .i64 (-1), Value.int .i64 (-1), Value.int .i64 (-1)]
  have hy0 := Blk.new (w.alloc (.cells #[Value.int .i64 0, Value.int .i64 0, Value.int .i64 0, Value.int .i64 (-1), Value.int .i64 (-1), Value.int .i64 (-1), Value.int .i64 (-1), Value.int .i64 (-1), Value.int .i64 (-1), Value.int .i64 (-1), Value.int .i64 (-1)] 28)) 51 #[Value.int .i64 0, Value.bool false]
  rw [show (w.alloc (.cells #[Value.int .i64 0, Value.int .i64 0, Value.int .i64 0, Value.int .i64 (-1), Value.int .i64 (-1), Value.int .i64 (-1), Value.int .i64 (-1), Value.int .i64 (-1), Value.int .i64 (-1), Value.int .i64 (-1), Value.int .i64 (-1)] 28)).heap.size = w.heap.size + 1 by simp] at hy0
  have hb0 : Below w.heap.size w ((w.alloc (.cells #[Value.int .i64 0, Value.int .i64 0, Value.int .i64 0, Value.int .i64 (-1), Value.int .i64 (-1), Value.int .i64 (-1), Value.int .i64 (-1), Value.int .i64 (-1), Value.int .i64 (-1), Value.int .i64 (-1), Value.int .i64 (-1)] 28)).alloc (.cells #[Value.int .i64 0, Value.bool false] 51)) := below_new (a1 w _) _
  have hx1 : Blk ((w.alloc (.cells #[Value.int .i64 0, Value.int .i64 0, Value.int .i64 0, Value.int .i64 (-1), Value.int .i64 (-1), Value.int .i64 (-1), Value.int .i64 (-1), Value.int .i64 (-1), Value.int .i64 (-1), Value.int .i64 (-1), Value.int .i64 (-1)] 28)).alloc (.cells #[Value.int .i64 0, Value.bool false] 51)) w.heap.size 28 #[Value.int .i64 0, Value.int .i64 0, Value.int .i64 0, Value.int .i64 (-1), Value.int .i64 (-1), Value.int .i64 (-1), Value.int .i64 (-1), Value.int .i64 (-1), Value.int .i64 (-1), Value.int .i64 (-1), Value.int .i64 (-1)] := hx0.below (a1 _ _) (by simp)
  have hx := Lib.hid hx1
  have hy := Lib.hid hy0
  have hb := Lib.hid hb0
  have hG := Lib.hid (hg.more hb0)
  have hc := local_any at_ ((w.alloc (.cells #[Value.int .i64 0, Value.int .i64 0, Value.int .i64 0, Value.int .i64 (-1), Value.int .i64 (-1), Value.int .i64 (-1), Value.int .i64 (-1), Value.int .i64 (-1), Value.int .i64 (-1), Value.int .i64 (-1), Value.int .i64 (-1)] 28)).alloc (.cells #[Value.int .i64 0, Value.bool false] 51)) (hg.more hb0) h0 h1
  replace hc := Lib.hid hc
  clear hx0 hy0 hx1 hb0 hg
  have hih := Lib.hid (fun d m w => inHours_any d m w)
  have hwi := Lib.hid (fun g a b c d w h => within_any g a b c d w h)
  have k0 : (((w.alloc (.cells #[Value.int .i64 0, Value.int .i64 0, Value.int .i64 0, Value.int .i64 (-1), Value.int .i64 (-1), Value.int .i64 (-1), Value.int .i64 (-1), Value.int .i64 (-1), Value.int .i64 (-1), Value.int .i64 (-1), Value.int .i64 (-1)] 28)).alloc (.cells #[Value.int .i64 0, Value.bool false] 51))).cell? ⟨(w.heap.size + 1), 0, none⟩ = some (Value.int .i64 0) := (hy.out).cell 0; have k1 : (((w.alloc (.cells #[Value.int .i64 0, Value.int .i64 0, Value.int .i64 0, Value.int .i64 (-1), Value.int .i64 (-1), Value.int .i64 (-1), Value.int .i64 (-1), Value.int .i64 (-1), Value.int .i64 (-1), Value.int .i64 (-1), Value.int .i64 (-1)] 28)).alloc (.cells #[Value.int .i64 0, Value.bool false] 51))).cell? ⟨(w.heap.size + 1), 1, none⟩ = some (Value.bool false) := (hy.out).cell 1
  go_enter Tryd.func64, Tryd.ntmps64
  go_wp2_with fail
  refine hc.out.mono ?_; rintro e w1 ⟨⟨a, b, c, d, m, rfl, hd1, hd7⟩, hq⟩
  replace hx := Lib.hid (hx.out.below (hq.trans (a1 w1 (.cells #[Value.int .i64 a, Value.int .i64 b, Value.int .i64 c, Value.int .i64 d, Value.int .i64 m] 141) |>.mono hq.size)) hx.out.lt)
  replace hb := Lib.hid (hb.out.trans ((hq.trans (a1 w1 (.cells #[Value.int .i64 a, Value.int .i64 b, Value.int .i64 c, Value.int .i64 d, Value.int .i64 m] 141) |>.mono hq.size)).mono hb.out.size))
  have hD := Lib.hid (Blk.new w1 141 #[Value.int .i64 a, Value.int .i64 b, Value.int .i64 c, Value.int .i64 d, Value.int .i64 m])
  clear hq hc
  have d1 : decide (d < 1) = false := by simp; omega
  have d7 : decide (7 < d) = false := by simp; omega
  replace hd1 := Lib.hid hd1
  replace hd7 := Lib.hid hd7
  have c0 : ((w1.alloc (.cells #[Value.int .i64 a, Value.int .i64 b, Value.int .i64 c, Value.int .i64 d, Value.int .i64 m] 141))).cell? ⟨w1.heap.size, 0, none⟩ = some (Value.int .i64 a) := (hD.out).cell 0; have c1 : ((w1.alloc (.cells #[Value.int .i64 a, Value.int .i64 b, Value.int .i64 c, Value.int .i64 d, Value.int .i64 m] 141))).cell? ⟨w1.heap.size, 1, none⟩ = some (Value.int .i64 b) := (hD.out).cell 1; have c2 : ((w1.alloc (.cells #[Value.int .i64 a, Value.int .i64 b, Value.int .i64 c, Value.int .i64 d, Value.int .i64 m] 141))).cell? ⟨w1.heap.size, 2, none⟩ = some (Value.int .i64 c) := (hD.out).cell 2; have c3 : ((w1.alloc (.cells #[Value.int .i64 a, Value.int .i64 b, Value.int .i64 c, Value.int .i64 d, Value.int .i64 m] 141))).cell? ⟨w1.heap.size, 3, none⟩ = some (Value.int .i64 d) := (hD.out).cell 3; have c4 : ((w1.alloc (.cells #[Value.int .i64 a, Value.int .i64 b, Value.int .i64 c, Value.int .i64 d, Value.int .i64 m] 141))).cell? ⟨w1.heap.size, 4, none⟩ = some (Value.int .i64 m) := (hD.out).cell 4
  have v0 : ((w1.alloc (.cells #[Value.int .i64 a, Value.int .i64 b, Value.int .i64 c, Value.int .i64 d, Value.int .i64 m] 141))).cell? ⟨w.heap.size, 0, none⟩ = some (Value.int .i64 0) := (hx.out).cell 0; have v1 : ((w1.alloc (.cells #[Value.int .i64 a, Value.int .i64 b, Value.int .i64 c, Value.int .i64 d, Value.int .i64 m] 141))).cell? ⟨w.heap.size, 1, none⟩ = some (Value.int .i64 0) := (hx.out).cell 1; have v2 : ((w1.alloc (.cells #[Value.int .i64 a, Value.int .i64 b, Value.int .i64 c, Value.int .i64 d, Value.int .i64 m] 141))).cell? ⟨w.heap.size, 2, none⟩ = some (Value.int .i64 0) := (hx.out).cell 2; have v3 : ((w1.alloc (.cells #[Value.int .i64 a, Value.int .i64 b, Value.int .i64 c, Value.int .i64 d, Value.int .i64 m] 141))).cell? ⟨w.heap.size, 3, none⟩ = some (Value.int .i64 (-1)) := (hx.out).cell 3; have v4 : ((w1.alloc (.cells #[Value.int .i64 a, Value.int .i64 b, Value.int .i64 c, Value.int .i64 d, Value.int .i64 m] 141))).cell? ⟨w.heap.size, 4, none⟩ = some (Value.int .i64 (-1)) := (hx.out).cell 4; have v5 : ((w1.alloc (.cells #[Value.int .i64 a, Value.int .i64 b, Value.int .i64 c, Value.int .i64 d, Value.int .i64 m] 141))).cell? ⟨w.heap.size, 5, none⟩ = some (Value.int .i64 (-1)) := (hx.out).cell 5; have v6 : ((w1.alloc (.cells #[Value.int .i64 a, Value.int .i64 b, Value.int .i64 c, Value.int .i64 d, Value.int .i64 m] 141))).cell? ⟨w.heap.size, 6, none⟩ = some (Value.int .i64 (-1)) := (hx.out).cell 6; have v7 : ((w1.alloc (.cells #[Value.int .i64 a, Value.int .i64 b, Value.int .i64 c, Value.int .i64 d, Value.int .i64 m] 141))).cell? ⟨w.heap.size, 7, none⟩ = some (Value.int .i64 (-1)) := (hx.out).cell 7; have v8 : ((w1.alloc (.cells #[Value.int .i64 a, Value.int .i64 b, Value.int .i64 c, Value.int .i64 d, Value.int .i64 m] 141))).cell? ⟨w.heap.size, 8, none⟩ = some (Value.int .i64 (-1)) := (hx.out).cell 8; have v9 : ((w1.alloc (.cells #[Value.int .i64 a, Value.int .i64 b, Value.int .i64 c, Value.int .i64 d, Value.int .i64 m] 141))).cell? ⟨w.heap.size, 9, none⟩ = some (Value.int .i64 (-1)) := (hx.out).cell 9; have v10 : ((w1.alloc (.cells #[Value.int .i64 a, Value.int .i64 b, Value.int .i64 c, Value.int .i64 d, Value.int .i64 m] 141))).cell? ⟨w.heap.size, 10, none⟩ = some (Value.int .i64 (-1)) := (hx.out).cell 10
  go_wp2_with fail
  refine (hih.out d m _).mono ?_; rintro e w2 ⟨rfl, hq⟩
  replace hx := Lib.hid (hx.out.below hq hx.out.lt)
  replace hb := Lib.hid (hb.out.trans (hq.mono hb.out.size))
  clear hq hih
  have hW := Lib.hid (Blk.new w2 147 #[Value.int .i64 at_, Value.int .i64 (-1), Value.int .i64 (-1), Value.int .i64 en, Value.int .i64 (-1), Value.int .i64 (-1), Value.int .i64 po, Value.int .i64 (-1), Value.int .i64 (-1), Value.int .i64 si, Value.int .i64 (-1), Value.int .i64 (-1)])
  have hcw := Lib.hid (hwi.out w2.heap.size at_ en po si (w2.alloc (.cells #[Value.int .i64 at_, Value.int .i64 (-1), Value.int .i64 (-1), Value.int .i64 en, Value.int .i64 (-1), Value.int .i64 (-1), Value.int .i64 po, Value.int .i64 (-1), Value.int .i64 (-1), Value.int .i64 si, Value.int .i64 (-1), Value.int .i64 (-1)] 147)) hW.out)
  replace hb := Lib.hid (hb.out.trans ((a1 w2 (.cells #[Value.int .i64 at_, Value.int .i64 (-1), Value.int .i64 (-1), Value.int .i64 en, Value.int .i64 (-1), Value.int .i64 (-1), Value.int .i64 po, Value.int .i64 (-1), Value.int .i64 (-1), Value.int .i64 si, Value.int .i64 (-1), Value.int .i64 (-1)] 147)).mono hb.out.size))
  have v0 : (w2).cell? ⟨w.heap.size, 0, none⟩ = some (Value.int .i64 0) := (hx.out).cell 0; have v1 : (w2).cell? ⟨w.heap.size, 1, none⟩ = some (Value.int .i64 0) := (hx.out).cell 1; have v2 : (w2).cell? ⟨w.heap.size, 2, none⟩ = some (Value.int .i64 0) := (hx.out).cell 2; have v3 : (w2).cell? ⟨w.heap.size, 3, none⟩ = some (Value.int .i64 (-1)) := (hx.out).cell 3; have v4 : (w2).cell? ⟨w.heap.size, 4, none⟩ = some (Value.int .i64 (-1)) := (hx.out).cell 4; have v5 : (w2).cell? ⟨w.heap.size, 5, none⟩ = some (Value.int .i64 (-1)) := (hx.out).cell 5; have v6 : (w2).cell? ⟨w.heap.size, 6, none⟩ = some (Value.int .i64 (-1)) := (hx.out).cell 6; have v7 : (w2).cell? ⟨w.heap.size, 7, none⟩ = some (Value.int .i64 (-1)) := (hx.out).cell 7; have v8 : (w2).cell? ⟨w.heap.size, 8, none⟩ = some (Value.int .i64 (-1)) := (hx.out).cell 8; have v9 : (w2).cell? ⟨w.heap.size, 9, none⟩ = some (Value.int .i64 (-1)) := (hx.out).cell 9; have v10 : (w2).cell? ⟨w.heap.size, 10, none⟩ = some (Value.int .i64 (-1)) := (hx.out).cell 10
  clear hwi
  go_wp2_with fail
  refine hcw.out.mono ?_; rintro e w3 ⟨rfl, hq⟩
  replace hb := Lib.hid (hb.out.trans (hq.mono hb.out.size))
  clear hq hcw
  go_wp2_with fail
  go_ret
  exact ⟨rfl, hb.out⟩
set_option maxRecDepth 100000 in
set_option maxHeartbeats 4000000 in
theorem find1_any (cost rate : Int) (g : Nat) (w : World) (hk : w.cell? ⟨g, 0, none⟩ = some (.int .i64 2)) : Calls Tryd.prog 63 #[.agg #[Value.int .i64 2, Value.int .i64 cost, Value.int .i64 1, Value.int .i64 rate], .pointer (some ⟨g, 0, none⟩)] w fun e w' => e = .returned (.bool true) ∧ Below w.heap.size w w' := by
  have hx := Lib.hid (Blk.new w 32 #[Value.int .i64 2, Value.int .i64 cost, Value.int .i64 1, Value.int .i64 rate])
  have hb : Hid (Below w.heap.size w (w.alloc (.cells #[Value.int .i64 2, Value.int .i64 cost, Value.int .i64 1, Value.int .i64 rate] 32))) := a1 w _
  have hk2 := cell_alloc hk (.cells #[Value.int .i64 2, Value.int .i64 cost, Value.int .i64 1, Value.int .i64 rate] 32)
  have k0 : ((w.alloc (.cells #[Value.int .i64 2, Value.int .i64 cost, Value.int .i64 1, Value.int .i64 rate] 32))).cell? ⟨w.heap.size, 0, none⟩ = some (Value.int .i64 2) := (hx.out).cell 0; have k1 : ((w.alloc (.cells #[Value.int .i64 2, Value.int .i64 cost, Value.int .i64 1, Value.int .i64 rate] 32))).cell? ⟨w.heap.size, 1, none⟩ = some (Value.int .i64 cost) := (hx.out).cell 1; have k2 : ((w.alloc (.cells #[Value.int .i64 2, Value.int .i64 cost, Value.int .i64 1, Value.int .i64 rate] 32))).cell? ⟨w.heap.size, 2, none⟩ = some (Value.int .i64 1) := (hx.out).cell 2; have k3 : ((w.alloc (.cells #[Value.int .i64 2, Value.int .i64 cost, Value.int .i64 1, Value.int .i64 rate] 32))).cell? ⟨w.heap.size, 3, none⟩ = some (Value.int .i64 rate) := (hx.out).cell 3
  go_enter Tryd.func63, Tryd.ntmps63
  go_wp2_with fail
  go_ret
  exact ⟨rfl, hb.out⟩
set_option maxRecDepth 100000 in
set_option maxHeartbeats 4000000 in
theorem indexF_any (cost rate : Int) (cA g : Nat) (w : World) (h : Blk w cA 32 #[Value.int .i64 2, Value.int .i64 cost, Value.int .i64 1, Value.int .i64 rate]) (hk : w.cell? ⟨g, 0, none⟩ = some (.int .i64 2)) : Calls Tryd.prog 62 #[.slice (some ⟨cA, 0, none⟩) 1 1, .func (.func 63) #[] #[.pointer (some ⟨g, 0, none⟩)]] w fun e w' => e = .returned (.int .i64 0) ∧ Below w.heap.size w w' := by
  have hc := Lib.hid (find1_any cost rate g w hk)
  replace h := Lib.hid h
  have k0 : (w).cell? ⟨cA, 0, none⟩ = some (Value.int .i64 2) := (h.out).cell 0; have k1 : (w).cell? ⟨cA, 1, none⟩ = some (Value.int .i64 cost) := (h.out).cell 1; have k2 : (w).cell? ⟨cA, 2, none⟩ = some (Value.int .i64 1) := (h.out).cell 2; have k3 : (w).cell? ⟨cA, 3, none⟩ = some (Value.int .i64 rate) := (h.out).cell 3
  clear hk
  go_enter Tryd.func62, Tryd.ntmps62
  go_wp2_with fail
  go_loopw [8] (fun i wr => i = .int .i64 0 ∧ wr = w) (fun _ _ => 0)
  case atStart => exact ⟨rfl, rfl⟩
  case round =>
    obtain ⟨rfl, rfl⟩ := hrel
    go_wp2_with fail
    refine hc.out.mono ?_; rintro e w1 ⟨rfl, hq⟩
    replace hq := Lib.hid hq
    clear hc
    go_wp2_with fail
    go_ret
    exact ⟨rfl, hq.out⟩
/-- the tariff's element and its component in memory -/
structure TarAt (w : World) (eA cA : Nat) (cost rate : Int) : Prop where
  el : Blk w eA 35 #[Value.slice (some ⟨cA, 0, none⟩) 1 1, Value.int .i64 0, Value.int .i64 0, Value.int .i64 0, Value.int .i64 (-1), Value.int .i64 (-1), Value.int .i64 (-1), Value.int .i64 (-1), Value.int .i64 (-1), Value.int .i64 (-1), Value.int .i64 (-1), Value.int .i64 (-1)]
  co : Blk w cA 32 #[Value.int .i64 2, Value.int .i64 cost, Value.int .i64 1, Value.int .i64 rate]
theorem TarAt.below {w w' : World} {eA cA B : Nat} {cost rate : Int} (h : TarAt w eA cA cost rate) (hb : Below B w w') (he : eA < B) (hc : cA < B) : TarAt w' eA cA cost rate := ⟨h.el.below hb he, h.co.below hb hc⟩
theorem TarAt.more {w w' : World} {eA cA : Nat} {cost rate : Int} (h : TarAt w eA cA cost rate) (hb : Below w.heap.size w w') : TarAt w' eA cA cost rate := h.below hb h.el.lt h.co.lt
set_option maxRecDepth 100000 in
set_option maxHeartbeats 4000000 in
theorem find_any (sT sE : ByteArray) (eA cA : Nat) (cost rate at_ si en po v2 v3 v4 v6 v7 : Int) (w : World) (hg : GlobOk w) (h : TarAt w eA cA cost rate) (h0 : 0 ≤ at_) (h1 : at_ ≤ 268435456) : Calls Tryd.prog 55 #[.agg #[Value.string sT, Value.string sE, Value.int .i64 v2, Value.int .i64 v3, Value.int .i64 v4, Value.slice (some ⟨eA, 0, none⟩) 1 1, Value.int .i64 v6, Value.int .i64 v7], .agg #[Value.int .i64 0, Value.bool false], .int .i64 2, .int .i64 at_, .int .i64 si, .int .i64 en, .int .i64 po] w fun e w' => e = .returned (.tuple #[.agg #[Value.int .i64 2, Value.int .i64 cost, Value.int .i64 1, Value.int .i64 rate], .bool true]) ∧ Below w.heap.size w w' := by
  have hb4 : Below w.heap.size w ((((w.alloc (.cells #[Value.string sT, Value.string sE, Value.int .i64 v2, Value.int .i64 v3, Value.int .i64 v4, Value.slice (some ⟨eA, 0, none⟩) 1 1, Value.int .i64 v6, Value.int .i64 v7] 38)).alloc (.cells #[Value.int .i64 0, Value.bool false] 51)).alloc (.cells #[Value.int .i64 2] 3)).alloc (.cells #[Value.int .i64 0, Value.int .i64 0, Value.int .i64 0, Value.int .i64 0] 32)) := below_new (below_new (below_new (a1 w _) _) _) _
  have hx0 : Blk ((((w.alloc (.cells #[Value.string sT, Value.string sE, Value.int .i64 v2, Value.int .i64 v3, Value.int .i64 v4, Value.slice (some ⟨eA, 0, none⟩) 1 1, Value.int .i64 v6, Value.int .i64 v7] 38)).alloc (.cells #[Value.int .i64 0, Value.bool false] 51)).alloc (.cells #[Value.int .i64 2] 3)).alloc (.cells #[Value.int .i64 0, Value.int .i64 0, Value.int .i64 0, Value.int .i64 0] 32)) w.heap.size 38 #[Value.string sT, Value.string sE, Value.int .i64 v2, Value.int .i64 v3, Value.int .i64 v4, Value.slice (some ⟨eA, 0, none⟩) 1 1, Value.int .i64 v6, Value.int .i64 v7] := (Blk.new w 38 #[Value.string sT, Value.string sE, Value.int .i64 v2, Value.int .i64 v3, Value.int .i64 v4, Value.slice (some ⟨eA, 0, none⟩) 1 1, Value.int .i64 v6, Value.int .i64 v7]).below (below_new (below_new (a1 _ _) _) _) (by simp)
  have hz0 : Blk ((((w.alloc (.cells #[Value.string sT, Value.string sE, Value.int .i64 v2, Value.int .i64 v3, Value.int .i64 v4, Value.slice (some ⟨eA, 0, none⟩) 1 1, Value.int .i64 v6, Value.int .i64 v7] 38)).alloc (.cells #[Value.int .i64 0, Value.bool false] 51)).alloc (.cells #[Value.int .i64 2] 3)).alloc (.cells #[Value.int .i64 0, Value.int .i64 0, Value.int .i64 0, Value.int .i64 0] 32)) (w.heap.size + 1) 51 #[Value.int .i64 0, Value.bool false] := by
    have := (Blk.new (w.alloc (.cells #[Value.string sT, Value.string sE, Value.int .i64 v2, Value.int .i64 v3, Value.int .i64 v4, Value.slice (some ⟨eA, 0, none⟩) 1 1, Value.int .i64 v6, Value.int .i64 v7] 38)) 51 #[Value.int .i64 0, Value.bool false]).below (below_new (a1 ((w.alloc (.cells #[Value.string sT, Value.string sE, Value.int .i64 v2, Value.int .i64 v3, Value.int .i64 v4, Value.slice (some ⟨eA, 0, none⟩) 1 1, Value.int .i64 v6, Value.int .i64 v7] 38)).alloc (.cells #[Value.int .i64 0, Value.bool false] 51)) (.cells #[Value.int .i64 2] 3)) (.cells #[Value.int .i64 0, Value.int .i64 0, Value.int .i64 0, Value.int .i64 0] 32)) (by simp)
    rw [show (w.alloc (.cells #[Value.string sT, Value.string sE, Value.int .i64 v2, Value.int .i64 v3, Value.int .i64 v4, Value.slice (some ⟨eA, 0, none⟩) 1 1, Value.int .i64 v6, Value.int .i64 v7] 38)).heap.size = w.heap.size + 1 by simp] at this
    exact this
  have hk0 : Blk ((((w.alloc (.cells #[Value.string sT, Value.string sE, Value.int .i64 v2, Value.int .i64 v3, Value.int .i64 v4, Value.slice (some ⟨eA, 0, none⟩) 1 1, Value.int .i64 v6, Value.int .i64 v7] 38)).alloc (.cells #[Value.int .i64 0, Value.bool false] 51)).alloc (.cells #[Value.int .i64 2] 3)).alloc (.cells #[Value.int .i64 0, Value.int .i64 0, Value.int .i64 0, Value.int .i64 0] 32)) (w.heap.size + 1 + 1) 3 #[Value.int .i64 2] := by
    have := (Blk.new ((w.alloc (.cells #[Value.string sT, Value.string sE, Value.int .i64 v2, Value.int .i64 v3, Value.int .i64 v4, Value.slice (some ⟨eA, 0, none⟩) 1 1, Value.int .i64 v6, Value.int .i64 v7] 38)).alloc (.cells #[Value.int .i64 0, Value.bool false] 51)) 3 #[Value.int .i64 2]).below (a1 (((w.alloc (.cells #[Value.string sT, Value.string sE, Value.int .i64 v2, Value.int .i64 v3, Value.int .i64 v4, Value.slice (some ⟨eA, 0, none⟩) 1 1, Value.int .i64 v6, Value.int .i64 v7] 38)).alloc (.cells #[Value.int .i64 0, Value.bool false] 51)).alloc (.cells #[Value.int .i64 2] 3)) (.cells #[Value.int .i64 0, Value.int .i64 0, Value.int .i64 0, Value.int .i64 0] 32)) (by simp)
    rw [show ((w.alloc (.cells #[Value.string sT, Value.string sE, Value.int .i64 v2, Value.int .i64 v3, Value.int .i64 v4, Value.slice (some ⟨eA, 0, none⟩) 1 1, Value.int .i64 v6, Value.int .i64 v7] 38)).alloc (.cells #[Value.int .i64 0, Value.bool false] 51)).heap.size = w.heap.size + 1 + 1 by simp] at this
    exact this
  have hr0 : Blk ((((w.alloc (.cells #[Value.string sT, Value.string sE, Value.int .i64 v2, Value.int .i64 v3, Value.int .i64 v4, Value.slice (some ⟨eA, 0, none⟩) 1 1, Value.int .i64 v6, Value.int .i64 v7] 38)).alloc (.cells #[Value.int .i64 0, Value.bool false] 51)).alloc (.cells #[Value.int .i64 2] 3)).alloc (.cells #[Value.int .i64 0, Value.int .i64 0, Value.int .i64 0, Value.int .i64 0] 32)) (w.heap.size + 1 + 1 + 1) 32 #[Value.int .i64 0, Value.int .i64 0, Value.int .i64 0, Value.int .i64 0] := by
    have := Blk.new (((w.alloc (.cells #[Value.string sT, Value.string sE, Value.int .i64 v2, Value.int .i64 v3, Value.int .i64 v4, Value.slice (some ⟨eA, 0, none⟩) 1 1, Value.int .i64 v6, Value.int .i64 v7] 38)).alloc (.cells #[Value.int .i64 0, Value.bool false] 51)).alloc (.cells #[Value.int .i64 2] 3)) 32 #[Value.int .i64 0, Value.int .i64 0, Value.int .i64 0, Value.int .i64 0]
    rw [show (((w.alloc (.cells #[Value.string sT, Value.string sE, Value.int .i64 v2, Value.int .i64 v3, Value.int .i64 v4, Value.slice (some ⟨eA, 0, none⟩) 1 1, Value.int .i64 v6, Value.int .i64 v7] 38)).alloc (.cells #[Value.int .i64 0, Value.bool false] 51)).alloc (.cells #[Value.int .i64 2] 3)).heap.size = w.heap.size + 1 + 1 + 1 by simp] at this
    exact this
  have hx := Lib.hid hx0
  have hz := Lib.hid hz0
  have hk := Lib.hid hk0
  have hr := Lib.hid hr0
  have hb := Lib.hid hb4
  have hgr : Hid (w.heap.size ≤ w.heap.size + 1 + 1 + 1) := by show _ ≤ _; omega
  have hT := Lib.hid (h.more hb4)
  have hG := Lib.hid (hg.more hb4)
  clear hx0 hz0 hk0 hr0 hb4 h hg
  have hif := Lib.hid (fun cA g w h hk => indexF_any cost rate cA g w h hk)
  have hho := Lib.hid (fun w hg => holds_any at_ si en po w hg h0 h1)
  have k5 : (((((w.alloc (.cells #[Value.string sT, Value.string sE, Value.int .i64 v2, Value.int .i64 v3, Value.int .i64 v4, Value.slice (some ⟨eA, 0, none⟩) 1 1, Value.int .i64 v6, Value.int .i64 v7] 38)).alloc (.cells #[Value.int .i64 0, Value.bool false] 51)).alloc (.cells #[Value.int .i64 2] 3)).alloc (.cells #[Value.int .i64 0, Value.int .i64 0, Value.int .i64 0, Value.int .i64 0] 32))).cell? ⟨w.heap.size, 5, none⟩ = some (Value.slice (some ⟨eA, 0, none⟩) 1 1) := (hx.out).cell 5
  go_enter Tryd.func55, Tryd.ntmps55
  go_wp2_with fail
  generalize ((((w.alloc (.cells #[Value.string sT, Value.string sE, Value.int .i64 v2, Value.int .i64 v3, Value.int .i64 v4, Value.slice (some ⟨eA, 0, none⟩) 1 1, Value.int .i64 v6, Value.int .i64 v7] 38)).alloc (.cells #[Value.int .i64 0, Value.bool false] 51)).alloc (.cells #[Value.int .i64 2] 3)).alloc (.cells #[Value.int .i64 0, Value.int .i64 0, Value.int .i64 0, Value.int .i64 0] 32)) = w0 at *
  generalize w.heap.size + 1 + 1 + 1 = gr at *
  generalize w.heap.size + 1 + 1 = gk at *
  go_loopw [22] (fun i wr => i = .int .i64 0 ∧ wr = w0) (fun _ _ => 0)
  case atStart => exact ⟨rfl, rfl⟩
  case round =>
    obtain ⟨rfl, rfl⟩ := hrel
    have e0 : (wr).cell? ⟨eA, 0, none⟩ = some (Value.slice (some ⟨cA, 0, none⟩) 1 1) := (hT.out.el).cell 0; have e1 : (wr).cell? ⟨eA, 1, none⟩ = some (Value.int .i64 0) := (hT.out.el).cell 1; have e2 : (wr).cell? ⟨eA, 2, none⟩ = some (Value.int .i64 0) := (hT.out.el).cell 2; have e3 : (wr).cell? ⟨eA, 3, none⟩ = some (Value.int .i64 0) := (hT.out.el).cell 3; have e4 : (wr).cell? ⟨eA, 4, none⟩ = some (Value.int .i64 (-1)) := (hT.out.el).cell 4; have e5 : (wr).cell? ⟨eA, 5, none⟩ = some (Value.int .i64 (-1)) := (hT.out.el).cell 5; have e6 : (wr).cell? ⟨eA, 6, none⟩ = some (Value.int .i64 (-1)) := (hT.out.el).cell 6; have e7 : (wr).cell? ⟨eA, 7, none⟩ = some (Value.int .i64 (-1)) := (hT.out.el).cell 7; have e8 : (wr).cell? ⟨eA, 8, none⟩ = some (Value.int .i64 (-1)) := (hT.out.el).cell 8; have e9 : (wr).cell? ⟨eA, 9, none⟩ = some (Value.int .i64 (-1)) := (hT.out.el).cell 9; have e10 : (wr).cell? ⟨eA, 10, none⟩ = some (Value.int .i64 (-1)) := (hT.out.el).cell 10; have e11 : (wr).cell? ⟨eA, 11, none⟩ = some (Value.int .i64 (-1)) := (hT.out.el).cell 11
    have hE := Lib.hid (Blk.new wr 35 #[Value.slice (some ⟨cA, 0, none⟩) 1 1, Value.int .i64 0, Value.int .i64 0, Value.int .i64 0, Value.int .i64 (-1), Value.int .i64 (-1), Value.int .i64 (-1), Value.int .i64 (-1), Value.int .i64 (-1), Value.int .i64 (-1), Value.int .i64 (-1), Value.int .i64 (-1)])
    have hbE := Lib.hid (a1 wr (.cells #[Value.slice (some ⟨cA, 0, none⟩) 1 1, Value.int .i64 0, Value.int .i64 0, Value.int .i64 0, Value.int .i64 (-1), Value.int .i64 (-1), Value.int .i64 (-1), Value.int .i64 (-1), Value.int .i64 (-1), Value.int .i64 (-1), Value.int .i64 (-1), Value.int .i64 (-1)] 35))
    have n0 : ((wr.alloc (.cells #[Value.slice (some ⟨cA, 0, none⟩) 1 1, Value.int .i64 0, Value.int .i64 0, Value.int .i64 0, Value.int .i64 (-1), Value.int .i64 (-1), Value.int .i64 (-1), Value.int .i64 (-1), Value.int .i64 (-1), Value.int .i64 (-1), Value.int .i64 (-1), Value.int .i64 (-1)] 35))).cell? ⟨wr.heap.size, 0, none⟩ = some (Value.slice (some ⟨cA, 0, none⟩) 1 1) := (hE.out).cell 0; have n1 : ((wr.alloc (.cells #[Value.slice (some ⟨cA, 0, none⟩) 1 1, Value.int .i64 0, Value.int .i64 0, Value.int .i64 0, Value.int .i64 (-1), Value.int .i64 (-1), Value.int .i64 (-1), Value.int .i64 (-1), Value.int .i64 (-1), Value.int .i64 (-1), Value.int .i64 (-1), Value.int .i64 (-1)] 35))).cell? ⟨wr.heap.size, 1, none⟩ = some (Value.int .i64 0) := (hE.out).cell 1; have n2 : ((wr.alloc (.cells #[Value.slice (some ⟨cA, 0, none⟩) 1 1, Value.int .i64 0, Value.int .i64 0, Value.int .i64 0, Value.int .i64 (-1), Value.int .i64 (-1), Value.int .i64 (-1), Value.int .i64 (-1), Value.int .i64 (-1), Value.int .i64 (-1), Value.int .i64 (-1), Value.int .i64 (-1)] 35))).cell? ⟨wr.heap.size, 2, none⟩ = some (Value.int .i64 0) := (hE.out).cell 2; have n3 : ((wr.alloc (.cells #[Value.slice (some ⟨cA, 0, none⟩) 1 1, Value.int .i64 0, Value.int .i64 0, Value.int .i64 0, Value.int .i64 (-1), Value.int .i64 (-1), Value.int .i64 (-1), Value.int .i64 (-1), Value.int .i64 (-1), Value.int .i64 (-1), Value.int .i64 (-1), Value.int .i64 (-1)] 35))).cell? ⟨wr.heap.size, 3, none⟩ = some (Value.int .i64 0) := (hE.out).cell 3; have n4 : ((wr.alloc (.cells #[Value.slice (some ⟨cA, 0, none⟩) 1 1, Value.int .i64 0, Value.int .i64 0, Value.int .i64 0, Value.int .i64 (-1), Value.int .i64 (-1), Value.int .i64 (-1), Value.int .i64 (-1), Value.int .i64 (-1), Value.int .i64 (-1), Value.int .i64 (-1), Value.int .i64 (-1)] 35))).cell? ⟨wr.heap.size, 4, none⟩ = some (Value.int .i64 (-1)) := (hE.out).cell 4; have n5 : ((wr.alloc (.cells #[Value.slice (some ⟨cA, 0, none⟩) 1 1, Value.int .i64 0, Value.int .i64 0, Value.int .i64 0, Value.int .i64 (-1), Value.int .i64 (-1), Value.int .i64 (-1), Value.int .i64 (-1), Value.int .i64 (-1), Value.int .i64 (-1), Value.int .i64 (-1), Value.int .i64 (-1)] 35))).cell? ⟨wr.heap.size, 5, none⟩ = some (Value.int .i64 (-1)) := (hE.out).cell 5; have n6 : ((wr.alloc (.cells #[Value.slice (some ⟨cA, 0, none⟩) 1 1, Value.int .i64 0, Value.int .i64 0, Value.int .i64 0, Value.int .i64 (-1), Value.int .i64 (-1), Value.int .i64 (-1), Value.int .i64 (-1), Value.int .i64 (-1), Value.int .i64 (-1), Value.int .i64 (-1), Value.int .i64 (-1)] 35))).cell? ⟨wr.heap.size, 6, none⟩ = some (Value.int .i64 (-1)) := (hE.out).cell 6; have n7 : ((wr.alloc (.cells #[Value.slice (some ⟨cA, 0, none⟩) 1 1, Value.int .i64 0, Value.int .i64 0, Value.int .i64 0, Value.int .i64 (-1), Value.int .i64 (-1), Value.int .i64 (-1), Value.int .i64 (-1), Value.int .i64 (-1), Value.int .i64 (-1), Value.int .i64 (-1), Value.int .i64 (-1)] 35))).cell? ⟨wr.heap.size, 7, none⟩ = some (Value.int .i64 (-1)) := (hE.out).cell 7; have n8 : ((wr.alloc (.cells #[Value.slice (some ⟨cA, 0, none⟩) 1 1, Value.int .i64 0, Value.int .i64 0, Value.int .i64 0, Value.int .i64 (-1), Value.int .i64 (-1), Value.int .i64 (-1), Value.int .i64 (-1), Value.int .i64 (-1), Value.int .i64 (-1), Value.int .i64 (-1), Value.int .i64 (-1)] 35))).cell? ⟨wr.heap.size, 8, none⟩ = some (Value.int .i64 (-1)) := (hE.out).cell 8; have n9 : ((wr.alloc (.cells #[Value.slice (some ⟨cA, 0, none⟩) 1 1, Value.int .i64 0, Value.int .i64 0, Value.int .i64 0, Value.int .i64 (-1), Value.int .i64 (-1), Value.int .i64 (-1), Value.int .i64 (-1), Value.int .i64 (-1), Value.int .i64 (-1), Value.int .i64 (-1), Value.int .i64 (-1)] 35))).cell? ⟨wr.heap.size, 9, none⟩ = some (Value.int .i64 (-1)) := (hE.out).cell 9; have n10 : ((wr.alloc (.cells #[Value.slice (some ⟨cA, 0, none⟩) 1 1, Value.int .i64 0, Value.int .i64 0, Value.int .i64 0, Value.int .i64 (-1), Value.int .i64 (-1), Value.int .i64 (-1), Value.int .i64 (-1), Value.int .i64 (-1), Value.int .i64 (-1), Value.int .i64 (-1), Value.int .i64 (-1)] 35))).cell? ⟨wr.heap.size, 10, none⟩ = some (Value.int .i64 (-1)) := (hE.out).cell 10; have n11 : ((wr.alloc (.cells #[Value.slice (some ⟨cA, 0, none⟩) 1 1, Value.int .i64 0, Value.int .i64 0, Value.int .i64 0, Value.int .i64 (-1), Value.int .i64 (-1), Value.int .i64 (-1), Value.int .i64 (-1), Value.int .i64 (-1), Value.int .i64 (-1), Value.int .i64 (-1), Value.int .i64 (-1)] 35))).cell? ⟨wr.heap.size, 11, none⟩ = some (Value.int .i64 (-1)) := (hE.out).cell 11
    have hc1 := Lib.hid (hif.out cA gk (wr.alloc (.cells #[Value.slice (some ⟨cA, 0, none⟩) 1 1, Value.int .i64 0, Value.int .i64 0, Value.int .i64 0, Value.int .i64 (-1), Value.int .i64 (-1), Value.int .i64 (-1), Value.int .i64 (-1), Value.int .i64 (-1), Value.int .i64 (-1), Value.int .i64 (-1), Value.int .i64 (-1)] 35)) (hT.out.co.below hbE.out hT.out.co.lt) ((hk.out.below hbE.out hk.out.lt).cell 0))
    clear hif
    go_wp2_with fail
    refine hc1.out.mono ?_; rintro e w1 ⟨rfl, hq⟩
    have hb1 := Lib.hid (hbE.out.trans (hq.mono hbE.out.size))
    replace hE := Lib.hid (hE.out.below hq hE.out.lt)
    clear hq hc1 hbE
    have n0 : (w1).cell? ⟨wr.heap.size, 0, none⟩ = some (Value.slice (some ⟨cA, 0, none⟩) 1 1) := (hE.out).cell 0; have n1 : (w1).cell? ⟨wr.heap.size, 1, none⟩ = some (Value.int .i64 0) := (hE.out).cell 1; have n2 : (w1).cell? ⟨wr.heap.size, 2, none⟩ = some (Value.int .i64 0) := (hE.out).cell 2; have n3 : (w1).cell? ⟨wr.heap.size, 3, none⟩ = some (Value.int .i64 0) := (hE.out).cell 3; have n4 : (w1).cell? ⟨wr.heap.size, 4, none⟩ = some (Value.int .i64 (-1)) := (hE.out).cell 4; have n5 : (w1).cell? ⟨wr.heap.size, 5, none⟩ = some (Value.int .i64 (-1)) := (hE.out).cell 5; have n6 : (w1).cell? ⟨wr.heap.size, 6, none⟩ = some (Value.int .i64 (-1)) := (hE.out).cell 6; have n7 : (w1).cell? ⟨wr.heap.size, 7, none⟩ = some (Value.int .i64 (-1)) := (hE.out).cell 7; have n8 : (w1).cell? ⟨wr.heap.size, 8, none⟩ = some (Value.int .i64 (-1)) := (hE.out).cell 8; have n9 : (w1).cell? ⟨wr.heap.size, 9, none⟩ = some (Value.int .i64 (-1)) := (hE.out).cell 9; have n10 : (w1).cell? ⟨wr.heap.size, 10, none⟩ = some (Value.int .i64 (-1)) := (hE.out).cell 10; have n11 : (w1).cell? ⟨wr.heap.size, 11, none⟩ = some (Value.int .i64 (-1)) := (hE.out).cell 11
    have hz1 := hz.out.below hb1.out hz.out.lt
    have z0 : (w1).cell? ⟨(w.heap.size + 1), 0, none⟩ = some (Value.int .i64 0) := (hz1).cell 0; have z1 : (w1).cell? ⟨(w.heap.size + 1), 1, none⟩ = some (Value.bool false) := (hz1).cell 1
    have hc2 := Lib.hid (hho.out w1 (hG.out.more hb1.out))
    clear hho hz1
    go_wp2_with fail
    refine hc2.out.mono ?_; rintro e w2 ⟨rfl, hq⟩
    replace hb1 := Lib.hid (hb1.out.trans (hq.mono hb1.out.size))
    replace hE := Lib.hid (hE.out.below hq hE.out.lt)
    clear hq hc2
    have n0 : (w2).cell? ⟨wr.heap.size, 0, none⟩ = some (Value.slice (some ⟨cA, 0, none⟩) 1 1) := (hE.out).cell 0
    have hT2 := hT.out.more hb1.out
    have q0 : (w2).cell? ⟨cA, 0, none⟩ = some (Value.int .i64 2) := (hT2.co).cell 0; have q1 : (w2).cell? ⟨cA, 1, none⟩ = some (Value.int .i64 cost) := (hT2.co).cell 1; have q2 : (w2).cell? ⟨cA, 2, none⟩ = some (Value.int .i64 1) := (hT2.co).cell 2; have q3 : (w2).cell? ⟨cA, 3, none⟩ = some (Value.int .i64 rate) := (hT2.co).cell 3
    have hr2 := Lib.hid (hr.out.below hb1.out hr.out.lt)
    have r0 : (w2).cell? ⟨gr, 0, none⟩ = some (Value.int .i64 0) := (hr2.out).cell 0; have r1 : (w2).cell? ⟨gr, 1, none⟩ = some (Value.int .i64 0) := (hr2.out).cell 1; have r2 : (w2).cell? ⟨gr, 2, none⟩ = some (Value.int .i64 0) := (hr2.out).cell 2; have r3 : (w2).cell? ⟨gr, 3, none⟩ = some (Value.int .i64 0) := (hr2.out).cell 3; have rz0 : (w2).frozen? ⟨gr, 0, none⟩ = false := (hr2.out).frozen 0; have rz1 : (w2).frozen? ⟨gr, 1, none⟩ = false := (hr2.out).frozen 1; have rz2 : (w2).frozen? ⟨gr, 2, none⟩ = false := (hr2.out).frozen 2; have rz3 : (w2).frozen? ⟨gr, 3, none⟩ = false := (hr2.out).frozen 3
    clear hT2
    go_wp2_with fail
    (try simp only [Exit.inBlock, Exit.then])
    have hRf : Blk ((((w2.setCell ⟨gr, 0, none⟩ (Value.int .i64 2)).setCell ⟨gr, 1, none⟩ (Value.int .i64 cost)).setCell ⟨gr, 2, none⟩ (Value.int .i64 1)).setCell ⟨gr, 3, none⟩ (Value.int .i64 rate)) gr 32 #[Value.int .i64 2, Value.int .i64 cost, Value.int .i64 1, Value.int .i64 rate] := (((hr2.out.set_ 0 _).set_ 1 _).set_ 2 _).set_ 3 _
    refine bodyPost_ret (v := .tuple #[.agg #[Value.int .i64 2, Value.int .i64 cost, Value.int .i64 1, Value.int .i64 rate], .bool true]) ?_ rfl ?_
    · refine (res2 (fn := Tryd.f55) (p := 14) (u := 15) (ty := 32) rfl _ _ gr 32 _ (0, 0) _ ?_ hRf Tryd.underlying32 rfl (by kernel_rfl)).trans ?_
      · rfl
      · rfl
    · have hb2 := hb.out.trans (hb1.out.mono hb.out.size)
      exact ⟨rfl, below_set (below_set (below_set (below_set hb2 hgr.out 0 _) hgr.out 1 _) hgr.out 2 _) hgr.out 3 _⟩
end Go.Proofs.YtbngclibfnnejaaDoor
