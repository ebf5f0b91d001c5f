/- The tariff's validity, walked. -/
import Derived.Test.YtbngclibfnnejaaDoorBC
set_option linter.unusedVariables false
set_option linter.unusedSimpArgs false
namespace Go.Proofs.YtbngclibfnnejaaDoor
open Go.RowKit
def sT : ByteArray := ⟨#[84]⟩
def sE : ByteArray := ⟨#[69, 85, 82]⟩
set_option maxRecDepth 100000 in
set_option maxHeartbeats 4000000 in
theorem currency_any (w : World) : Calls Tryd.prog 17 #[.string (⟨#[69, 85, 82]⟩ : ByteArray)] w fun e w' => e = .returned (.bool true) ∧ Below w.heap.size w w' := by
  go_enter Tryd.func17, Tryd.ntmps17
  go_wp2_with fail
  go_loopw [9] (fun i wr => ∃ k : Nat, k ≤ 3 ∧ i = .int .i64 k ∧ wr = w) (fun i _ => 3 - (intOf i).toNat)
  case atStart => exact ⟨0, Nat.zero_le _, rfl, rfl⟩
  case round =>
    obtain ⟨k, hk, rfl, rfl⟩ := hrel
    rcases (show k = 0 ∨ k = 1 ∨ k = 2 ∨ k = 3 by omega) with rfl | rfl | rfl | rfl
    · have i0 : ∀ w, (Instr.index 9 (.string (⟨#[69, 85, 82]⟩ : ByteArray)) (.int .i64 0)).run Tryd.prog w = .ok (.int .u8 69) w := fun _ => by kernel_rfl
      clear hk
      go_wp2_with fail
      go_roundw
      case rel => exact ⟨1, by omega, by go_num, trivial⟩
      case measure => simp [intOf]
    · have i0 : ∀ w, (Instr.index 9 (.string (⟨#[69, 85, 82]⟩ : ByteArray)) (.int .i64 1)).run Tryd.prog w = .ok (.int .u8 85) w := fun _ => by kernel_rfl
      clear hk
      go_wp2_with fail
      go_roundw
      case rel => exact ⟨2, by omega, by go_num, trivial⟩
      case measure => simp [intOf]
    · have i0 : ∀ w, (Instr.index 9 (.string (⟨#[69, 85, 82]⟩ : ByteArray)) (.int .i64 2)).run Tryd.prog w = .ok (.int .u8 82) w := fun _ => by kernel_rfl
      clear hk
      go_wp2_with fail
      go_roundw
      case rel => exact ⟨3, by omega, by go_num, trivial⟩
      case measure => simp [intOf]
    · clear hk
      go_wp2_with fail
      go_ret
      exact ⟨rfl, Below.refl _ _⟩
set_option maxRecDepth 100000 in
set_option maxHeartbeats 4000000 in
theorem optNone_any (a b : Int) (w : World) : Calls Tryd.prog 18 #[.int .i64 (-1), .int .i64 a, .int .i64 b] w fun e w' => e = .returned (.bool true) ∧ w' = w := by
  go_enter Tryd.func18, Tryd.ntmps18
  go_wp2_with fail
  go_ret
  exact ⟨rfl, rfl⟩
set_option maxRecDepth 100000 in
set_option maxHeartbeats 4000000 in
theorem optTop_any (w : World) : Calls Tryd.prog 18 #[.int .i64 268435456, .int .i64 0, .int .i64 268435456] w fun e w' => e = .returned (.bool true) ∧ w' = w := by
  go_enter Tryd.func18, Tryd.ntmps18
  go_wp2_with fail
  go_ret
  exact ⟨rfl, rfl⟩
set_option maxRecDepth 100000 in
set_option maxHeartbeats 4000000 in
theorem unit_any (w : World) : Calls Tryd.prog 6 #[.int .i64 2] w fun e w' => e = .returned (.int .i64 60000) ∧ w' = w := by
  go_enter Tryd.func6, Tryd.ntmps6
  go_wp2_with fail
  go_ret
  exact ⟨rfl, rfl⟩
set_option maxRecDepth 100000 in
set_option maxHeartbeats 4000000 in
theorem validComponent_any (cost rate : Int) (w : World) (h0 : 0 ≤ cost) (h1 : cost ≤ 100000) (h2 : 0 ≤ rate) (h3 : rate ≤ 10000) : Calls Tryd.prog 39 #[.agg #[Value.int .i64 2, Value.int .i64 cost, Value.int .i64 1, Value.int .i64 rate]] w fun e w' => e = .returned (.bool true) ∧ Below w.heap.size w w' := by
  have d0 : decide (cost < 0) = false := by simp; omega
  have d1 : decide (1073741824 < cost) = false := by simp; omega
  have d2 : decide (rate < 0) = false := by simp; omega
  have d3 : decide (10000 < rate) = false := by simp; omega
  have hx := Lib.hid (Blk.new w 32 #[Value.int .i64 2, Value.int .i64 cost, Value.int .i64 1, Value.int .i64 rate])
  have hb : Hid (Below w.heap.size w (w.alloc (.cells #[Value.int .i64 2, Value.int .i64 cost, Value.int .i64 1, Value.int .i64 rate] 32))) := a1 w _
  have k0 : ((w.alloc (.cells #[Value.int .i64 2, Value.int .i64 cost, Value.int .i64 1, Value.int .i64 rate] 32))).cell? ⟨w.heap.size, 0, none⟩ = some (Value.int .i64 2) := (hx.out).cell 0; have k1 : ((w.alloc (.cells #[Value.int .i64 2, Value.int .i64 cost, Value.int .i64 1, Value.int .i64 rate] 32))).cell? ⟨w.heap.size, 1, none⟩ = some (Value.int .i64 cost) := (hx.out).cell 1; have k2 : ((w.alloc (.cells #[Value.int .i64 2, Value.int .i64 cost, Value.int .i64 1, Value.int .i64 rate] 32))).cell? ⟨w.heap.size, 2, none⟩ = some (Value.int .i64 1) := (hx.out).cell 2; have k3 : ((w.alloc (.cells #[Value.int .i64 2, Value.int .i64 cost, Value.int .i64 1, Value.int .i64 rate] 32))).cell? ⟨w.heap.size, 3, none⟩ = some (Value.int .i64 rate) := (hx.out).cell 3
  clear h0 h1 h2 h3
  go_enter Tryd.func39, Tryd.ntmps39
  go_wp2_with fail
  go_ret
  exact ⟨rfl, hb.out⟩
set_option maxRecDepth 100000 in
set_option maxHeartbeats 4000000 in
theorem validElement_any (cA : Nat) (cost rate : Int) (w : World) (h : Blk w cA 32 #[Value.int .i64 2, Value.int .i64 cost, Value.int .i64 1, Value.int .i64 rate]) (h0 : 0 ≤ cost) (h1 : cost ≤ 100000) (h2 : 0 ≤ rate) (h3 : rate ≤ 10000) : Calls Tryd.prog 19 #[.agg #[Value.slice (some ⟨cA, 0, none⟩) 1 1, Value.int .i64 0, Value.int .i64 0, Value.int .i64 0, Value.int .i64 (-1), Value.int .i64 (-1), Value.int .i64 (-1), Value.int .i64 (-1), Value.int .i64 (-1), Value.int .i64 (-1), Value.int .i64 (-1), Value.int .i64 (-1)]] w fun e w' => e = .returned (.int .i64 0) ∧ Below w.heap.size w w' := by
  have hb0 : Below w.heap.size w (w.alloc (.cells #[Value.slice (some ⟨cA, 0, none⟩) 1 1, Value.int .i64 0, Value.int .i64 0, Value.int .i64 0, Value.int .i64 (-1), Value.int .i64 (-1), Value.int .i64 (-1), Value.int .i64 (-1), Value.int .i64 (-1), Value.int .i64 (-1), Value.int .i64 (-1), Value.int .i64 (-1)] 35)) := a1 w _
  have hx := Lib.hid (Blk.new w 35 #[Value.slice (some ⟨cA, 0, none⟩) 1 1, Value.int .i64 0, Value.int .i64 0, Value.int .i64 0, Value.int .i64 (-1), Value.int .i64 (-1), Value.int .i64 (-1), Value.int .i64 (-1), Value.int .i64 (-1), Value.int .i64 (-1), Value.int .i64 (-1), Value.int .i64 (-1)])
  have hC := Lib.hid (h.below hb0 h.lt)
  have hb := Lib.hid hb0
  have hvc := Lib.hid (fun w => validComponent_any cost rate w h0 h1 h2 h3)
  have hon := Lib.hid (fun a b w => optNone_any a b w)
  clear hb0 h h0 h1 h2 h3
  have k0 : ((w.alloc (.cells #[Value.slice (some ⟨cA, 0, none⟩) 1 1, Value.int .i64 0, Value.int .i64 0, Value.int .i64 0, Value.int .i64 (-1), Value.int .i64 (-1), Value.int .i64 (-1), Value.int .i64 (-1), Value.int .i64 (-1), Value.int .i64 (-1), Value.int .i64 (-1), Value.int .i64 (-1)] 35))).cell? ⟨w.heap.size, 0, none⟩ = some (Value.slice (some ⟨cA, 0, none⟩) 1 1) := (hx.out).cell 0
  go_enter Tryd.func19, Tryd.ntmps19
  go_wp2_with fail
  generalize (w.alloc (.cells #[Value.slice (some ⟨cA, 0, none⟩) 1 1, Value.int .i64 0, Value.int .i64 0, Value.int .i64 0, Value.int .i64 (-1), Value.int .i64 (-1), Value.int .i64 (-1), Value.int .i64 (-1), Value.int .i64 (-1), Value.int .i64 (-1), Value.int .i64 (-1), Value.int .i64 (-1)] 35)) = w0 at *
  clear k0
  go_loopw [15] (fun i wr => ∃ k : Nat, k ≤ 1 ∧ i = .int .i64 k ∧ Hid (Blk wr w.heap.size 35 #[Value.slice (some ⟨cA, 0, none⟩) 1 1, Value.int .i64 0, Value.int .i64 0, Value.int .i64 0, Value.int .i64 (-1), Value.int .i64 (-1), Value.int .i64 (-1), Value.int .i64 (-1), Value.int .i64 (-1), Value.int .i64 (-1), Value.int .i64 (-1), Value.int .i64 (-1)]) ∧ Hid (Blk wr cA 32 #[Value.int .i64 2, Value.int .i64 cost, Value.int .i64 1, Value.int .i64 rate]) ∧ Hid (Below w.heap.size w wr)) (fun i _ => 1 - (intOf i).toNat)
  case atStart => exact ⟨0, Nat.zero_le _, rfl, hx.out, hC.out, hb.out⟩
  case round =>
    clear hx hC hb
    obtain ⟨k, hk, rfl, hx, hC, hb⟩ := hrel
    rcases (show k = 0 ∨ k = 1 by omega) with rfl | rfl
    · have c0 : (wr).cell? ⟨cA, 0, none⟩ = some (Value.int .i64 2) := (hC.out).cell 0; have c1 : (wr).cell? ⟨cA, 1, none⟩ = some (Value.int .i64 cost) := (hC.out).cell 1; have c2 : (wr).cell? ⟨cA, 2, none⟩ = some (Value.int .i64 1) := (hC.out).cell 2; have c3 : (wr).cell? ⟨cA, 3, none⟩ = some (Value.int .i64 rate) := (hC.out).cell 3
      have hN := Lib.hid (Blk.new wr 32 #[Value.int .i64 2, Value.int .i64 cost, Value.int .i64 1, Value.int .i64 rate])
      have hbN := a1 wr (.cells #[Value.int .i64 2, Value.int .i64 cost, Value.int .i64 1, Value.int .i64 rate] 32)
      replace hx := Lib.hid (hx.out.below hbN hx.out.lt)
      replace hC := Lib.hid (hC.out.below hbN hC.out.lt)
      replace hb := Lib.hid (hb.out.trans (hbN.mono hb.out.size))
      have n0 : ((wr.alloc (.cells #[Value.int .i64 2, Value.int .i64 cost, Value.int .i64 1, Value.int .i64 rate] 32))).cell? ⟨wr.heap.size, 0, none⟩ = some (Value.int .i64 2) := (hN.out).cell 0; have n1 : ((wr.alloc (.cells #[Value.int .i64 2, Value.int .i64 cost, Value.int .i64 1, Value.int .i64 rate] 32))).cell? ⟨wr.heap.size, 1, none⟩ = some (Value.int .i64 cost) := (hN.out).cell 1; have n2 : ((wr.alloc (.cells #[Value.int .i64 2, Value.int .i64 cost, Value.int .i64 1, Value.int .i64 rate] 32))).cell? ⟨wr.heap.size, 2, none⟩ = some (Value.int .i64 1) := (hN.out).cell 2; have n3 : ((wr.alloc (.cells #[Value.int .i64 2, Value.int .i64 cost, Value.int .i64 1, Value.int .i64 rate] 32))).cell? ⟨wr.heap.size, 3, none⟩ = some (Value.int .i64 rate) := (hN.out).cell 3
      have hc1 := Lib.hid (hvc.out (wr.alloc (.cells #[Value.int .i64 2, Value.int .i64 cost, Value.int .i64 1, Value.int .i64 rate] 32)))
      clear hvc hk hbN
      go_wp2_with fail
      refine hc1.out.mono ?_; rintro e w1 ⟨rfl, hq⟩
      replace hx := Lib.hid (hx.out.below hq hx.out.lt)
      replace hC := Lib.hid (hC.out.below hq hC.out.lt)
      replace hb := Lib.hid (hb.out.trans (hq.mono hb.out.size))
      clear hq hc1
      have n0 : (w1).cell? ⟨w.heap.size, 0, none⟩ = some (Value.slice (some ⟨cA, 0, none⟩) 1 1) := (hx.out).cell 0
      go_wp2_with fail
      go_loopw [28] (fun i wz => i = .int .i64 0 ∧ wz = w1) (fun _ _ => 0)
      case atStart => exact ⟨rfl, rfl⟩
      case round =>
        obtain ⟨rfl, rfl⟩ := hrel
        go_wp2_with fail
        go_roundw
        case rel => exact ⟨1, by omega, by go_num, hx.out, hC.out, hb.out⟩
        case measure => simp [intOf]
    · have c0 : (wr).cell? ⟨w.heap.size, 0, none⟩ = some (Value.slice (some ⟨cA, 0, none⟩) 1 1) := (hx.out).cell 0; have c1 : (wr).cell? ⟨w.heap.size, 1, none⟩ = some (Value.int .i64 0) := (hx.out).cell 1; have c2 : (wr).cell? ⟨w.heap.size, 2, none⟩ = some (Value.int .i64 0) := (hx.out).cell 2; have c3 : (wr).cell? ⟨w.heap.size, 3, none⟩ = some (Value.int .i64 0) := (hx.out).cell 3; have c4 : (wr).cell? ⟨w.heap.size, 4, none⟩ = some (Value.int .i64 (-1)) := (hx.out).cell 4; have c5 : (wr).cell? ⟨w.heap.size, 5, none⟩ = some (Value.int .i64 (-1)) := (hx.out).cell 5; have c6 : (wr).cell? ⟨w.heap.size, 6, none⟩ = some (Value.int .i64 (-1)) := (hx.out).cell 6; have c7 : (wr).cell? ⟨w.heap.size, 7, none⟩ = some (Value.int .i64 (-1)) := (hx.out).cell 7; have c8 : (wr).cell? ⟨w.heap.size, 8, none⟩ = some (Value.int .i64 (-1)) := (hx.out).cell 8; have c9 : (wr).cell? ⟨w.heap.size, 9, none⟩ = some (Value.int .i64 (-1)) := (hx.out).cell 9; have c10 : (wr).cell? ⟨w.heap.size, 10, none⟩ = some (Value.int .i64 (-1)) := (hx.out).cell 10; have c11 : (wr).cell? ⟨w.heap.size, 11, none⟩ = some (Value.int .i64 (-1)) := (hx.out).cell 11
      have hN := Lib.hid (Blk.new wr 28 #[Value.int .i64 0, Value.int .i64 0, Value.int .i64 0, Value.int .i64 (-1), Value.int .i64 (-1), Value.int .i64 (-1), Value.int .i64 (-1), Value.int .i64 (-1), Value.int .i64 (-1), Value.int .i64 (-1), Value.int .i64 (-1)])
      have hbN := a1 wr (.cells #[Value.int .i64 0, Value.int .i64 0, Value.int .i64 0, Value.int .i64 (-1), Value.int .i64 (-1), Value.int .i64 (-1), Value.int .i64 (-1), Value.int .i64 (-1), Value.int .i64 (-1), Value.int .i64 (-1), Value.int .i64 (-1)] 28)
      replace hb := Lib.hid (hb.out.trans (hbN.mono hb.out.size))
      have n0 : ((wr.alloc (.cells #[Value.int .i64 0, Value.int .i64 0, Value.int .i64 0, Value.int .i64 (-1), Value.int .i64 (-1), Value.int .i64 (-1), Value.int .i64 (-1), Value.int .i64 (-1), Value.int .i64 (-1), Value.int .i64 (-1), Value.int .i64 (-1)] 28))).cell? ⟨wr.heap.size, 0, none⟩ = some (Value.int .i64 0) := (hN.out).cell 0; have n1 : ((wr.alloc (.cells #[Value.int .i64 0, Value.int .i64 0, Value.int .i64 0, Value.int .i64 (-1), Value.int .i64 (-1), Value.int .i64 (-1), Value.int .i64 (-1), Value.int .i64 (-1), Value.int .i64 (-1), Value.int .i64 (-1), Value.int .i64 (-1)] 28))).cell? ⟨wr.heap.size, 1, none⟩ = some (Value.int .i64 0) := (hN.out).cell 1; have n2 : ((wr.alloc (.cells #[Value.int .i64 0, Value.int .i64 0, Value.int .i64 0, Value.int .i64 (-1), Value.int .i64 (-1), Value.int .i64 (-1), Value.int .i64 (-1), Value.int .i64 (-1), Value.int .i64 (-1), Value.int .i64 (-1), Value.int .i64 (-1)] 28))).cell? ⟨wr.heap.size, 2, none⟩ = some (Value.int .i64 0) := (hN.out).cell 2; have n3 : ((wr.alloc (.cells #[Value.int .i64 0, Value.int .i64 0, Value.int .i64 0, Value.int .i64 (-1), Value.int .i64 (-1), Value.int .i64 (-1), Value.int .i64 (-1), Value.int .i64 (-1), Value.int .i64 (-1), Value.int .i64 (-1), Value.int .i64 (-1)] 28))).cell? ⟨wr.heap.size, 3, none⟩ = some (Value.int .i64 (-1)) := (hN.out).cell 3; have n4 : ((wr.alloc (.cells #[Value.int .i64 0, Value.int .i64 0, Value.int .i64 0, Value.int .i64 (-1), Value.int .i64 (-1), Value.int .i64 (-1), Value.int .i64 (-1), Value.int .i64 (-1), Value.int .i64 (-1), Value.int .i64 (-1), Value.int .i64 (-1)] 28))).cell? ⟨wr.heap.size, 4, none⟩ = some (Value.int .i64 (-1)) := (hN.out).cell 4; have n5 : ((wr.alloc (.cells #[Value.int .i64 0, Value.int .i64 0, Value.int .i64 0, Value.int .i64 (-1), Value.int .i64 (-1), Value.int .i64 (-1), Value.int .i64 (-1), Value.int .i64 (-1), Value.int .i64 (-1), Value.int .i64 (-1), Value.int .i64 (-1)] 28))).cell? ⟨wr.heap.size, 5, none⟩ = some (Value.int .i64 (-1)) := (hN.out).cell 5; have n6 : ((wr.alloc (.cells #[Value.int .i64 0, Value.int .i64 0, Value.int .i64 0, Value.int .i64 (-1), Value.int .i64 (-1), Value.int .i64 (-1), Value.int .i64 (-1), Value.int .i64 (-1), Value.int .i64 (-1), Value.int .i64 (-1), Value.int .i64 (-1)] 28))).cell? ⟨wr.heap.size, 6, none⟩ = some (Value.int .i64 (-1)) := (hN.out).cell 6; have n7 : ((wr.alloc (.cells #[Value.int .i64 0, Value.int .i64 0, Value.int .i64 0, Value.int .i64 (-1), Value.int .i64 (-1), Value.int .i64 (-1), Value.int .i64 (-1), Value.int .i64 (-1), Value.int .i64 (-1), Value.int .i64 (-1), Value.int .i64 (-1)] 28))).cell? ⟨wr.heap.size, 7, none⟩ = some (Value.int .i64 (-1)) := (hN.out).cell 7; have n8 : ((wr.alloc (.cells #[Value.int .i64 0, Value.int .i64 0, Value.int .i64 0, Value.int .i64 (-1), Value.int .i64 (-1), Value.int .i64 (-1), Value.int .i64 (-1), Value.int .i64 (-1), Value.int .i64 (-1), Value.int .i64 (-1), Value.int .i64 (-1)] 28))).cell? ⟨wr.heap.size, 8, none⟩ = some (Value.int .i64 (-1)) := (hN.out).cell 8; have n9 : ((wr.alloc (.cells #[Value.int .i64 0, Value.int .i64 0, Value.int .i64 0, Value.int .i64 (-1), Value.int .i64 (-1), Value.int .i64 (-1), Value.int .i64 (-1), Value.int .i64 (-1), Value.int .i64 (-1), Value.int .i64 (-1), Value.int .i64 (-1)] 28))).cell? ⟨wr.heap.size, 9, none⟩ = some (Value.int .i64 (-1)) := (hN.out).cell 9; have n10 : ((wr.alloc (.cells #[Value.int .i64 0, Value.int .i64 0, Value.int .i64 0, Value.int .i64 (-1), Value.int .i64 (-1), Value.int .i64 (-1), Value.int .i64 (-1), Value.int .i64 (-1), Value.int .i64 (-1), Value.int .i64 (-1), Value.int .i64 (-1)] 28))).cell? ⟨wr.heap.size, 10, none⟩ = some (Value.int .i64 (-1)) := (hN.out).cell 10
      clear hk hbN
      go_wp2_with fail
      iterate 7
        refine (hon.out _ _ _).mono ?_; rintro e w1 ⟨rfl, rfl⟩
        go_wp2_with fail
      refine (hon.out _ _ _).mono ?_; rintro e w1 ⟨rfl, rfl⟩
      go_wp2_with fail
      go_ret
      exact ⟨rfl, hb.out⟩
set_option maxRecDepth 100000 in
set_option maxHeartbeats 4000000 in
theorem tvalid_any (eA cA : Nat) (cost rate : Int) (w : World) (h : TarAt w eA cA cost rate) (h0 : 0 ≤ cost) (h1 : cost ≤ 100000) (h2 : 0 ≤ rate) (h3 : rate ≤ 10000) : Calls Tryd.prog 5 #[.agg #[Value.string (⟨#[84]⟩ : ByteArray), Value.string (⟨#[69, 85, 82]⟩ : ByteArray), Value.int .i64 1, Value.int .i64 0, Value.int .i64 268435456, Value.slice (some ⟨eA, 0, none⟩) 1 1, Value.int .i64 (-1), Value.int .i64 (-1)]] w fun e w' => e = .returned (.int .i64 0) ∧ Below w.heap.size w w' := by
  have hb0 : Below w.heap.size w (w.alloc (.cells #[Value.string (⟨#[84]⟩ : ByteArray), Value.string (⟨#[69, 85, 82]⟩ : ByteArray), Value.int .i64 1, Value.int .i64 0, Value.int .i64 268435456, Value.slice (some ⟨eA, 0, none⟩) 1 1, Value.int .i64 (-1), Value.int .i64 (-1)] 38)) := a1 w _
  have hx := Lib.hid (Blk.new w 38 #[Value.string (⟨#[84]⟩ : ByteArray), Value.string (⟨#[69, 85, 82]⟩ : ByteArray), Value.int .i64 1, Value.int .i64 0, Value.int .i64 268435456, Value.slice (some ⟨eA, 0, none⟩) 1 1, Value.int .i64 (-1), Value.int .i64 (-1)])
  have hT := Lib.hid (h.below hb0 h.el.lt h.co.lt)
  have hb := Lib.hid hb0
  have hid_ : Hid (∀ w, Calls Tryd.prog 16 #[.string (⟨#[84]⟩ : ByteArray)] w fun e w' => e = .returned (.bool true) ∧ Below w.heap.size w w') := fun w => by
    have h9 := name_any (⟨#[84]⟩ : ByteArray) w
    rw [show nameB (⟨#[84]⟩ : ByteArray) = true by decide] at h9
    exact h9
  have hcu := Lib.hid (fun w => currency_any w)
  have hve := Lib.hid (fun w h => validElement_any cA cost rate w h h0 h1 h2 h3)
  have hon := Lib.hid (fun a b w => optNone_any a b w)
  have hot := Lib.hid (fun w => optTop_any w)
  clear hb0 h h0 h1 h2 h3
  have k0 : ((w.alloc (.cells #[Value.string (⟨#[84]⟩ : ByteArray), Value.string (⟨#[69, 85, 82]⟩ : ByteArray), Value.int .i64 1, Value.int .i64 0, Value.int .i64 268435456, Value.slice (some ⟨eA, 0, none⟩) 1 1, Value.int .i64 (-1), Value.int .i64 (-1)] 38))).cell? ⟨w.heap.size, 0, none⟩ = some (Value.string (⟨#[84]⟩ : ByteArray)) := (hx.out).cell 0; have k1 : ((w.alloc (.cells #[Value.string (⟨#[84]⟩ : ByteArray), Value.string (⟨#[69, 85, 82]⟩ : ByteArray), Value.int .i64 1, Value.int .i64 0, Value.int .i64 268435456, Value.slice (some ⟨eA, 0, none⟩) 1 1, Value.int .i64 (-1), Value.int .i64 (-1)] 38))).cell? ⟨w.heap.size, 1, none⟩ = some (Value.string (⟨#[69, 85, 82]⟩ : ByteArray)) := (hx.out).cell 1
  go_enter Tryd.func5, Tryd.ntmps5
  go_wp2_with fail
  refine (hid_.out _).mono ?_; rintro e w1 ⟨rfl, hq⟩
  replace hx := Lib.hid (hx.out.below hq hx.out.lt)
  replace hT := Lib.hid (hT.out.more hq)
  replace hb := Lib.hid (hb.out.trans (hq.mono hb.out.size))
  clear hq hid_ k0 k1
  have k0 : (w1).cell? ⟨w.heap.size, 0, none⟩ = some (Value.string (⟨#[84]⟩ : ByteArray)) := (hx.out).cell 0; have k1 : (w1).cell? ⟨w.heap.size, 1, none⟩ = some (Value.string (⟨#[69, 85, 82]⟩ : ByteArray)) := (hx.out).cell 1
  go_wp2_with fail
  refine (hcu.out _).mono ?_; rintro e w2 ⟨rfl, hq⟩
  replace hx := Lib.hid (hx.out.below hq hx.out.lt)
  replace hT := Lib.hid (hT.out.more hq)
  replace hb := Lib.hid (hb.out.trans (hq.mono hb.out.size))
  clear hq hcu k0 k1
  have k0 : (w2).cell? ⟨w.heap.size, 0, none⟩ = some (Value.string (⟨#[84]⟩ : ByteArray)) := (hx.out).cell 0; have k1 : (w2).cell? ⟨w.heap.size, 1, none⟩ = some (Value.string (⟨#[69, 85, 82]⟩ : ByteArray)) := (hx.out).cell 1; have k2 : (w2).cell? ⟨w.heap.size, 2, none⟩ = some (Value.int .i64 1) := (hx.out).cell 2; have k3 : (w2).cell? ⟨w.heap.size, 3, none⟩ = some (Value.int .i64 0) := (hx.out).cell 3; have k4 : (w2).cell? ⟨w.heap.size, 4, none⟩ = some (Value.int .i64 268435456) := (hx.out).cell 4; have k5 : (w2).cell? ⟨w.heap.size, 5, none⟩ = some (Value.slice (some ⟨eA, 0, none⟩) 1 1) := (hx.out).cell 5; have k6 : (w2).cell? ⟨w.heap.size, 6, none⟩ = some (Value.int .i64 (-1)) := (hx.out).cell 6; have k7 : (w2).cell? ⟨w.heap.size, 7, none⟩ = some (Value.int .i64 (-1)) := (hx.out).cell 7
  go_wp2_with fail
  refine (hot.out _).mono ?_; rintro e w3 ⟨rfl, rfl⟩
  go_wp2_with fail
  iterate 2
    refine (hon.out _ _ _).mono ?_; rintro e w3 ⟨rfl, rfl⟩
    go_wp2_with fail
  clear hon hot
  go_loopw [80] (fun i wr => ∃ k : Nat, k ≤ 1 ∧ i = .int .i64 k ∧ Hid (TarAt wr eA cA cost rate) ∧ Hid (Below w.heap.size w wr)) (fun i _ => 1 - (intOf i).toNat)
  case atStart => exact ⟨0, Nat.zero_le _, rfl, hT.out, hb.out⟩
  case round =>
    clear hx hT hb k0 k1 k2 k3 k4 k5 k6 k7
    obtain ⟨k, hk, rfl, hT, hb⟩ := hrel
    rcases (show k = 0 ∨ k = 1 by omega) with rfl | rfl
    · have c0 : (wr).cell? ⟨eA, 0, none⟩ = some (Value.slice (some ⟨cA, 0, none⟩) 1 1) := (hT.out.el).cell 0; have c1 : (wr).cell? ⟨eA, 1, none⟩ = some (Value.int .i64 0) := (hT.out.el).cell 1; have c2 : (wr).cell? ⟨eA, 2, none⟩ = some (Value.int .i64 0) := (hT.out.el).cell 2; have c3 : (wr).cell? ⟨eA, 3, none⟩ = some (Value.int .i64 0) := (hT.out.el).cell 3; have c4 : (wr).cell? ⟨eA, 4, none⟩ = some (Value.int .i64 (-1)) := (hT.out.el).cell 4; have c5 : (wr).cell? ⟨eA, 5, none⟩ = some (Value.int .i64 (-1)) := (hT.out.el).cell 5; have c6 : (wr).cell? ⟨eA, 6, none⟩ = some (Value.int .i64 (-1)) := (hT.out.el).cell 6; have c7 : (wr).cell? ⟨eA, 7, none⟩ = some (Value.int .i64 (-1)) := (hT.out.el).cell 7; have c8 : (wr).cell? ⟨eA, 8, none⟩ = some (Value.int .i64 (-1)) := (hT.out.el).cell 8; have c9 : (wr).cell? ⟨eA, 9, none⟩ = some (Value.int .i64 (-1)) := (hT.out.el).cell 9; have c10 : (wr).cell? ⟨eA, 10, none⟩ = some (Value.int .i64 (-1)) := (hT.out.el).cell 10; have c11 : (wr).cell? ⟨eA, 11, none⟩ = some (Value.int .i64 (-1)) := (hT.out.el).cell 11
      have hN := Lib.hid (Blk.new wr 35 #[Value.slice (some ⟨cA, 0, none⟩) 1 1, Value.int .i64 0, Value.int .i64 0, Value.int .i64 0, Value.int .i64 (-1), Value.int .i64 (-1), Value.int .i64 (-1), Value.int .i64 (-1), Value.int .i64 (-1), Value.int .i64 (-1), Value.int .i64 (-1), Value.int .i64 (-1)])
      have hbN := a1 wr (.cells #[Value.slice (some ⟨cA, 0, none⟩) 1 1, Value.int .i64 0, Value.int .i64 0, Value.int .i64 0, Value.int .i64 (-1), Value.int .i64 (-1), Value.int .i64 (-1), Value.int .i64 (-1), Value.int .i64 (-1), Value.int .i64 (-1), Value.int .i64 (-1), Value.int .i64 (-1)] 35)
      replace hT := Lib.hid (hT.out.more hbN)
      replace hb := Lib.hid (hb.out.trans (hbN.mono hb.out.size))
      have n0 : ((wr.alloc (.cells #[Value.slice (some ⟨cA, 0, none⟩) 1 1, Value.int .i64 0, Value.int .i64 0, Value.int .i64 0, Value.int .i64 (-1), Value.int .i64 (-1), Value.int .i64 (-1), Value.int .i64 (-1), Value.int .i64 (-1), Value.int .i64 (-1), Value.int .i64 (-1), Value.int .i64 (-1)] 35))).cell? ⟨wr.heap.size, 0, none⟩ = some (Value.slice (some ⟨cA, 0, none⟩) 1 1) := (hN.out).cell 0; have n1 : ((wr.alloc (.cells #[Value.slice (some ⟨cA, 0, none⟩) 1 1, Value.int .i64 0, Value.int .i64 0, Value.int .i64 0, Value.int .i64 (-1), Value.int .i64 (-1), Value.int .i64 (-1), Value.int .i64 (-1), Value.int .i64 (-1), Value.int .i64 (-1), Value.int .i64 (-1), Value.int .i64 (-1)] 35))).cell? ⟨wr.heap.size, 1, none⟩ = some (Value.int .i64 0) := (hN.out).cell 1; have n2 : ((wr.alloc (.cells #[Value.slice (some ⟨cA, 0, none⟩) 1 1, Value.int .i64 0, Value.int .i64 0, Value.int .i64 0, Value.int .i64 (-1), Value.int .i64 (-1), Value.int .i64 (-1), Value.int .i64 (-1), Value.int .i64 (-1), Value.int .i64 (-1), Value.int .i64 (-1), Value.int .i64 (-1)] 35))).cell? ⟨wr.heap.size, 2, none⟩ = some (Value.int .i64 0) := (hN.out).cell 2; have n3 : ((wr.alloc (.cells #[Value.slice (some ⟨cA, 0, none⟩) 1 1, Value.int .i64 0, Value.int .i64 0, Value.int .i64 0, Value.int .i64 (-1), Value.int .i64 (-1), Value.int .i64 (-1), Value.int .i64 (-1), Value.int .i64 (-1), Value.int .i64 (-1), Value.int .i64 (-1), Value.int .i64 (-1)] 35))).cell? ⟨wr.heap.size, 3, none⟩ = some (Value.int .i64 0) := (hN.out).cell 3; have n4 : ((wr.alloc (.cells #[Value.slice (some ⟨cA, 0, none⟩) 1 1, Value.int .i64 0, Value.int .i64 0, Value.int .i64 0, Value.int .i64 (-1), Value.int .i64 (-1), Value.int .i64 (-1), Value.int .i64 (-1), Value.int .i64 (-1), Value.int .i64 (-1), Value.int .i64 (-1), Value.int .i64 (-1)] 35))).cell? ⟨wr.heap.size, 4, none⟩ = some (Value.int .i64 (-1)) := (hN.out).cell 4; have n5 : ((wr.alloc (.cells #[Value.slice (some ⟨cA, 0, none⟩) 1 1, Value.int .i64 0, Value.int .i64 0, Value.int .i64 0, Value.int .i64 (-1), Value.int .i64 (-1), Value.int .i64 (-1), Value.int .i64 (-1), Value.int .i64 (-1), Value.int .i64 (-1), Value.int .i64 (-1), Value.int .i64 (-1)] 35))).cell? ⟨wr.heap.size, 5, none⟩ = some (Value.int .i64 (-1)) := (hN.out).cell 5; have n6 : ((wr.alloc (.cells #[Value.slice (some ⟨cA, 0, none⟩) 1 1, Value.int .i64 0, Value.int .i64 0, Value.int .i64 0, Value.int .i64 (-1), Value.int .i64 (-1), Value.int .i64 (-1), Value.int .i64 (-1), Value.int .i64 (-1), Value.int .i64 (-1), Value.int .i64 (-1), Value.int .i64 (-1)] 35))).cell? ⟨wr.heap.size, 6, none⟩ = some (Value.int .i64 (-1)) := (hN.out).cell 6; have n7 : ((wr.alloc (.cells #[Value.slice (some ⟨cA, 0, none⟩) 1 1, Value.int .i64 0, Value.int .i64 0, Value.int .i64 0, Value.int .i64 (-1), Value.int .i64 (-1), Value.int .i64 (-1), Value.int .i64 (-1), Value.int .i64 (-1), Value.int .i64 (-1), Value.int .i64 (-1), Value.int .i64 (-1)] 35))).cell? ⟨wr.heap.size, 7, none⟩ = some (Value.int .i64 (-1)) := (hN.out).cell 7; have n8 : ((wr.alloc (.cells #[Value.slice (some ⟨cA, 0, none⟩) 1 1, Value.int .i64 0, Value.int .i64 0, Value.int .i64 0, Value.int .i64 (-1), Value.int .i64 (-1), Value.int .i64 (-1), Value.int .i64 (-1), Value.int .i64 (-1), Value.int .i64 (-1), Value.int .i64 (-1), Value.int .i64 (-1)] 35))).cell? ⟨wr.heap.size, 8, none⟩ = some (Value.int .i64 (-1)) := (hN.out).cell 8; have n9 : ((wr.alloc (.cells #[Value.slice (some ⟨cA, 0, none⟩) 1 1, Value.int .i64 0, Value.int .i64 0, Value.int .i64 0, Value.int .i64 (-1), Value.int .i64 (-1), Value.int .i64 (-1), Value.int .i64 (-1), Value.int .i64 (-1), Value.int .i64 (-1), Value.int .i64 (-1), Value.int .i64 (-1)] 35))).cell? ⟨wr.heap.size, 9, none⟩ = some (Value.int .i64 (-1)) := (hN.out).cell 9; have n10 : ((wr.alloc (.cells #[Value.slice (some ⟨cA, 0, none⟩) 1 1, Value.int .i64 0, Value.int .i64 0, Value.int .i64 0, Value.int .i64 (-1), Value.int .i64 (-1), Value.int .i64 (-1), Value.int .i64 (-1), Value.int .i64 (-1), Value.int .i64 (-1), Value.int .i64 (-1), Value.int .i64 (-1)] 35))).cell? ⟨wr.heap.size, 10, none⟩ = some (Value.int .i64 (-1)) := (hN.out).cell 10; have n11 : ((wr.alloc (.cells #[Value.slice (some ⟨cA, 0, none⟩) 1 1, Value.int .i64 0, Value.int .i64 0, Value.int .i64 0, Value.int .i64 (-1), Value.int .i64 (-1), Value.int .i64 (-1), Value.int .i64 (-1), Value.int .i64 (-1), Value.int .i64 (-1), Value.int .i64 (-1), Value.int .i64 (-1)] 35))).cell? ⟨wr.heap.size, 11, none⟩ = some (Value.int .i64 (-1)) := (hN.out).cell 11
      have hc1 := Lib.hid (hve.out (wr.alloc (.cells #[Value.slice (some ⟨cA, 0, none⟩) 1 1, Value.int .i64 0, Value.int .i64 0, Value.int .i64 0, Value.int .i64 (-1), Value.int .i64 (-1), Value.int .i64 (-1), Value.int .i64 (-1), Value.int .i64 (-1), Value.int .i64 (-1), Value.int .i64 (-1), Value.int .i64 (-1)] 35)) hT.out.co)
      clear hve hk hbN
      go_wp2_with fail
      refine hc1.out.mono ?_; rintro e w1 ⟨rfl, hq⟩
      replace hT := Lib.hid (hT.out.more hq)
      replace hb := Lib.hid (hb.out.trans (hq.mono hb.out.size))
      clear hq hc1
      go_wp2_with fail
      go_roundw
      case rel => exact ⟨1, by omega, by go_num, hT.out, hb.out⟩
      case measure => simp [intOf]
    · clear hk
      go_wp2_with fail
      go_ret
      exact ⟨rfl, hb.out⟩
end Go.Proofs.YtbngclibfnnejaaDoor
