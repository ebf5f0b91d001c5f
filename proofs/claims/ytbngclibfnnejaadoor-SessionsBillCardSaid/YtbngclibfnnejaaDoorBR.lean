/- Charges and items: prices and taxes of one charge of energy. -/
import Derived.Test.YtbngclibfnnejaaDoorBQ
import Derived.Test.YtbngclibfnnejaaDoorBD
import Derived.Test.YtbngclibfnnejaaDoorRU
set_option linter.unusedVariables false
set_option linter.unusedSimpArgs false
namespace Go.Proofs.YtbngclibfnnejaaDoor
open Go.RowKit
set_option maxRecDepth 100000 in
set_option maxHeartbeats 4000000 in
theorem pvalid_any (cost rate T : Int) (w : World) (h0 : 0 ≤ cost) (h1 : cost ≤ 100000) (h2 : 0 ≤ rate) (h3 : rate ≤ 10000) (h4 : 0 ≤ T) (h5 : T ≤ 100000000) : Calls Tryd.prog 49 #[.agg #[Value.int .i64 2, Value.int .i64 cost, Value.int .i64 rate, Value.int .i64 T]] w fun e w' => e = .returned (.bool true) ∧ Below w.heap.size w w' := by
  have d0 : decide (0 ≤ cost) = true := by simp; omega
  have d1 : decide (cost ≤ 1073741824) = true := by simp; omega
  have d2 : decide (0 ≤ rate) = true := by simp; omega
  have d3 : decide (rate ≤ 10000) = true := by simp; omega
  have d4 : decide (0 ≤ T) = true := by simp; omega
  have d5 : decide (T ≤ 35184372088832) = true := by simp; omega
  have hx := Lib.hid (Blk.new w 73 #[Value.int .i64 2, Value.int .i64 cost, Value.int .i64 rate, Value.int .i64 T])
  have hb : Hid (Below w.heap.size w (w.alloc (.cells #[Value.int .i64 2, Value.int .i64 cost, Value.int .i64 rate, Value.int .i64 T] 73))) := a1 w _
  have k0 : ((w.alloc (.cells #[Value.int .i64 2, Value.int .i64 cost, Value.int .i64 rate, Value.int .i64 T] 73))).cell? ⟨w.heap.size, 0, none⟩ = some (Value.int .i64 2) := (hx.out).cell 0; have k1 : ((w.alloc (.cells #[Value.int .i64 2, Value.int .i64 cost, Value.int .i64 rate, Value.int .i64 T] 73))).cell? ⟨w.heap.size, 1, none⟩ = some (Value.int .i64 cost) := (hx.out).cell 1; have k2 : ((w.alloc (.cells #[Value.int .i64 2, Value.int .i64 cost, Value.int .i64 rate, Value.int .i64 T] 73))).cell? ⟨w.heap.size, 2, none⟩ = some (Value.int .i64 rate) := (hx.out).cell 2; have k3 : ((w.alloc (.cells #[Value.int .i64 2, Value.int .i64 cost, Value.int .i64 rate, Value.int .i64 T] 73))).cell? ⟨w.heap.size, 3, none⟩ = some (Value.int .i64 T) := (hx.out).cell 3
  clear h0 h1 h2 h3 h4 h5
  go_enter Tryd.func49, Tryd.ntmps49
  go_wp2_with fail
  go_ret
  exact ⟨rfl, hb.out⟩
theorem known_any (w : World) : Calls Tryd.prog 42 #[.int .i64 2] w fun e w' => e = .returned (.bool true) ∧ w' = w := by
  go_enter Tryd.func42, Tryd.ntmps42
  go_wp2_with fail
  go_ret
  exact ⟨rfl, rfl⟩
set_option maxRecDepth 100000 in
set_option maxHeartbeats 4000000 in
theorem plus_any (a b : Int) (w : World) (h0 : 0 ≤ a) (h1 : a ≤ 1000000000000000) (h2 : 0 ≤ b) (h3 : b ≤ 1000000000000000) : Calls Tryd.prog 51 #[.int .i64 a, .int .i64 b] w fun e w' => e = .returned (.tuple #[.int .i64 (a + b), .bool true]) ∧ w' = w := by
  by_cases hb : b = 0
  · subst hb
    rw [Int.add_zero]
    go_enter Tryd.func51, Tryd.ntmps51
    go_wp2_with fail
    refine bodyPost_ret (v := .tuple #[.int .i64 a, .bool true]) (by simp [results, Tryd.results51, go_sem]) rfl ⟨rfl, rfl⟩
  · have d0 : decide (0 < b) = true := by simp; omega
    have d1 : decide (b < 0) = false := by simp; omega
    have d2 : decide (9223372036854775807 - b < a) = false := by simp; omega
    replace hb := Lib.hid hb
    go_enter Tryd.func51, Tryd.ntmps51
    go_wp2_with fail
    refine bodyPost_ret (v := .tuple #[.int .i64 (a + b), .bool true]) (by simp [results, Tryd.results51, go_sem]) rfl ⟨rfl, rfl⟩
def F43a (g1 : Nat) (cost T net : Int) : Tmp → Value → World → Prop
  | 1, v, _ => v = .pointer (some ⟨g1, 0, none⟩)
  | 4, v, _ => v = .int .i64 net
  | 9, v, _ => v = .tuple #[.int .i64 net, .int .i64 0]
  | 10, v, _ => v = .pointer (some ⟨g1, 3, none⟩)
  | 11, v, _ => v = .int .i64 T
  | 12, v, _ => v = .pointer (some ⟨g1, 1, none⟩)
  | 13, v, _ => v = .int .i64 cost
  | 14, v, _ => v = .pointer (some ⟨g1, 0, none⟩)
  | 15, v, _ => v = .int .i64 2
  | 16, v, _ => v = .int .i64 60000
  | 17, v, _ => v = .tuple #[.int .i64 net, .int .i64 0]
  | 18, v, _ => v = .int .i64 net
  | 19, v, _ => v = .int .i64 0
  | _, _, _ => True
theorem F43a_more {g1 : Nat} {cost T net : Int} (d t : Tmp) (v : Value) (w w' : World) (hR : Rb w w') (hne : t ≠ d) (hc : ([] : List (Tmp × Tmp)).contains (d, t) = false) (h : F43a g1 cost T net t v w) : F43a g1 cost T net t v w' := by
  unfold F43a at *
  split at h <;> first | exact h
theorem F43a_lit (tm : Array Value) (hs : tm.size = 24) : tm = #[tm[0]?.getD undef, tm[1]?.getD undef, tm[2]?.getD undef, tm[3]?.getD undef, tm[4]?.getD undef, tm[5]?.getD undef, tm[6]?.getD undef, tm[7]?.getD undef, tm[8]?.getD undef, tm[9]?.getD undef, tm[10]?.getD undef, tm[11]?.getD undef, tm[12]?.getD undef, tm[13]?.getD undef, tm[14]?.getD undef, tm[15]?.getD undef, tm[16]?.getD undef, tm[17]?.getD undef, tm[18]?.getD undef, tm[19]?.getD undef, tm[20]?.getD undef, tm[21]?.getD undef, tm[22]?.getD undef, tm[23]?.getD undef] := lit_arr tm 24 hs
set_option maxRecDepth 100000 in
set_option maxHeartbeats 4000000 in
theorem net_any (cost rate T : Int) (w : World) (h0 : 0 ≤ cost) (h1 : cost ≤ 100000) (h2 : 0 ≤ rate) (h3 : rate ≤ 10000) (h4 : 0 ≤ T) (h5 : T ≤ 100000000) : Calls Tryd.prog 43 #[.agg #[Value.int .i64 2, Value.int .i64 cost, Value.int .i64 rate, Value.int .i64 T]] w fun e w' => e = .returned (.tuple #[.int .i64 (scaleR T cost 60000), .int .i64 0]) ∧ Below w.heap.size w w' := by
  have hv := Lib.hid (fun w => pvalid_any cost rate T w h0 h1 h2 h3 h4 h5)
  have hsc := Lib.hid (fun w => scale_any T cost 60000 w h4 (by omega) h0 (by omega) (by omega) (by omega))
  have hu := Lib.hid (fun w => unit_any w)
  generalize scaleR T cost 60000 = net at *
  have hx := Lib.hid (Blk.new w 73 #[Value.int .i64 2, Value.int .i64 cost, Value.int .i64 rate, Value.int .i64 T])
  have hb : Hid (Below w.heap.size w (w.alloc (.cells #[Value.int .i64 2, Value.int .i64 cost, Value.int .i64 rate, Value.int .i64 T] 73))) := a1 w _
  have k0 : ((w.alloc (.cells #[Value.int .i64 2, Value.int .i64 cost, Value.int .i64 rate, Value.int .i64 T] 73))).cell? ⟨w.heap.size, 0, none⟩ = some (Value.int .i64 2) := (hx.out).cell 0; have k1 : ((w.alloc (.cells #[Value.int .i64 2, Value.int .i64 cost, Value.int .i64 rate, Value.int .i64 T] 73))).cell? ⟨w.heap.size, 1, none⟩ = some (Value.int .i64 cost) := (hx.out).cell 1; have k2 : ((w.alloc (.cells #[Value.int .i64 2, Value.int .i64 cost, Value.int .i64 rate, Value.int .i64 T] 73))).cell? ⟨w.heap.size, 2, none⟩ = some (Value.int .i64 rate) := (hx.out).cell 2; have k3 : ((w.alloc (.cells #[Value.int .i64 2, Value.int .i64 cost, Value.int .i64 rate, Value.int .i64 T] 73))).cell? ⟨w.heap.size, 3, none⟩ = some (Value.int .i64 T) := (hx.out).cell 3
  clear h0 h1 h2 h3 h4 h5
  go_enter Tryd.func43, Tryd.ntmps43
  go_wp2_with fail
  refine (hv.out _).mono ?_; rintro e w1 ⟨rfl, hq⟩
  replace hx := Lib.hid (hx.out.below hq hx.out.lt)
  replace hb := Lib.hid (hb.out.trans (hq.mono hb.out.size))
  clear hq hv k0 k1 k2 k3
  go_wp2_with fail
  have hcell : Hid (∀ wz, Below w1.heap.size w1 wz → wz.cell? ⟨w.heap.size, 0, none⟩ = some (Value.int .i64 2) ∧ wz.cell? ⟨w.heap.size, 1, none⟩ = some (Value.int .i64 cost) ∧ wz.cell? ⟨w.heap.size, 2, none⟩ = some (Value.int .i64 rate) ∧ wz.cell? ⟨w.heap.size, 3, none⟩ = some (Value.int .i64 T)) := fun wz h => by
    have q := hx.out.below h hx.out.lt
    exact ⟨q.cell 0, q.cell 1, q.cell 2, q.cell 3⟩
  refine RU.region [] [] 12 (F := F43a w.heap.size cost T net) (W := fun wz => Below w1.heap.size w1 wz) (R := fun _ => Rb) rfl F43a_more (by kernel_rfl) (by kernel_rfl) (by kernel_rfl) (by kernel_rfl) (by kernel_rfl) (by kernel_rfl) ?_ ?_ ?_ ?_
  · exact (Below.refl _ _).drew
  · intro t ht
    unfold F43a
    split <;> first | trivial | exact rfl | (exact absurd ht (by decide))
  · intro i o hi ho
    have hcs : i = 0 ∨ i = 1 ∨ i = 2 ∨ i = 3 ∨ i = 4 ∨ i = 5 ∨ i = 6 ∨ i = 7 ∨ i = 8 ∨ i = 9 ∨ i = 10 ∨ i = 11 := by omega
    rcases hcs with rfl | rfl | rfl | rfl | rfl | rfl | rfl | rfl | rfl | rfl | rfl | rfl <;> (injection ho with ho; subst ho)
    · intro a w2 hw _ hf K hK
      have f0 := hf 1 rfl
      simp only [F43a] at f0
      clear hf
      go_simp
      exact hK _ _ _ rfl rfl hw (Below.refl _ _) (fun h => absurd h (by decide))
    · intro a w2 hw _ hf K hK
      have f0 := hf 10 rfl
      simp only [F43a] at f0
      clear hf
      obtain ⟨k0, k1, k2, k3⟩ := hcell.out w2 hw
      go_simp
      exact hK _ _ _ rfl rfl hw (Below.refl _ _) (fun h => absurd h (by decide))
    · intro a w2 hw _ hf K hK
      have f0 := hf 1 rfl
      simp only [F43a] at f0
      clear hf
      go_simp
      exact hK _ _ _ rfl rfl hw (Below.refl _ _) (fun h => absurd h (by decide))
    · intro a w2 hw _ hf K hK
      have f0 := hf 12 rfl
      simp only [F43a] at f0
      clear hf
      obtain ⟨k0, k1, k2, k3⟩ := hcell.out w2 hw
      go_simp
      exact hK _ _ _ rfl rfl hw (Below.refl _ _) (fun h => absurd h (by decide))
    · intro a w2 hw _ hf K hK
      have f0 := hf 1 rfl
      simp only [F43a] at f0
      clear hf
      go_simp
      exact hK _ _ _ rfl rfl hw (Below.refl _ _) (fun h => absurd h (by decide))
    · intro a w2 hw _ hf K hK
      have f0 := hf 14 rfl
      simp only [F43a] at f0
      clear hf
      obtain ⟨k0, k1, k2, k3⟩ := hcell.out w2 hw
      go_simp
      exact hK _ _ _ rfl rfl hw (Below.refl _ _) (fun h => absurd h (by decide))
    · intro a w2 hw _ hf K hK
      have f0 := hf 15 rfl
      simp only [F43a] at f0
      clear hf
      go_simp
      refine (hu.out w2).mono ?_; rintro e w5 ⟨rfl, rfl⟩
      exact hK _ _ _ rfl rfl hw (Below.refl _ _) (fun h => absurd h (by decide))
    · intro a w2 hw _ hf K hK
      have f0 := hf 11 rfl
      have f1 := hf 13 rfl
      have f2 := hf 16 rfl
      simp only [F43a] at f0 f1 f2
      clear hf
      go_simp
      refine (hsc.out w2).mono ?_; rintro e w5 ⟨rfl, hb⟩
      exact hK _ _ _ rfl rfl (hw.trans (hb.mono hw.size)) hb (fun h => absurd h (by decide))
    · intro a w2 hw _ hf K hK
      have f0 := hf 17 rfl
      simp only [F43a] at f0
      clear hf
      go_simp
      exact hK _ _ _ rfl rfl hw (Below.refl _ _) (fun h => absurd h (by decide))
    · intro a w2 hw _ hf K hK
      have f0 := hf 9 rfl
      simp only [F43a] at f0
      clear hf
      go_simp
      exact hK _ _ _ rfl rfl hw (Below.refl _ _) (fun h => absurd h (by decide))
    · intro a w2 hw _ hf K hK
      have f0 := hf 9 rfl
      simp only [F43a] at f0
      clear hf
      go_simp
      exact hK _ _ _ rfl rfl hw (Below.refl _ _) (fun h => absurd h (by decide))
    · intro a w2 hw _ hf K hK
      have f0 := hf 18 rfl
      simp only [F43a] at f0
      clear hf
      go_simp
      exact hK _ _ _ rfl rfl hw (Below.refl _ _) (fun h => absurd h (by decide))
  · intro a' w9 hd hs hw hout hf
    have h4 := hf 11 4 (by decide) rfl rfl
    simp only [F43a] at h4
    have h19 := hf 10 19 (by decide) rfl rfl
    simp only [F43a] at h19
    have e1 : _ = some (Value.pointer (some ⟨w.heap.size, 0, none⟩)) := hout 1 rfl
    have e0 := hout 0 rfl
    have e2 := hout 2 rfl
    have e3 := hout 3 rfl
    have e6 := hout 6 rfl
    have e7 := hout 7 rfl
    have e8 := hout 8 rfl
    have e20 := hout 20 rfl
    have e21 := hout 21 rfl
    have e22 := hout 22 rfl
    have e23 := hout 23 rfl
    simp only [List.getElem?_toArray, List.getElem?_cons_succ, List.getElem?_cons_zero] at e0 e2 e3 e6 e7 e8 e20 e21 e22 e23
    obtain ⟨tm, df⟩ := a'
    simp only at hd hs h4 h19 e0 e1 e2 e3 e6 e7 e8 e20 e21 e22 e23
    have e := F43a_lit tm hs
    simp only [h4, h19, e0, e1, e2, e3, e6, e7, e8, e20, e21, e22, e23, Option.getD_some] at e
    clear hf hout hs
    rw [e, hd]
    clear e hd h4 h19 e0 e1 e2 e3 e6 e7 e8 e20 e21 e22 e23
    generalize tm[5]?.getD undef = v5x, tm[9]?.getD undef = v9x, tm[10]?.getD undef = v10x, tm[11]?.getD undef = v11x, tm[12]?.getD undef = v12x, tm[13]?.getD undef = v13x, tm[14]?.getD undef = v14x, tm[15]?.getD undef = v15x, tm[16]?.getD undef = v16x, tm[17]?.getD undef = v17x, tm[18]?.getD undef = v18x
    have hbk : Hid (Below w.heap.size w w9) := hb.out.trans (hw.mono hb.out.size)
    clear hcell hw hb
    simp only [List.drop_succ_cons, List.drop_zero]
    go_wp2_with fail
    refine bodyPost_ret (v := .tuple #[.int .i64 net, .int .i64 0]) (by simp [results, Tryd.results43, go_sem]) rfl ⟨rfl, hbk.out⟩
set_option maxRecDepth 100000 in
set_option maxHeartbeats 4000000 in
theorem taxed_any (cost rate T n : Int) (w : World) (h0 : 0 ≤ n) (h1 : n ≤ 1000000000) (h2 : 0 ≤ rate) (h3 : rate ≤ 10000) : Calls Tryd.prog 44 #[.agg #[Value.int .i64 2, Value.int .i64 cost, Value.int .i64 rate, Value.int .i64 T, Value.int .i64 n, Value.int .i64 0, Value.int .i64 0]] w fun e w' => e = .returned (.tuple #[.agg #[Value.int .i64 2, Value.int .i64 cost, Value.int .i64 rate, Value.int .i64 T, Value.int .i64 n, Value.int .i64 (scaleR n rate 10000), Value.int .i64 (n + scaleR n rate 10000)], .int .i64 0]) ∧ Below w.heap.size w w' := by
  have hv := scaleR_in n rate 10000 h0 h2 (by omega)
  have hnr : n * rate ≤ 1000000000 * 10000 := Int.mul_le_mul h1 h3 h2 (by omega)
  have hsc := Lib.hid (fun w => scale_any n rate 10000 w h0 (by omega) h2 (by omega) (by omega) (by omega))
  have hpl := Lib.hid (fun w => plus_any n (scaleR n rate 10000) w h0 (by omega) hv.1 (by omega))
  generalize scaleR n rate 10000 = vat at *
  have hx0 := Blk.new w 90 #[Value.int .i64 2, Value.int .i64 cost, Value.int .i64 rate, Value.int .i64 T, Value.int .i64 n, Value.int .i64 0, Value.int .i64 0]
  have hy0 := Blk.new (w.alloc (.cells #[Value.int .i64 2, Value.int .i64 cost, Value.int .i64 rate, Value.int .i64 T, Value.int .i64 n, Value.int .i64 0, Value.int .i64 0] 90)) 90 #[Value.int .i64 0, Value.int .i64 0, Value.int .i64 0, Value.int .i64 0, Value.int .i64 0, Value.int .i64 0, Value.int .i64 0]
  rw [show (w.alloc (.cells #[Value.int .i64 2, Value.int .i64 cost, Value.int .i64 rate, Value.int .i64 T, Value.int .i64 n, Value.int .i64 0, Value.int .i64 0] 90)).heap.size = w.heap.size + 1 by simp] at hy0
  have hx := Lib.hid ((hx0.below (a1 _ (.cells #[Value.int .i64 0, Value.int .i64 0, Value.int .i64 0, Value.int .i64 0, Value.int .i64 0, Value.int .i64 0, Value.int .i64 0] 90)) (by simp)))
  have hy := Lib.hid hy0
  have hb : Hid (Below w.heap.size w ((w.alloc (.cells #[Value.int .i64 2, Value.int .i64 cost, Value.int .i64 rate, Value.int .i64 T, Value.int .i64 n, Value.int .i64 0, Value.int .i64 0] 90)).alloc (.cells #[Value.int .i64 0, Value.int .i64 0, Value.int .i64 0, Value.int .i64 0, Value.int .i64 0, Value.int .i64 0, Value.int .i64 0] 90))) := below_new (a1 w _) _
  have k0 : (((w.alloc (.cells #[Value.int .i64 2, Value.int .i64 cost, Value.int .i64 rate, Value.int .i64 T, Value.int .i64 n, Value.int .i64 0, Value.int .i64 0] 90)).alloc (.cells #[Value.int .i64 0, Value.int .i64 0, Value.int .i64 0, Value.int .i64 0, Value.int .i64 0, Value.int .i64 0, Value.int .i64 0] 90))).cell? ⟨w.heap.size, 0, none⟩ = some (Value.int .i64 2) := (hx.out).cell 0; have k1 : (((w.alloc (.cells #[Value.int .i64 2, Value.int .i64 cost, Value.int .i64 rate, Value.int .i64 T, Value.int .i64 n, Value.int .i64 0, Value.int .i64 0] 90)).alloc (.cells #[Value.int .i64 0, Value.int .i64 0, Value.int .i64 0, Value.int .i64 0, Value.int .i64 0, Value.int .i64 0, Value.int .i64 0] 90))).cell? ⟨w.heap.size, 1, none⟩ = some (Value.int .i64 cost) := (hx.out).cell 1; have k2 : (((w.alloc (.cells #[Value.int .i64 2, Value.int .i64 cost, Value.int .i64 rate, Value.int .i64 T, Value.int .i64 n, Value.int .i64 0, Value.int .i64 0] 90)).alloc (.cells #[Value.int .i64 0, Value.int .i64 0, Value.int .i64 0, Value.int .i64 0, Value.int .i64 0, Value.int .i64 0, Value.int .i64 0] 90))).cell? ⟨w.heap.size, 2, none⟩ = some (Value.int .i64 rate) := (hx.out).cell 2; have k3 : (((w.alloc (.cells #[Value.int .i64 2, Value.int .i64 cost, Value.int .i64 rate, Value.int .i64 T, Value.int .i64 n, Value.int .i64 0, Value.int .i64 0] 90)).alloc (.cells #[Value.int .i64 0, Value.int .i64 0, Value.int .i64 0, Value.int .i64 0, Value.int .i64 0, Value.int .i64 0, Value.int .i64 0] 90))).cell? ⟨w.heap.size, 3, none⟩ = some (Value.int .i64 T) := (hx.out).cell 3; have k4 : (((w.alloc (.cells #[Value.int .i64 2, Value.int .i64 cost, Value.int .i64 rate, Value.int .i64 T, Value.int .i64 n, Value.int .i64 0, Value.int .i64 0] 90)).alloc (.cells #[Value.int .i64 0, Value.int .i64 0, Value.int .i64 0, Value.int .i64 0, Value.int .i64 0, Value.int .i64 0, Value.int .i64 0] 90))).cell? ⟨w.heap.size, 4, none⟩ = some (Value.int .i64 n) := (hx.out).cell 4; have k5 : (((w.alloc (.cells #[Value.int .i64 2, Value.int .i64 cost, Value.int .i64 rate, Value.int .i64 T, Value.int .i64 n, Value.int .i64 0, Value.int .i64 0] 90)).alloc (.cells #[Value.int .i64 0, Value.int .i64 0, Value.int .i64 0, Value.int .i64 0, Value.int .i64 0, Value.int .i64 0, Value.int .i64 0] 90))).cell? ⟨w.heap.size, 5, none⟩ = some (Value.int .i64 0) := (hx.out).cell 5; have k6 : (((w.alloc (.cells #[Value.int .i64 2, Value.int .i64 cost, Value.int .i64 rate, Value.int .i64 T, Value.int .i64 n, Value.int .i64 0, Value.int .i64 0] 90)).alloc (.cells #[Value.int .i64 0, Value.int .i64 0, Value.int .i64 0, Value.int .i64 0, Value.int .i64 0, Value.int .i64 0, Value.int .i64 0] 90))).cell? ⟨w.heap.size, 6, none⟩ = some (Value.int .i64 0) := (hx.out).cell 6
  clear hx0 hy0 hnr h0 h1 h2 h3 hv
  go_enter Tryd.func44, Tryd.ntmps44
  go_wp2_with fail
  refine (hsc.out _).mono ?_; rintro e w1 ⟨rfl, hq⟩
  replace hx := Lib.hid (hx.out.below hq hx.out.lt)
  replace hy := Lib.hid (hy.out.below hq hy.out.lt)
  replace hb := Lib.hid (hb.out.trans (hq.mono hb.out.size))
  clear hq hsc k0 k1 k2 k3 k4 k5 k6
  have m0 : (w1).cell? ⟨w.heap.size, 0, none⟩ = some (Value.int .i64 2) := (hx.out).cell 0; have m1 : (w1).cell? ⟨w.heap.size, 1, none⟩ = some (Value.int .i64 cost) := (hx.out).cell 1; have m2 : (w1).cell? ⟨w.heap.size, 2, none⟩ = some (Value.int .i64 rate) := (hx.out).cell 2; have m3 : (w1).cell? ⟨w.heap.size, 3, none⟩ = some (Value.int .i64 T) := (hx.out).cell 3; have m4 : (w1).cell? ⟨w.heap.size, 4, none⟩ = some (Value.int .i64 n) := (hx.out).cell 4; have m5 : (w1).cell? ⟨w.heap.size, 5, none⟩ = some (Value.int .i64 0) := (hx.out).cell 5; have m6 : (w1).cell? ⟨w.heap.size, 6, none⟩ = some (Value.int .i64 0) := (hx.out).cell 6
  have mz5 : w1.frozen? ⟨w.heap.size, 5, none⟩ = false := hx.out.frozen 5; have mz6 : w1.frozen? ⟨w.heap.size, 6, none⟩ = false := hx.out.frozen 6
  have y0 : (w1).cell? ⟨(w.heap.size + 1), 0, none⟩ = some (Value.int .i64 0) := (hy.out).cell 0; have y1 : (w1).cell? ⟨(w.heap.size + 1), 1, none⟩ = some (Value.int .i64 0) := (hy.out).cell 1; have y2 : (w1).cell? ⟨(w.heap.size + 1), 2, none⟩ = some (Value.int .i64 0) := (hy.out).cell 2; have y3 : (w1).cell? ⟨(w.heap.size + 1), 3, none⟩ = some (Value.int .i64 0) := (hy.out).cell 3; have y4 : (w1).cell? ⟨(w.heap.size + 1), 4, none⟩ = some (Value.int .i64 0) := (hy.out).cell 4; have y5 : (w1).cell? ⟨(w.heap.size + 1), 5, none⟩ = some (Value.int .i64 0) := (hy.out).cell 5; have y6 : (w1).cell? ⟨(w.heap.size + 1), 6, none⟩ = some (Value.int .i64 0) := (hy.out).cell 6; have yz0 : (w1).frozen? ⟨(w.heap.size + 1), 0, none⟩ = false := (hy.out).frozen 0; have yz1 : (w1).frozen? ⟨(w.heap.size + 1), 1, none⟩ = false := (hy.out).frozen 1; have yz2 : (w1).frozen? ⟨(w.heap.size + 1), 2, none⟩ = false := (hy.out).frozen 2; have yz3 : (w1).frozen? ⟨(w.heap.size + 1), 3, none⟩ = false := (hy.out).frozen 3; have yz4 : (w1).frozen? ⟨(w.heap.size + 1), 4, none⟩ = false := (hy.out).frozen 4; have yz5 : (w1).frozen? ⟨(w.heap.size + 1), 5, none⟩ = false := (hy.out).frozen 5; have yz6 : (w1).frozen? ⟨(w.heap.size + 1), 6, none⟩ = false := (hy.out).frozen 6
  have hxs := Lib.hid ((hx.out.set_ 5 (Value.int .i64 vat)).set_ 6 (Value.int .i64 (n + vat)))
  have hxr : Hid (Blk ((w1.setCell ⟨w.heap.size, 5, none⟩ (Value.int .i64 vat)).setCell ⟨w.heap.size, 6, none⟩ (Value.int .i64 (n + vat))) w.heap.size 90 #[Value.int .i64 2, Value.int .i64 cost, Value.int .i64 rate, Value.int .i64 T, Value.int .i64 n, Value.int .i64 vat, Value.int .i64 (n + vat)]) := hxs.out
  have hyr : Hid (Blk ((w1.setCell ⟨w.heap.size, 5, none⟩ (Value.int .i64 vat)).setCell ⟨w.heap.size, 6, none⟩ (Value.int .i64 (n + vat))) (w.heap.size + 1) 90 #[Value.int .i64 0, Value.int .i64 0, Value.int .i64 0, Value.int .i64 0, Value.int .i64 0, Value.int .i64 0, Value.int .i64 0]) := (hy.out.grown (only_set (only_set (World.grownBy.refl _ _) 5 _) 6 _) (by intro e; injection e with e; omega))
  have p0 : (((w1.setCell ⟨w.heap.size, 5, none⟩ (Value.int .i64 vat)).setCell ⟨w.heap.size, 6, none⟩ (Value.int .i64 (n + vat)))).cell? ⟨w.heap.size, 0, none⟩ = some (Value.int .i64 2) := (hxr.out).cell 0; have p1 : (((w1.setCell ⟨w.heap.size, 5, none⟩ (Value.int .i64 vat)).setCell ⟨w.heap.size, 6, none⟩ (Value.int .i64 (n + vat)))).cell? ⟨w.heap.size, 1, none⟩ = some (Value.int .i64 cost) := (hxr.out).cell 1; have p2 : (((w1.setCell ⟨w.heap.size, 5, none⟩ (Value.int .i64 vat)).setCell ⟨w.heap.size, 6, none⟩ (Value.int .i64 (n + vat)))).cell? ⟨w.heap.size, 2, none⟩ = some (Value.int .i64 rate) := (hxr.out).cell 2; have p3 : (((w1.setCell ⟨w.heap.size, 5, none⟩ (Value.int .i64 vat)).setCell ⟨w.heap.size, 6, none⟩ (Value.int .i64 (n + vat)))).cell? ⟨w.heap.size, 3, none⟩ = some (Value.int .i64 T) := (hxr.out).cell 3; have p4 : (((w1.setCell ⟨w.heap.size, 5, none⟩ (Value.int .i64 vat)).setCell ⟨w.heap.size, 6, none⟩ (Value.int .i64 (n + vat)))).cell? ⟨w.heap.size, 4, none⟩ = some (Value.int .i64 n) := (hxr.out).cell 4; have p5 : (((w1.setCell ⟨w.heap.size, 5, none⟩ (Value.int .i64 vat)).setCell ⟨w.heap.size, 6, none⟩ (Value.int .i64 (n + vat)))).cell? ⟨w.heap.size, 5, none⟩ = some (Value.int .i64 vat) := (hxr.out).cell 5; have p6 : (((w1.setCell ⟨w.heap.size, 5, none⟩ (Value.int .i64 vat)).setCell ⟨w.heap.size, 6, none⟩ (Value.int .i64 (n + vat)))).cell? ⟨w.heap.size, 6, none⟩ = some (Value.int .i64 (n + vat)) := (hxr.out).cell 6
  have r0 : (((w1.setCell ⟨w.heap.size, 5, none⟩ (Value.int .i64 vat)).setCell ⟨w.heap.size, 6, none⟩ (Value.int .i64 (n + vat)))).cell? ⟨(w.heap.size + 1), 0, none⟩ = some (Value.int .i64 0) := (hyr.out).cell 0; have r1 : (((w1.setCell ⟨w.heap.size, 5, none⟩ (Value.int .i64 vat)).setCell ⟨w.heap.size, 6, none⟩ (Value.int .i64 (n + vat)))).cell? ⟨(w.heap.size + 1), 1, none⟩ = some (Value.int .i64 0) := (hyr.out).cell 1; have r2 : (((w1.setCell ⟨w.heap.size, 5, none⟩ (Value.int .i64 vat)).setCell ⟨w.heap.size, 6, none⟩ (Value.int .i64 (n + vat)))).cell? ⟨(w.heap.size + 1), 2, none⟩ = some (Value.int .i64 0) := (hyr.out).cell 2; have r3 : (((w1.setCell ⟨w.heap.size, 5, none⟩ (Value.int .i64 vat)).setCell ⟨w.heap.size, 6, none⟩ (Value.int .i64 (n + vat)))).cell? ⟨(w.heap.size + 1), 3, none⟩ = some (Value.int .i64 0) := (hyr.out).cell 3; have r4 : (((w1.setCell ⟨w.heap.size, 5, none⟩ (Value.int .i64 vat)).setCell ⟨w.heap.size, 6, none⟩ (Value.int .i64 (n + vat)))).cell? ⟨(w.heap.size + 1), 4, none⟩ = some (Value.int .i64 0) := (hyr.out).cell 4; have r5 : (((w1.setCell ⟨w.heap.size, 5, none⟩ (Value.int .i64 vat)).setCell ⟨w.heap.size, 6, none⟩ (Value.int .i64 (n + vat)))).cell? ⟨(w.heap.size + 1), 5, none⟩ = some (Value.int .i64 0) := (hyr.out).cell 5; have r6 : (((w1.setCell ⟨w.heap.size, 5, none⟩ (Value.int .i64 vat)).setCell ⟨w.heap.size, 6, none⟩ (Value.int .i64 (n + vat)))).cell? ⟨(w.heap.size + 1), 6, none⟩ = some (Value.int .i64 0) := (hyr.out).cell 6; have rz0 : (((w1.setCell ⟨w.heap.size, 5, none⟩ (Value.int .i64 vat)).setCell ⟨w.heap.size, 6, none⟩ (Value.int .i64 (n + vat)))).frozen? ⟨(w.heap.size + 1), 0, none⟩ = false := (hyr.out).frozen 0; have rz1 : (((w1.setCell ⟨w.heap.size, 5, none⟩ (Value.int .i64 vat)).setCell ⟨w.heap.size, 6, none⟩ (Value.int .i64 (n + vat)))).frozen? ⟨(w.heap.size + 1), 1, none⟩ = false := (hyr.out).frozen 1; have rz2 : (((w1.setCell ⟨w.heap.size, 5, none⟩ (Value.int .i64 vat)).setCell ⟨w.heap.size, 6, none⟩ (Value.int .i64 (n + vat)))).frozen? ⟨(w.heap.size + 1), 2, none⟩ = false := (hyr.out).frozen 2; have rz3 : (((w1.setCell ⟨w.heap.size, 5, none⟩ (Value.int .i64 vat)).setCell ⟨w.heap.size, 6, none⟩ (Value.int .i64 (n + vat)))).frozen? ⟨(w.heap.size + 1), 3, none⟩ = false := (hyr.out).frozen 3; have rz4 : (((w1.setCell ⟨w.heap.size, 5, none⟩ (Value.int .i64 vat)).setCell ⟨w.heap.size, 6, none⟩ (Value.int .i64 (n + vat)))).frozen? ⟨(w.heap.size + 1), 4, none⟩ = false := (hyr.out).frozen 4; have rz5 : (((w1.setCell ⟨w.heap.size, 5, none⟩ (Value.int .i64 vat)).setCell ⟨w.heap.size, 6, none⟩ (Value.int .i64 (n + vat)))).frozen? ⟨(w.heap.size + 1), 5, none⟩ = false := (hyr.out).frozen 5; have rz6 : (((w1.setCell ⟨w.heap.size, 5, none⟩ (Value.int .i64 vat)).setCell ⟨w.heap.size, 6, none⟩ (Value.int .i64 (n + vat)))).frozen? ⟨(w.heap.size + 1), 6, none⟩ = false := (hyr.out).frozen 6
  go_wp2_with fail
  refine (hpl.out _).mono ?_; rintro e w2 ⟨rfl, rfl⟩
  go_wp2_with fail
  (try simp only [Exit.inBlock, Exit.then])
  have hRf : Blk (((((((((w2.setCell ⟨w.heap.size, 5, none⟩ (Value.int .i64 vat)).setCell ⟨w.heap.size, 6, none⟩ (Value.int .i64 (n + vat))).setCell ⟨(w.heap.size + 1), 0, none⟩ (Value.int .i64 2)).setCell ⟨(w.heap.size + 1), 1, none⟩ (Value.int .i64 cost)).setCell ⟨(w.heap.size + 1), 2, none⟩ (Value.int .i64 rate)).setCell ⟨(w.heap.size + 1), 3, none⟩ (Value.int .i64 T)).setCell ⟨(w.heap.size + 1), 4, none⟩ (Value.int .i64 n)).setCell ⟨(w.heap.size + 1), 5, none⟩ (Value.int .i64 vat)).setCell ⟨(w.heap.size + 1), 6, none⟩ (Value.int .i64 (n + vat))) (w.heap.size + 1) 90 #[Value.int .i64 2, Value.int .i64 cost, Value.int .i64 rate, Value.int .i64 T, Value.int .i64 n, Value.int .i64 vat, Value.int .i64 (n + vat)] := ((((((hyr.out.set_ 0 _).set_ 1 _).set_ 2 _).set_ 3 _).set_ 4 _).set_ 5 _).set_ 6 _
  refine bodyPost_ret (v := .tuple #[.agg #[Value.int .i64 2, Value.int .i64 cost, Value.int .i64 rate, Value.int .i64 T, Value.int .i64 n, Value.int .i64 vat, Value.int .i64 (n + vat)], .int .i64 0]) ?_ rfl ?_
  · refine (res2 (fn := Tryd.f44) (p := 2) (u := 3) (ty := 90) rfl _ _ (w.heap.size + 1) 90 _ (0, 0) _ ?_ hRf Tryd.underlying90 rfl (by kernel_rfl)).trans ?_
    · rfl
    · rfl
  · exact ⟨rfl, below_set (below_set (below_set (below_set (below_set (below_set (below_set (below_set (below_set hb.out (Nat.le_refl _) 5 _) (Nat.le_refl _) 6 _) (by omega) 0 _) (by omega) 1 _) (by omega) 2 _) (by omega) 3 _) (by omega) 4 _) (by omega) 5 _) (by omega) 6 _⟩
def netR (cost T : Int) : Int := scaleR T cost 60000
def vatR (cost rate T : Int) : Int := scaleR (netR cost T) rate 10000
theorem netR_in (cost T : Int) (h0 : 0 ≤ cost) (h1 : cost ≤ 100000) (h4 : 0 ≤ T) (h5 : T ≤ 100000000) : 0 ≤ netR cost T ∧ netR cost T ≤ 1000000000 := by
  have hm : 0 ≤ T * cost := Int.mul_nonneg h4 h0
  have hm2 : T * cost ≤ 100000000 * 100000 := Int.mul_le_mul h5 h1 h0 (by omega)
  unfold netR scaleR
  generalize T * cost = P at *
  split <;> omega
theorem vatR_in (cost rate T : Int) (h0 : 0 ≤ cost) (h1 : cost ≤ 100000) (h2 : 0 ≤ rate) (h3 : rate ≤ 10000) (h4 : 0 ≤ T) (h5 : T ≤ 100000000) : 0 ≤ vatR cost rate T ∧ vatR cost rate T ≤ 1000000001 := by
  have hn := netR_in cost T h0 h1 h4 h5
  have hm : 0 ≤ netR cost T * rate := Int.mul_nonneg hn.1 h2
  have hm2 : netR cost T * rate ≤ 1000000000 * 10000 := Int.mul_le_mul hn.2 h3 h2 (by omega)
  unfold vatR scaleR
  generalize netR cost T * rate = P at *
  split <;> omega
set_option maxRecDepth 100000 in
set_option maxHeartbeats 4000000 in
theorem item_any (cost rate T : Int) (w : World) (h0 : 0 ≤ cost) (h1 : cost ≤ 100000) (h2 : 0 ≤ rate) (h3 : rate ≤ 10000) (h4 : 0 ≤ T) (h5 : T ≤ 100000000) : Calls Tryd.prog 26 #[.agg #[Value.int .i64 2, Value.int .i64 cost, Value.int .i64 rate, Value.int .i64 T]] w fun e w' => e = .returned (.tuple #[.agg #[Value.int .i64 2, Value.int .i64 cost, Value.int .i64 rate, Value.int .i64 T, Value.int .i64 (netR cost T), Value.int .i64 (vatR cost rate T), Value.int .i64 (netR cost T + vatR cost rate T)], .int .i64 0]) ∧ Below w.heap.size w w' := by
  have hk := Lib.hid (fun w => known_any w)
  have hn := Lib.hid (fun w => net_any cost rate T w h0 h1 h2 h3 h4 h5)
  have hin := netR_in cost T h0 h1 h4 h5
  have ht := Lib.hid (fun w => taxed_any cost rate T (netR cost T) w hin.1 hin.2 h2 h3)
  have hvr : Hid (vatR cost rate T = scaleR (netR cost T) rate 10000) := rfl
  have hnr : Hid (netR cost T = scaleR T cost 60000) := rfl
  rw [← hnr.out] at hn
  rw [← hvr.out] at ht
  generalize vatR cost rate T = vat at *
  generalize netR cost T = n at *
  have hx0 := Blk.new w 73 #[Value.int .i64 2, Value.int .i64 cost, Value.int .i64 rate, Value.int .i64 T]
  have hy0 := Blk.new (w.alloc (.cells #[Value.int .i64 2, Value.int .i64 cost, Value.int .i64 rate, Value.int .i64 T] 73)) 90 #[Value.int .i64 0, Value.int .i64 0, Value.int .i64 0, Value.int .i64 0, Value.int .i64 0, Value.int .i64 0, Value.int .i64 0]
  rw [show (w.alloc (.cells #[Value.int .i64 2, Value.int .i64 cost, Value.int .i64 rate, Value.int .i64 T] 73)).heap.size = w.heap.size + 1 by simp] at hy0
  have hx := Lib.hid ((hx0.below (a1 _ (.cells #[Value.int .i64 0, Value.int .i64 0, Value.int .i64 0, Value.int .i64 0, Value.int .i64 0, Value.int .i64 0, Value.int .i64 0] 90)) (by simp)))
  have hy := Lib.hid hy0
  have hb : Hid (Below w.heap.size w ((w.alloc (.cells #[Value.int .i64 2, Value.int .i64 cost, Value.int .i64 rate, Value.int .i64 T] 73)).alloc (.cells #[Value.int .i64 0, Value.int .i64 0, Value.int .i64 0, Value.int .i64 0, Value.int .i64 0, Value.int .i64 0, Value.int .i64 0] 90))) := below_new (a1 w _) _
  have k0 : (((w.alloc (.cells #[Value.int .i64 2, Value.int .i64 cost, Value.int .i64 rate, Value.int .i64 T] 73)).alloc (.cells #[Value.int .i64 0, Value.int .i64 0, Value.int .i64 0, Value.int .i64 0, Value.int .i64 0, Value.int .i64 0, Value.int .i64 0] 90))).cell? ⟨w.heap.size, 0, none⟩ = some (Value.int .i64 2) := (hx.out).cell 0; have k1 : (((w.alloc (.cells #[Value.int .i64 2, Value.int .i64 cost, Value.int .i64 rate, Value.int .i64 T] 73)).alloc (.cells #[Value.int .i64 0, Value.int .i64 0, Value.int .i64 0, Value.int .i64 0, Value.int .i64 0, Value.int .i64 0, Value.int .i64 0] 90))).cell? ⟨w.heap.size, 1, none⟩ = some (Value.int .i64 cost) := (hx.out).cell 1; have k2 : (((w.alloc (.cells #[Value.int .i64 2, Value.int .i64 cost, Value.int .i64 rate, Value.int .i64 T] 73)).alloc (.cells #[Value.int .i64 0, Value.int .i64 0, Value.int .i64 0, Value.int .i64 0, Value.int .i64 0, Value.int .i64 0, Value.int .i64 0] 90))).cell? ⟨w.heap.size, 2, none⟩ = some (Value.int .i64 rate) := (hx.out).cell 2; have k3 : (((w.alloc (.cells #[Value.int .i64 2, Value.int .i64 cost, Value.int .i64 rate, Value.int .i64 T] 73)).alloc (.cells #[Value.int .i64 0, Value.int .i64 0, Value.int .i64 0, Value.int .i64 0, Value.int .i64 0, Value.int .i64 0, Value.int .i64 0] 90))).cell? ⟨w.heap.size, 3, none⟩ = some (Value.int .i64 T) := (hx.out).cell 3
  clear hx0 hy0 hin h0 h1 h2 h3 h4 h5 hvr hnr
  go_enter Tryd.func26, Tryd.ntmps26
  go_wp2_with fail
  refine (hk.out _).mono ?_; rintro e w0 ⟨rfl, rfl⟩
  go_wp2_with fail
  refine (hn.out _).mono ?_; rintro e w1 ⟨rfl, hq⟩
  replace hx := Lib.hid (hx.out.below hq hx.out.lt)
  replace hy := Lib.hid (hy.out.below hq hy.out.lt)
  replace hb := Lib.hid (hb.out.trans (hq.mono hb.out.size))
  clear hq hn k0 k1 k2 k3
  have m0 : (w1).cell? ⟨w.heap.size, 0, none⟩ = some (Value.int .i64 2) := (hx.out).cell 0; have m1 : (w1).cell? ⟨w.heap.size, 1, none⟩ = some (Value.int .i64 cost) := (hx.out).cell 1; have m2 : (w1).cell? ⟨w.heap.size, 2, none⟩ = some (Value.int .i64 rate) := (hx.out).cell 2; have m3 : (w1).cell? ⟨w.heap.size, 3, none⟩ = some (Value.int .i64 T) := (hx.out).cell 3
  go_wp2_with fail
  refine (ht.out _).mono ?_; rintro e w2 ⟨rfl, hq⟩
  replace hy := Lib.hid (hy.out.below hq hy.out.lt)
  replace hb := Lib.hid (hb.out.trans (hq.mono hb.out.size))
  clear hq ht hx m0 m1 m2 m3
  have r0 : (w2).cell? ⟨(w.heap.size + 1), 0, none⟩ = some (Value.int .i64 0) := (hy.out).cell 0; have r1 : (w2).cell? ⟨(w.heap.size + 1), 1, none⟩ = some (Value.int .i64 0) := (hy.out).cell 1; have r2 : (w2).cell? ⟨(w.heap.size + 1), 2, none⟩ = some (Value.int .i64 0) := (hy.out).cell 2; have r3 : (w2).cell? ⟨(w.heap.size + 1), 3, none⟩ = some (Value.int .i64 0) := (hy.out).cell 3; have r4 : (w2).cell? ⟨(w.heap.size + 1), 4, none⟩ = some (Value.int .i64 0) := (hy.out).cell 4; have r5 : (w2).cell? ⟨(w.heap.size + 1), 5, none⟩ = some (Value.int .i64 0) := (hy.out).cell 5; have r6 : (w2).cell? ⟨(w.heap.size + 1), 6, none⟩ = some (Value.int .i64 0) := (hy.out).cell 6; have rz0 : (w2).frozen? ⟨(w.heap.size + 1), 0, none⟩ = false := (hy.out).frozen 0; have rz1 : (w2).frozen? ⟨(w.heap.size + 1), 1, none⟩ = false := (hy.out).frozen 1; have rz2 : (w2).frozen? ⟨(w.heap.size + 1), 2, none⟩ = false := (hy.out).frozen 2; have rz3 : (w2).frozen? ⟨(w.heap.size + 1), 3, none⟩ = false := (hy.out).frozen 3; have rz4 : (w2).frozen? ⟨(w.heap.size + 1), 4, none⟩ = false := (hy.out).frozen 4; have rz5 : (w2).frozen? ⟨(w.heap.size + 1), 5, none⟩ = false := (hy.out).frozen 5; have rz6 : (w2).frozen? ⟨(w.heap.size + 1), 6, none⟩ = false := (hy.out).frozen 6
  go_wp2_with fail
  (try simp only [Exit.inBlock, Exit.then])
  have hRf : Blk (((((((w2.setCell ⟨(w.heap.size + 1), 0, none⟩ (Value.int .i64 2)).setCell ⟨(w.heap.size + 1), 1, none⟩ (Value.int .i64 cost)).setCell ⟨(w.heap.size + 1), 2, none⟩ (Value.int .i64 rate)).setCell ⟨(w.heap.size + 1), 3, none⟩ (Value.int .i64 T)).setCell ⟨(w.heap.size + 1), 4, none⟩ (Value.int .i64 n)).setCell ⟨(w.heap.size + 1), 5, none⟩ (Value.int .i64 vat)).setCell ⟨(w.heap.size + 1), 6, none⟩ (Value.int .i64 (n + vat))) (w.heap.size + 1) 90 #[Value.int .i64 2, Value.int .i64 cost, Value.int .i64 rate, Value.int .i64 T, Value.int .i64 n, Value.int .i64 vat, Value.int .i64 (n + vat)] := ((((((hy.out.set_ 0 _).set_ 1 _).set_ 2 _).set_ 3 _).set_ 4 _).set_ 5 _).set_ 6 _
  refine bodyPost_ret (v := .tuple #[.agg #[Value.int .i64 2, Value.int .i64 cost, Value.int .i64 rate, Value.int .i64 T, Value.int .i64 n, Value.int .i64 vat, Value.int .i64 (n + vat)], .int .i64 0]) ?_ rfl ?_
  · refine (res2 (fn := Tryd.f26) (p := 2) (u := 3) (ty := 90) rfl _ _ (w.heap.size + 1) 90 _ (0, 0) _ ?_ hRf Tryd.underlying90 rfl (by kernel_rfl)).trans ?_
    · rfl
    · rfl
  · exact ⟨rfl, below_set (below_set (below_set (below_set (below_set (below_set (below_set hb.out (by omega) 0 _) (by omega) 1 _) (by omega) 2 _) (by omega) 3 _) (by omega) 4 _) (by omega) 5 _) (by omega) 6 _⟩
end Go.Proofs.YtbngclibfnnejaaDoor
