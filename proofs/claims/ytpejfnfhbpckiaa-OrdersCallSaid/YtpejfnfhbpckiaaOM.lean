/- Orders: the examples of the chapter, walked. -/
import Derived.Test.YtpejfnfhbpckiaaOL
import Derived.Test.YtpejfnfhbpckiaaOK
import Derived.Test.YtpejfnfhbpckiaaOH
import Derived.Test.YtpejfnfhbpckiaaOC
import Derived.Test.YtpejfnfhbpckiaaOFp
set_option linter.unusedVariables false
set_option linter.unusedSimpArgs false
namespace Go.Proofs.Ytpejfnfhbpckiaa
open Go.RowKit Go.Proofs.Ytpejfnfhbpckiaa.Ord
theorem ex1 : openF nameB [] ⟨#[83]⟩ 2 = ([⟨1, 2, ⟨#[83]⟩, 0, 0, 1, 0⟩], 1, 0) := by kernel_rfl
theorem ex2 : openF nameB [⟨1, 2, ⟨#[83]⟩, 0, 0, 1, 0⟩] ⟨#[83]⟩ 0 = ([⟨1, 2, ⟨#[83]⟩, 0, 0, 1, 0⟩, ⟨2, 0, ⟨#[83]⟩, 0, 0, 1, 0⟩], 2, 0) := by kernel_rfl
theorem ex3 : closeF [⟨1, 2, ⟨#[83]⟩, 0, 0, 1, 0⟩, ⟨2, 0, ⟨#[83]⟩, 0, 0, 1, 0⟩] 1 true = ([⟨1, 2, ⟨#[83]⟩, 0, 0, 1, 0⟩, ⟨2, 0, ⟨#[83]⟩, 0, 0, 1, 0⟩], 10) := by kernel_rfl
theorem ex4 : planF [⟨1, 2, ⟨#[83]⟩, 0, 0, 1, 0⟩, ⟨2, 0, ⟨#[83]⟩, 0, 0, 1, 0⟩] 1 10 20 = ([⟨1, 2, ⟨#[83]⟩, 10, 20, 2, 1⟩, ⟨2, 0, ⟨#[83]⟩, 0, 0, 1, 0⟩], 0) := by kernel_rfl
theorem ex5 : planF [⟨1, 2, ⟨#[83]⟩, 10, 20, 2, 1⟩, ⟨2, 0, ⟨#[83]⟩, 0, 0, 1, 0⟩] 2 15 30 = ([⟨1, 2, ⟨#[83]⟩, 10, 20, 2, 1⟩, ⟨2, 0, ⟨#[83]⟩, 0, 0, 1, 0⟩], 16) := by kernel_rfl
theorem ex6 : planF [⟨1, 2, ⟨#[83]⟩, 10, 20, 2, 1⟩, ⟨2, 0, ⟨#[83]⟩, 0, 0, 1, 0⟩] 2 20 30 = ([⟨1, 2, ⟨#[83]⟩, 10, 20, 2, 1⟩, ⟨2, 0, ⟨#[83]⟩, 20, 30, 2, 1⟩], 0) := by kernel_rfl
theorem ex7 : valid nameB [⟨1, 2, ⟨#[83]⟩, 10, 20, 2, 1⟩, ⟨2, 0, ⟨#[83]⟩, 20, 30, 2, 1⟩] = 0 := by kernel_rfl
theorem eb1 : blocks [⟨1, 2, ⟨#[83]⟩, 10, 20, 2, 1⟩, ⟨2, 0, ⟨#[83]⟩, 0, 0, 1, 0⟩] ⟨#[83]⟩ 2 10 = true := by kernel_rfl
theorem eb2 : blocks [⟨1, 2, ⟨#[83]⟩, 10, 20, 2, 1⟩, ⟨2, 0, ⟨#[83]⟩, 0, 0, 1, 0⟩] ⟨#[83]⟩ 2 19 = true := by kernel_rfl
theorem eb3 : blocks [⟨1, 2, ⟨#[83]⟩, 10, 20, 2, 1⟩, ⟨2, 0, ⟨#[83]⟩, 0, 0, 1, 0⟩] ⟨#[83]⟩ 2 20 = false := by kernel_rfl
theorem eb4 : blocks [⟨1, 2, ⟨#[83]⟩, 10, 20, 2, 1⟩, ⟨2, 0, ⟨#[83]⟩, 0, 0, 1, 0⟩] ⟨#[83]⟩ 1 10 = false := by kernel_rfl
theorem eb5 : blocks [⟨1, 2, ⟨#[83]⟩, 10, 20, 2, 1⟩, ⟨2, 0, ⟨#[83]⟩, 20, 30, 2, 1⟩] ⟨#[83]⟩ 1 25 = true := by kernel_rfl
theorem ex8 : stepF [⟨1, 2, ⟨#[83]⟩, 10, 20, 2, 1⟩, ⟨2, 0, ⟨#[83]⟩, 0, 0, 1, 0⟩] 25 = [⟨1, 2, ⟨#[83]⟩, 10, 20, 4, 2⟩, ⟨2, 0, ⟨#[83]⟩, 0, 0, 1, 0⟩] := by kernel_rfl
theorem ex9 : stepF [⟨1, 2, ⟨#[83]⟩, 10, 20, 2, 1⟩, ⟨2, 0, ⟨#[83]⟩, 0, 0, 1, 0⟩] 12 = [⟨1, 2, ⟨#[83]⟩, 10, 20, 3, 2⟩, ⟨2, 0, ⟨#[83]⟩, 0, 0, 1, 0⟩] := by kernel_rfl
theorem ex10 : closeF [⟨1, 2, ⟨#[83]⟩, 10, 20, 3, 2⟩, ⟨2, 0, ⟨#[83]⟩, 0, 0, 1, 0⟩] 1 true = ([⟨1, 2, ⟨#[83]⟩, 10, 20, 4, 3⟩, ⟨2, 0, ⟨#[83]⟩, 0, 0, 1, 0⟩], 0) := by kernel_rfl
theorem eb6 : blocks [⟨1, 2, ⟨#[83]⟩, 10, 20, 4, 3⟩, ⟨2, 0, ⟨#[83]⟩, 0, 0, 1, 0⟩] ⟨#[83]⟩ 2 15 = false := by kernel_rfl
set_option maxRecDepth 100000 in
set_option maxHeartbeats 4000000 in
theorem example_any (w : World) : Calls Try.prog 9 #[] w fun e w' => e = .returned (.bool true) ∧ Below w.heap.size w w' := by
  have hz : Hid (OAt w w.heap.size none 0 []) := LAt.nil oC_len _ _
  have hb0 : Hid (Below w.heap.size w w) := Below.refl _ _
  go_enter Try.func9, Try.ntmps9
  go_wp2_with fail
  refine (open_any none [] 0 0 ⟨#[83]⟩ 2 _ (hz.out.more hb0.out) (Nat.le_refl _) (Nat.zero_le _) (by decide) (by decide)).mono ?_; rintro e w1 ⟨v1, rfl, o1⟩
  rw [ex1] at o1
  try rw [ex1]
  obtain ⟨A1, n1, c1, rfl, h1, p1, m1, hc1⟩ := o1
  obtain rfl : n1 = 1 := h1.len.symm
  have m1' : c1 ≤ 2 ^ 63 - 1 := m1
  replace h1 := Lib.hid h1
  have hb1 : Hid (Below w.heap.size w w1) := hb0.out.trans (hc1.mono hb0.out.size)
  replace hc1 := Lib.hid hc1
  have hbl1_1 : Hid (Below w1.heap.size w1 w1) := Below.refl _ _
  go_wp2_with fail
  refine (open_any A1 [⟨1, 2, ⟨#[83]⟩, 0, 0, 1, 0⟩] 1 c1 ⟨#[83]⟩ 0 _ (h1.out.more hbl1_1.out) p1 m1 (by decide) (by decide)).mono ?_; rintro e w2 ⟨v2, rfl, o2⟩
  rw [ex2] at o2
  try rw [ex2]
  obtain ⟨A2, n2, c2, rfl, h2, p2, m2, hc2⟩ := o2
  obtain rfl : n2 = 2 := h2.len.symm
  have m2' : c2 ≤ 2 ^ 63 - 1 := m2
  replace h2 := Lib.hid h2
  have hb2 : Hid (Below w.heap.size w w2) := hb1.out.trans (hc2.mono hb1.out.size)
  have hbl1_2 : Hid (Below w1.heap.size w1 w2) := hbl1_1.out.trans (hc2.mono hbl1_1.out.size)
  replace hc2 := Lib.hid hc2
  have hbl2_2 : Hid (Below w2.heap.size w2 w2) := Below.refl _ _
  go_wp2_with fail
  refine (close_any A2 [⟨1, 2, ⟨#[83]⟩, 0, 0, 1, 0⟩, ⟨2, 0, ⟨#[83]⟩, 0, 0, 1, 0⟩] 2 c2 1 true _ (h2.out.more hbl2_2.out) p2 m2 (by omega) (by intro o ho; simp at ho; rcases ho with rfl | rfl <;> decide)).mono ?_; rintro e w3 ⟨v3, rfl, o3⟩
  rw [ex3] at o3
  try rw [ex3]
  obtain ⟨A3, n3, c3, rfl, h3, p3, m3, hc3⟩ := o3
  obtain rfl : n3 = 2 := h3.len.symm
  have m3' : c3 ≤ 2 ^ 63 - 1 := m3
  replace h3 := Lib.hid h3
  have hb3 : Hid (Below w.heap.size w w3) := hb2.out.trans (hc3.mono hb2.out.size)
  have hbl1_3 : Hid (Below w1.heap.size w1 w3) := hbl1_2.out.trans (hc3.mono hbl1_2.out.size)
  have hbl2_3 : Hid (Below w2.heap.size w2 w3) := hbl2_2.out.trans (hc3.mono hbl2_2.out.size)
  replace hc3 := Lib.hid hc3
  have hbx3_3 : Hid (Below w3.heap.size w3 w3) := Below.refl _ _
  go_wp2_with fail
  refine (plan_any A2 [⟨1, 2, ⟨#[83]⟩, 0, 0, 1, 0⟩, ⟨2, 0, ⟨#[83]⟩, 0, 0, 1, 0⟩] 2 c2 1 10 20 _ (h2.out.more hbl2_3.out) p2 m2 (by omega) (by intro o ho; simp at ho; rcases ho with rfl | rfl <;> decide)).mono ?_; rintro e w4 ⟨v4, rfl, o4⟩
  rw [ex4] at o4
  try rw [ex4]
  obtain ⟨A4, n4, c4, rfl, h4, p4, m4, hc4⟩ := o4
  obtain rfl : n4 = 2 := h4.len.symm
  have m4' : c4 ≤ 2 ^ 63 - 1 := m4
  replace h4 := Lib.hid h4
  have hb4 : Hid (Below w.heap.size w w4) := hb3.out.trans (hc4.mono hb3.out.size)
  have hbl1_4 : Hid (Below w1.heap.size w1 w4) := hbl1_3.out.trans (hc4.mono hbl1_3.out.size)
  have hbl2_4 : Hid (Below w2.heap.size w2 w4) := hbl2_3.out.trans (hc4.mono hbl2_3.out.size)
  have hbx3_4 : Hid (Below w3.heap.size w3 w4) := hbx3_3.out.trans (hc4.mono hbx3_3.out.size)
  replace hc4 := Lib.hid hc4
  have hbl3_4 : Hid (Below w4.heap.size w4 w4) := Below.refl _ _
  go_wp2_with fail
  refine (plan_any A4 [⟨1, 2, ⟨#[83]⟩, 10, 20, 2, 1⟩, ⟨2, 0, ⟨#[83]⟩, 0, 0, 1, 0⟩] 2 c4 2 15 30 _ (h4.out.more hbl3_4.out) p4 m4 (by omega) (by intro o ho; simp at ho; rcases ho with rfl | rfl <;> decide)).mono ?_; rintro e w5 ⟨v5, rfl, o5⟩
  rw [ex5] at o5
  try rw [ex5]
  obtain ⟨A5, n5, c5, rfl, h5, p5, m5, hc5⟩ := o5
  obtain rfl : n5 = 2 := h5.len.symm
  have m5' : c5 ≤ 2 ^ 63 - 1 := m5
  replace h5 := Lib.hid h5
  have hb5 : Hid (Below w.heap.size w w5) := hb4.out.trans (hc5.mono hb4.out.size)
  have hbl1_5 : Hid (Below w1.heap.size w1 w5) := hbl1_4.out.trans (hc5.mono hbl1_4.out.size)
  have hbl2_5 : Hid (Below w2.heap.size w2 w5) := hbl2_4.out.trans (hc5.mono hbl2_4.out.size)
  have hbx3_5 : Hid (Below w3.heap.size w3 w5) := hbx3_4.out.trans (hc5.mono hbx3_4.out.size)
  have hbl3_5 : Hid (Below w4.heap.size w4 w5) := hbl3_4.out.trans (hc5.mono hbl3_4.out.size)
  replace hc5 := Lib.hid hc5
  have hbx5_5 : Hid (Below w5.heap.size w5 w5) := Below.refl _ _
  go_wp2_with fail
  refine (plan_any A4 [⟨1, 2, ⟨#[83]⟩, 10, 20, 2, 1⟩, ⟨2, 0, ⟨#[83]⟩, 0, 0, 1, 0⟩] 2 c4 2 20 30 _ (h4.out.more hbl3_5.out) p4 m4 (by omega) (by intro o ho; simp at ho; rcases ho with rfl | rfl <;> decide)).mono ?_; rintro e w6 ⟨v6, rfl, o6⟩
  rw [ex6] at o6
  try rw [ex6]
  obtain ⟨A6, n6, c6, rfl, h6, p6, m6, hc6⟩ := o6
  obtain rfl : n6 = 2 := h6.len.symm
  have m6' : c6 ≤ 2 ^ 63 - 1 := m6
  replace h6 := Lib.hid h6
  have hb6 : Hid (Below w.heap.size w w6) := hb5.out.trans (hc6.mono hb5.out.size)
  have hbl1_6 : Hid (Below w1.heap.size w1 w6) := hbl1_5.out.trans (hc6.mono hbl1_5.out.size)
  have hbl2_6 : Hid (Below w2.heap.size w2 w6) := hbl2_5.out.trans (hc6.mono hbl2_5.out.size)
  have hbx3_6 : Hid (Below w3.heap.size w3 w6) := hbx3_5.out.trans (hc6.mono hbx3_5.out.size)
  have hbl3_6 : Hid (Below w4.heap.size w4 w6) := hbl3_5.out.trans (hc6.mono hbl3_5.out.size)
  have hbx5_6 : Hid (Below w5.heap.size w5 w6) := hbx5_5.out.trans (hc6.mono hbx5_5.out.size)
  replace hc6 := Lib.hid hc6
  have hbl4_6 : Hid (Below w6.heap.size w6 w6) := Below.refl _ _
  go_wp2_with fail
  refine (valid_any A6 [⟨1, 2, ⟨#[83]⟩, 10, 20, 2, 1⟩, ⟨2, 0, ⟨#[83]⟩, 20, 30, 2, 1⟩] 2 c6 _ (h6.out.more hbl4_6.out) p6 m6).mono ?_; rintro e w7 ⟨rfl, hc7⟩
  rw [ex7]
  have hb7 : Hid (Below w.heap.size w w7) := hb6.out.trans (hc7.mono hb6.out.size)
  have hbl1_7 : Hid (Below w1.heap.size w1 w7) := hbl1_6.out.trans (hc7.mono hbl1_6.out.size)
  have hbl2_7 : Hid (Below w2.heap.size w2 w7) := hbl2_6.out.trans (hc7.mono hbl2_6.out.size)
  have hbx3_7 : Hid (Below w3.heap.size w3 w7) := hbx3_6.out.trans (hc7.mono hbx3_6.out.size)
  have hbl3_7 : Hid (Below w4.heap.size w4 w7) := hbl3_6.out.trans (hc7.mono hbl3_6.out.size)
  have hbx5_7 : Hid (Below w5.heap.size w5 w7) := hbx5_6.out.trans (hc7.mono hbx5_6.out.size)
  have hbl4_7 : Hid (Below w6.heap.size w6 w7) := hbl4_6.out.trans (hc7.mono hbl4_6.out.size)
  replace hc7 := Lib.hid hc7
  go_wp2_with fail
  refine (blocks_any A4 [⟨1, 2, ⟨#[83]⟩, 10, 20, 2, 1⟩, ⟨2, 0, ⟨#[83]⟩, 0, 0, 1, 0⟩] 2 c4 ⟨#[83]⟩ 2 10 _ (h4.out.more hbl3_7.out) (Nat.le_trans p4 m4)).mono ?_; rintro e w8 ⟨rfl, hc8⟩
  rw [eb1]
  have hb8 : Hid (Below w.heap.size w w8) := hb7.out.trans (hc8.mono hb7.out.size)
  have hbl1_8 : Hid (Below w1.heap.size w1 w8) := hbl1_7.out.trans (hc8.mono hbl1_7.out.size)
  have hbl2_8 : Hid (Below w2.heap.size w2 w8) := hbl2_7.out.trans (hc8.mono hbl2_7.out.size)
  have hbx3_8 : Hid (Below w3.heap.size w3 w8) := hbx3_7.out.trans (hc8.mono hbx3_7.out.size)
  have hbl3_8 : Hid (Below w4.heap.size w4 w8) := hbl3_7.out.trans (hc8.mono hbl3_7.out.size)
  have hbx5_8 : Hid (Below w5.heap.size w5 w8) := hbx5_7.out.trans (hc8.mono hbx5_7.out.size)
  have hbl4_8 : Hid (Below w6.heap.size w6 w8) := hbl4_7.out.trans (hc8.mono hbl4_7.out.size)
  replace hc8 := Lib.hid hc8
  go_wp2_with fail
  refine (blocks_any A4 [⟨1, 2, ⟨#[83]⟩, 10, 20, 2, 1⟩, ⟨2, 0, ⟨#[83]⟩, 0, 0, 1, 0⟩] 2 c4 ⟨#[83]⟩ 2 19 _ (h4.out.more hbl3_8.out) (Nat.le_trans p4 m4)).mono ?_; rintro e w9 ⟨rfl, hc9⟩
  rw [eb2]
  have hb9 : Hid (Below w.heap.size w w9) := hb8.out.trans (hc9.mono hb8.out.size)
  have hbl1_9 : Hid (Below w1.heap.size w1 w9) := hbl1_8.out.trans (hc9.mono hbl1_8.out.size)
  have hbl2_9 : Hid (Below w2.heap.size w2 w9) := hbl2_8.out.trans (hc9.mono hbl2_8.out.size)
  have hbx3_9 : Hid (Below w3.heap.size w3 w9) := hbx3_8.out.trans (hc9.mono hbx3_8.out.size)
  have hbl3_9 : Hid (Below w4.heap.size w4 w9) := hbl3_8.out.trans (hc9.mono hbl3_8.out.size)
  have hbx5_9 : Hid (Below w5.heap.size w5 w9) := hbx5_8.out.trans (hc9.mono hbx5_8.out.size)
  have hbl4_9 : Hid (Below w6.heap.size w6 w9) := hbl4_8.out.trans (hc9.mono hbl4_8.out.size)
  replace hc9 := Lib.hid hc9
  go_wp2_with fail
  refine (blocks_any A4 [⟨1, 2, ⟨#[83]⟩, 10, 20, 2, 1⟩, ⟨2, 0, ⟨#[83]⟩, 0, 0, 1, 0⟩] 2 c4 ⟨#[83]⟩ 2 20 _ (h4.out.more hbl3_9.out) (Nat.le_trans p4 m4)).mono ?_; rintro e w10 ⟨rfl, hc10⟩
  rw [eb3]
  have hb10 : Hid (Below w.heap.size w w10) := hb9.out.trans (hc10.mono hb9.out.size)
  have hbl1_10 : Hid (Below w1.heap.size w1 w10) := hbl1_9.out.trans (hc10.mono hbl1_9.out.size)
  have hbl2_10 : Hid (Below w2.heap.size w2 w10) := hbl2_9.out.trans (hc10.mono hbl2_9.out.size)
  have hbx3_10 : Hid (Below w3.heap.size w3 w10) := hbx3_9.out.trans (hc10.mono hbx3_9.out.size)
  have hbl3_10 : Hid (Below w4.heap.size w4 w10) := hbl3_9.out.trans (hc10.mono hbl3_9.out.size)
  have hbx5_10 : Hid (Below w5.heap.size w5 w10) := hbx5_9.out.trans (hc10.mono hbx5_9.out.size)
  have hbl4_10 : Hid (Below w6.heap.size w6 w10) := hbl4_9.out.trans (hc10.mono hbl4_9.out.size)
  replace hc10 := Lib.hid hc10
  go_wp2_with fail
  refine (blocks_any A4 [⟨1, 2, ⟨#[83]⟩, 10, 20, 2, 1⟩, ⟨2, 0, ⟨#[83]⟩, 0, 0, 1, 0⟩] 2 c4 ⟨#[83]⟩ 1 10 _ (h4.out.more hbl3_10.out) (Nat.le_trans p4 m4)).mono ?_; rintro e w11 ⟨rfl, hc11⟩
  rw [eb4]
  have hb11 : Hid (Below w.heap.size w w11) := hb10.out.trans (hc11.mono hb10.out.size)
  have hbl1_11 : Hid (Below w1.heap.size w1 w11) := hbl1_10.out.trans (hc11.mono hbl1_10.out.size)
  have hbl2_11 : Hid (Below w2.heap.size w2 w11) := hbl2_10.out.trans (hc11.mono hbl2_10.out.size)
  have hbx3_11 : Hid (Below w3.heap.size w3 w11) := hbx3_10.out.trans (hc11.mono hbx3_10.out.size)
  have hbl3_11 : Hid (Below w4.heap.size w4 w11) := hbl3_10.out.trans (hc11.mono hbl3_10.out.size)
  have hbx5_11 : Hid (Below w5.heap.size w5 w11) := hbx5_10.out.trans (hc11.mono hbx5_10.out.size)
  have hbl4_11 : Hid (Below w6.heap.size w6 w11) := hbl4_10.out.trans (hc11.mono hbl4_10.out.size)
  replace hc11 := Lib.hid hc11
  go_wp2_with fail
  refine (blocks_any A6 [⟨1, 2, ⟨#[83]⟩, 10, 20, 2, 1⟩, ⟨2, 0, ⟨#[83]⟩, 20, 30, 2, 1⟩] 2 c6 ⟨#[83]⟩ 1 25 _ (h6.out.more hbl4_11.out) (Nat.le_trans p6 m6)).mono ?_; rintro e w12 ⟨rfl, hc12⟩
  rw [eb5]
  have hb12 : Hid (Below w.heap.size w w12) := hb11.out.trans (hc12.mono hb11.out.size)
  have hbl1_12 : Hid (Below w1.heap.size w1 w12) := hbl1_11.out.trans (hc12.mono hbl1_11.out.size)
  have hbl2_12 : Hid (Below w2.heap.size w2 w12) := hbl2_11.out.trans (hc12.mono hbl2_11.out.size)
  have hbx3_12 : Hid (Below w3.heap.size w3 w12) := hbx3_11.out.trans (hc12.mono hbx3_11.out.size)
  have hbl3_12 : Hid (Below w4.heap.size w4 w12) := hbl3_11.out.trans (hc12.mono hbl3_11.out.size)
  have hbx5_12 : Hid (Below w5.heap.size w5 w12) := hbx5_11.out.trans (hc12.mono hbx5_11.out.size)
  have hbl4_12 : Hid (Below w6.heap.size w6 w12) := hbl4_11.out.trans (hc12.mono hbl4_11.out.size)
  replace hc12 := Lib.hid hc12
  go_wp2_with fail
  refine (step_any A4 [⟨1, 2, ⟨#[83]⟩, 10, 20, 2, 1⟩, ⟨2, 0, ⟨#[83]⟩, 0, 0, 1, 0⟩] 2 c4 25 _ (h4.out.more hbl3_12.out) (by omega) (by intro o ho; simp at ho; rcases ho with rfl | rfl <;> decide)).mono ?_; rintro e w13 ⟨v13, rfl, o13⟩
  rw [ex8] at o13
  try rw [ex8]
  obtain ⟨A13, n13, c13, rfl, h13, p13, m13, hc13⟩ := o13
  obtain rfl : n13 = 2 := h13.len.symm
  have m13' : c13 ≤ 2 ^ 63 - 1 := m13
  replace h13 := Lib.hid h13
  have hb13 : Hid (Below w.heap.size w w13) := hb12.out.trans (hc13.mono hb12.out.size)
  have hbl1_13 : Hid (Below w1.heap.size w1 w13) := hbl1_12.out.trans (hc13.mono hbl1_12.out.size)
  have hbl2_13 : Hid (Below w2.heap.size w2 w13) := hbl2_12.out.trans (hc13.mono hbl2_12.out.size)
  have hbx3_13 : Hid (Below w3.heap.size w3 w13) := hbx3_12.out.trans (hc13.mono hbx3_12.out.size)
  have hbl3_13 : Hid (Below w4.heap.size w4 w13) := hbl3_12.out.trans (hc13.mono hbl3_12.out.size)
  have hbx5_13 : Hid (Below w5.heap.size w5 w13) := hbx5_12.out.trans (hc13.mono hbx5_12.out.size)
  have hbl4_13 : Hid (Below w6.heap.size w6 w13) := hbl4_12.out.trans (hc13.mono hbl4_12.out.size)
  replace hc13 := Lib.hid hc13
  have hbl5_13 : Hid (Below w13.heap.size w13 w13) := Below.refl _ _
  go_wp2_with fail
  refine (step_any A4 [⟨1, 2, ⟨#[83]⟩, 10, 20, 2, 1⟩, ⟨2, 0, ⟨#[83]⟩, 0, 0, 1, 0⟩] 2 c4 12 _ (h4.out.more hbl3_13.out) (by omega) (by intro o ho; simp at ho; rcases ho with rfl | rfl <;> decide)).mono ?_; rintro e w14 ⟨v14, rfl, o14⟩
  rw [ex9] at o14
  try rw [ex9]
  obtain ⟨A14, n14, c14, rfl, h14, p14, m14, hc14⟩ := o14
  obtain rfl : n14 = 2 := h14.len.symm
  have m14' : c14 ≤ 2 ^ 63 - 1 := m14
  replace h14 := Lib.hid h14
  have hb14 : Hid (Below w.heap.size w w14) := hb13.out.trans (hc14.mono hb13.out.size)
  have hbl1_14 : Hid (Below w1.heap.size w1 w14) := hbl1_13.out.trans (hc14.mono hbl1_13.out.size)
  have hbl2_14 : Hid (Below w2.heap.size w2 w14) := hbl2_13.out.trans (hc14.mono hbl2_13.out.size)
  have hbx3_14 : Hid (Below w3.heap.size w3 w14) := hbx3_13.out.trans (hc14.mono hbx3_13.out.size)
  have hbl3_14 : Hid (Below w4.heap.size w4 w14) := hbl3_13.out.trans (hc14.mono hbl3_13.out.size)
  have hbx5_14 : Hid (Below w5.heap.size w5 w14) := hbx5_13.out.trans (hc14.mono hbx5_13.out.size)
  have hbl4_14 : Hid (Below w6.heap.size w6 w14) := hbl4_13.out.trans (hc14.mono hbl4_13.out.size)
  have hbl5_14 : Hid (Below w13.heap.size w13 w14) := hbl5_13.out.trans (hc14.mono hbl5_13.out.size)
  replace hc14 := Lib.hid hc14
  have hbl6_14 : Hid (Below w14.heap.size w14 w14) := Below.refl _ _
  go_wp2_with fail
  refine (close_any A14 [⟨1, 2, ⟨#[83]⟩, 10, 20, 3, 2⟩, ⟨2, 0, ⟨#[83]⟩, 0, 0, 1, 0⟩] 2 c14 1 true _ (h14.out.more hbl6_14.out) p14 m14 (by omega) (by intro o ho; simp at ho; rcases ho with rfl | rfl <;> decide)).mono ?_; rintro e w15 ⟨v15, rfl, o15⟩
  rw [ex10] at o15
  try rw [ex10]
  obtain ⟨A15, n15, c15, rfl, h15, p15, m15, hc15⟩ := o15
  obtain rfl : n15 = 2 := h15.len.symm
  have m15' : c15 ≤ 2 ^ 63 - 1 := m15
  replace h15 := Lib.hid h15
  have hb15 : Hid (Below w.heap.size w w15) := hb14.out.trans (hc15.mono hb14.out.size)
  have hbl1_15 : Hid (Below w1.heap.size w1 w15) := hbl1_14.out.trans (hc15.mono hbl1_14.out.size)
  have hbl2_15 : Hid (Below w2.heap.size w2 w15) := hbl2_14.out.trans (hc15.mono hbl2_14.out.size)
  have hbx3_15 : Hid (Below w3.heap.size w3 w15) := hbx3_14.out.trans (hc15.mono hbx3_14.out.size)
  have hbl3_15 : Hid (Below w4.heap.size w4 w15) := hbl3_14.out.trans (hc15.mono hbl3_14.out.size)
  have hbx5_15 : Hid (Below w5.heap.size w5 w15) := hbx5_14.out.trans (hc15.mono hbx5_14.out.size)
  have hbl4_15 : Hid (Below w6.heap.size w6 w15) := hbl4_14.out.trans (hc15.mono hbl4_14.out.size)
  have hbl5_15 : Hid (Below w13.heap.size w13 w15) := hbl5_14.out.trans (hc15.mono hbl5_14.out.size)
  have hbl6_15 : Hid (Below w14.heap.size w14 w15) := hbl6_14.out.trans (hc15.mono hbl6_14.out.size)
  replace hc15 := Lib.hid hc15
  have hbl7_15 : Hid (Below w15.heap.size w15 w15) := Below.refl _ _
  obtain ⟨adl5, hAl5, _, y0, y1, y2, y3, y4, y5, y6⟩ := OAt.cell (h13.out.below hbl5_15.out (Nat.le_refl _)) (k := 0) (by omega)
  subst hAl5
  simp [Addr.add] at y5 y6
  clear y0 y1 y2 y3 y4 y6
  have zl5 := y5
  clear y5
  obtain ⟨adl6, hAl6, _, y0, y1, y2, y3, y4, y5, y6⟩ := OAt.cell (h14.out.below hbl6_15.out (Nat.le_refl _)) (k := 0) (by omega)
  subst hAl6
  simp [Addr.add] at y5 y6
  clear y0 y1 y2 y3 y4 y6
  have zl6 := y5
  clear y5
  obtain ⟨adl7, hAl7, _, y0, y1, y2, y3, y4, y5, y6⟩ := OAt.cell (h15.out.below hbl7_15.out (Nat.le_refl _)) (k := 0) (by omega)
  subst hAl7
  simp [Addr.add] at y5 y6
  clear y0 y1 y2 y3 y4 y5
  have zl7 := y6
  clear y6
  go_wp2_with fail
  refine (blocks_any (some adl7) [⟨1, 2, ⟨#[83]⟩, 10, 20, 4, 3⟩, ⟨2, 0, ⟨#[83]⟩, 0, 0, 1, 0⟩] 2 c15 ⟨#[83]⟩ 2 15 _ (h15.out.more hbl7_15.out) (Nat.le_trans p15 m15)).mono ?_; rintro e w16 ⟨rfl, hc16⟩
  rw [eb6]
  have hb16 : Hid (Below w.heap.size w w16) := hb15.out.trans (hc16.mono hb15.out.size)
  have hbl1_16 : Hid (Below w1.heap.size w1 w16) := hbl1_15.out.trans (hc16.mono hbl1_15.out.size)
  have hbl2_16 : Hid (Below w2.heap.size w2 w16) := hbl2_15.out.trans (hc16.mono hbl2_15.out.size)
  have hbx3_16 : Hid (Below w3.heap.size w3 w16) := hbx3_15.out.trans (hc16.mono hbx3_15.out.size)
  have hbl3_16 : Hid (Below w4.heap.size w4 w16) := hbl3_15.out.trans (hc16.mono hbl3_15.out.size)
  have hbx5_16 : Hid (Below w5.heap.size w5 w16) := hbx5_15.out.trans (hc16.mono hbx5_15.out.size)
  have hbl4_16 : Hid (Below w6.heap.size w6 w16) := hbl4_15.out.trans (hc16.mono hbl4_15.out.size)
  have hbl5_16 : Hid (Below w13.heap.size w13 w16) := hbl5_15.out.trans (hc16.mono hbl5_15.out.size)
  have hbl6_16 : Hid (Below w14.heap.size w14 w16) := hbl6_15.out.trans (hc16.mono hbl6_15.out.size)
  have hbl7_16 : Hid (Below w15.heap.size w15 w16) := hbl7_15.out.trans (hc16.mono hbl7_15.out.size)
  replace hc16 := Lib.hid hc16
  go_wp2_with fail
  go_ret
  exact ⟨rfl, hb16.out⟩
end Go.Proofs.Ytpejfnfhbpckiaa
