/- Series: the laws Add, Least, Clip, Shift, Energy, Valid, walked. -/
import Derived.Test.YtljagdfgfgpdbaaK
import Derived.Test.YtljagdfgfgpdbaaG2
import Derived.Test.YtljagdfgfgpdbaaI2
set_option linter.unusedVariables false
namespace Go.Proofs.Ytljagdfgfgpdbaa
open Go.RowKit
set_option maxHeartbeats 1000000 in
theorem lawAdd (A1 A2 : Option Addr) (a b : List Ser.Step) (n1 c1 n2 c2 : Nat) (w : World) (ha : SAt w w.heap.size A1 n1 a) (hb : SAt w w.heap.size A2 n2 b) (h1 : n1 ≤ c1) (h2 : n2 ≤ c2) (m1 : c1 ≤ maxLen) (m2 : c2 ≤ maxLen) :
    Calls Try.prog 3 #[.slice A1 n1 c1, .slice A2 n2 c2] w fun e w' => e = .returned (.bool true) ∧ Below w.heap.size w w' := by
  replace ha := Lib.hid ha
  replace hb := Lib.hid hb
  by_cases hl1 : 600 < n1
  · go_enter Try.func3, Try.ntmps3
    go_wp2_with fail
    refine (example_any _).mono ?_
    rintro e w' ⟨rfl, hb⟩
    replace hb := Lib.hid hb
    go_wp2_with fail
    go_ret
    exact ⟨rfl, hb.out⟩
  by_cases hl2 : 600 < n2
  · go_enter Try.func3, Try.ntmps3
    go_wp2_with fail
    refine (example_any _).mono ?_
    rintro e w' ⟨rfl, hb⟩
    replace hb := Lib.hid hb
    go_wp2_with fail
    go_ret
    exact ⟨rfl, hb.out⟩
  · go_enter Try.func3, Try.ntmps3
    go_wp2_with fail
    refine (add_any A1 A2 a b n1 c1 n2 c2 _ ha.out hb.out h1 h2 m1 m2).mono ?_
    rintro e w1 ⟨v1, rfl, ho1, hb1⟩
    have hB := Lib.hid hb1
    go_wp2_with fail
    refine (radd_any A1 A2 a b n1 c1 n2 c2 _ (ha.out.more hB.out) (hb.out.more hB.out) h1 h2 m1 m2).mono ?_
    rintro e w2 ⟨v2, rfl, ho2, hb2⟩
    replace ho1 := ho1.kept hb2
    replace hB := Lib.hid (hB.out.trans (hb2.mono hB.out.size))
    obtain ⟨A3, c3, rfl, ms3, ks3, hs3⟩ := own_at ho1 rfl
    obtain ⟨A4, c4, rfl, ms4, ks4, hs4⟩ := own_at ho2 rfl
    clear ho1 ho2 hb1 hb2
    replace hs3 := Lib.hid hs3
    replace hs4 := Lib.hid hs4
    generalize (addF a b).1 = R at *
    generalize (addF a b).2 = E at *
    go_wp2_with fail
    refine (equal_any A3 A4 R R R.length c3 R.length c4 _ hs3.out hs4.out (by omega) (by omega)).mono ?_
    rintro e w3 ⟨rfl, hb3⟩
    rw [show decide (R = R) = true from by simp]
    replace hB := Lib.hid (hB.out.trans (hb3.mono hB.out.size))
    go_wp2_with fail
    refine (example_any _).mono ?_
    rintro e w9 ⟨rfl, hb9⟩
    replace hB := Lib.hid (hB.out.trans (hb9.mono hB.out.size))
    go_wp2_with fail
    go_ret
    exact ⟨rfl, hB.out⟩
set_option maxHeartbeats 1000000 in
theorem lawLeast (A1 A2 : Option Addr) (a b : List Ser.Step) (n1 c1 n2 c2 : Nat) (w : World) (ha : SAt w w.heap.size A1 n1 a) (hb : SAt w w.heap.size A2 n2 b) (h1 : n1 ≤ c1) (h2 : n2 ≤ c2) (m1 : c1 ≤ maxLen) (m2 : c2 ≤ maxLen) :
    Calls Try.prog 4 #[.slice A1 n1 c1, .slice A2 n2 c2] w fun e w' => e = .returned (.bool true) ∧ Below w.heap.size w w' := by
  replace ha := Lib.hid ha
  replace hb := Lib.hid hb
  by_cases hl1 : 600 < n1
  · go_enter Try.func4, Try.ntmps4
    go_wp2_with fail
    refine (example_any _).mono ?_
    rintro e w' ⟨rfl, hb⟩
    replace hb := Lib.hid hb
    go_wp2_with fail
    go_ret
    exact ⟨rfl, hb.out⟩
  by_cases hl2 : 600 < n2
  · go_enter Try.func4, Try.ntmps4
    go_wp2_with fail
    refine (example_any _).mono ?_
    rintro e w' ⟨rfl, hb⟩
    replace hb := Lib.hid hb
    go_wp2_with fail
    go_ret
    exact ⟨rfl, hb.out⟩
  · go_enter Try.func4, Try.ntmps4
    go_wp2_with fail
    refine (least_any A1 A2 a b n1 c1 n2 c2 _ ha.out hb.out h1 h2 m1 m2).mono ?_
    rintro e w1 ⟨v1, rfl, ho1, hb1⟩
    have hB := Lib.hid hb1
    go_wp2_with fail
    refine (rleast_any A1 A2 a b n1 c1 n2 c2 _ (ha.out.more hB.out) (hb.out.more hB.out) h1 h2 m1 m2).mono ?_
    rintro e w2 ⟨v2, rfl, ho2, hb2⟩
    replace ho1 := ho1.kept hb2
    replace hB := Lib.hid (hB.out.trans (hb2.mono hB.out.size))
    obtain ⟨A3, c3, rfl, ms3, ks3, hs3⟩ := own_at ho1 rfl
    obtain ⟨A4, c4, rfl, ms4, ks4, hs4⟩ := own_at ho2 rfl
    clear ho1 ho2 hb1 hb2
    replace hs3 := Lib.hid hs3
    replace hs4 := Lib.hid hs4
    generalize (leastF a b).1 = R at *
    generalize (leastF a b).2 = E at *
    go_wp2_with fail
    refine (equal_any A3 A4 R R R.length c3 R.length c4 _ hs3.out hs4.out (by omega) (by omega)).mono ?_
    rintro e w3 ⟨rfl, hb3⟩
    rw [show decide (R = R) = true from by simp]
    replace hB := Lib.hid (hB.out.trans (hb3.mono hB.out.size))
    go_wp2_with fail
    refine (example_any _).mono ?_
    rintro e w9 ⟨rfl, hb9⟩
    replace hB := Lib.hid (hB.out.trans (hb9.mono hB.out.size))
    go_wp2_with fail
    go_ret
    exact ⟨rfl, hB.out⟩
set_option maxHeartbeats 1000000 in
theorem lawClip (A1 : Option Addr) (a : List Ser.Step) (n1 c1 : Nat) (F T : Int) (w : World) (ha : SAt w w.heap.size A1 n1 a) (h1 : n1 ≤ c1) (m1 : c1 ≤ maxLen) :
    Calls Try.prog 5 #[.slice A1 n1 c1, .agg #[.int .i64 F, .int .i64 T]] w fun e w' => e = .returned (.bool true) ∧ Below w.heap.size w w' := by
  replace ha := Lib.hid ha
  by_cases hl1 : 600 < n1
  · go_enter Try.func5, Try.ntmps5
    go_wp2_with fail
    refine (example_any _).mono ?_
    rintro e w' ⟨rfl, hb⟩
    replace hb := Lib.hid hb
    go_wp2_with fail
    go_ret
    exact ⟨rfl, b1 hb.out⟩
  · go_enter Try.func5, Try.ntmps5
    go_wp2_with fail
    refine (clip_any A1 a n1 c1 F T _ (ha.out.more (a1 _ _)) h1 m1).mono ?_
    rintro e w1 ⟨v1, rfl, ho1, hb1⟩
    have y0 : w1.cell? ⟨w.heap.size, 0, none⟩ = some (.int .i64 F) := by rw [hb1.cell (by simp)]; simp
    have y1 : w1.cell? ⟨w.heap.size, 1, none⟩ = some (.int .i64 T) := by rw [hb1.cell (by simp)]; simp
    have hB := Lib.hid (b1 hb1)
    go_wp2_with fail
    refine (rclip_any A1 a n1 c1 F T _ (ha.out.more hB.out) h1 m1).mono ?_
    rintro e w2 ⟨v2, rfl, ho2, hb2⟩
    replace ho1 := ho1.kept hb2
    replace hB := Lib.hid (hB.out.trans (hb2.mono hB.out.size))
    obtain ⟨A3, c3, rfl, ms3, ks3, hs3⟩ := own_at ho1 rfl
    obtain ⟨A4, c4, rfl, ms4, ks4, hs4⟩ := own_at ho2 rfl
    clear ho1 ho2 hb1 hb2
    replace hs3 := Lib.hid hs3
    replace hs4 := Lib.hid hs4
    generalize (clipF a F T).1 = R at *
    generalize (clipF a F T).2 = E at *
    go_wp2_with fail
    refine (equal_any A3 A4 R R R.length c3 R.length c4 _ hs3.out hs4.out (by omega) (by omega)).mono ?_
    rintro e w3 ⟨rfl, hb3⟩
    rw [show decide (R = R) = true from by simp]
    replace hB := Lib.hid (hB.out.trans (hb3.mono hB.out.size))
    go_wp2_with fail
    refine (example_any _).mono ?_
    rintro e w9 ⟨rfl, hb9⟩
    replace hB := Lib.hid (hB.out.trans (hb9.mono hB.out.size))
    go_wp2_with fail
    go_ret
    exact ⟨rfl, hB.out⟩
set_option maxHeartbeats 1000000 in
theorem lawShift (A1 : Option Addr) (a : List Ser.Step) (n1 c1 : Nat) (d : Int) (hd1 : -9223372036854775808 ≤ d) (hd2 : d ≤ 9223372036854775807) (w : World) (ha : SAt w w.heap.size A1 n1 a) (h1 : n1 ≤ c1) (m1 : c1 ≤ maxLen) :
    Calls Try.prog 6 #[.slice A1 n1 c1, .int .i64 d] w fun e w' => e = .returned (.bool true) ∧ Below w.heap.size w w' := by
  replace ha := Lib.hid ha
  by_cases hl1 : 600 < n1
  · go_enter Try.func6, Try.ntmps6
    go_wp2_with fail
    refine (example_any _).mono ?_
    rintro e w' ⟨rfl, hb⟩
    replace hb := Lib.hid hb
    go_wp2_with fail
    go_ret
    exact ⟨rfl, hb.out⟩
  · go_enter Try.func6, Try.ntmps6
    go_wp2_with fail
    refine (shift_any A1 a n1 c1 d _ ha.out h1 m1 hd1 hd2).mono ?_
    rintro e w1 ⟨v1, rfl, ho1, hb1⟩
    have hB := Lib.hid (hb1)
    go_wp2_with fail
    refine (rshift_any A1 a n1 c1 d _ (ha.out.more hB.out) h1 m1 hd1 hd2).mono ?_
    rintro e w2 ⟨v2, rfl, ho2, hb2⟩
    replace ho1 := ho1.kept hb2
    replace hB := Lib.hid (hB.out.trans (hb2.mono hB.out.size))
    obtain ⟨A3, c3, rfl, ms3, ks3, hs3⟩ := own_at ho1 rfl
    obtain ⟨A4, c4, rfl, ms4, ks4, hs4⟩ := own_at ho2 rfl
    clear ho1 ho2 hb1 hb2
    replace hs3 := Lib.hid hs3
    replace hs4 := Lib.hid hs4
    generalize (shiftF a d).1 = R at *
    generalize (shiftF a d).2 = E at *
    go_wp2_with fail
    refine (equal_any A3 A4 R R R.length c3 R.length c4 _ hs3.out hs4.out (by omega) (by omega)).mono ?_
    rintro e w3 ⟨rfl, hb3⟩
    rw [show decide (R = R) = true from by simp]
    replace hB := Lib.hid (hB.out.trans (hb3.mono hB.out.size))
    go_wp2_with fail
    refine (example_any _).mono ?_
    rintro e w9 ⟨rfl, hb9⟩
    replace hB := Lib.hid (hB.out.trans (hb9.mono hB.out.size))
    go_wp2_with fail
    go_ret
    exact ⟨rfl, hB.out⟩
set_option maxHeartbeats 1000000 in
theorem lawEnergy (A1 : Option Addr) (a : List Ser.Step) (n1 c1 : Nat) (F T : Int) (w : World) (ha : SAt w w.heap.size A1 n1 a) (h1 : n1 ≤ c1) (m1 : c1 ≤ maxLen) :
    Calls Try.prog 7 #[.slice A1 n1 c1, .agg #[.int .i64 F, .int .i64 T]] w fun e w' => e = .returned (.bool true) ∧ Below w.heap.size w w' := by
  replace ha := Lib.hid ha
  by_cases hl1 : 600 < n1
  · go_enter Try.func7, Try.ntmps7
    go_wp2_with fail
    refine (example_any _).mono ?_
    rintro e w' ⟨rfl, hb⟩
    replace hb := Lib.hid hb
    go_wp2_with fail
    go_ret
    exact ⟨rfl, b1 hb.out⟩
  · go_enter Try.func7, Try.ntmps7
    go_wp2_with fail
    refine (energy_any A1 a n1 c1 F T _ (ha.out.more (a1 _ _)) h1 m1).mono ?_
    rintro e w1 ⟨rfl, hb1⟩
    have y0 : w1.cell? ⟨w.heap.size, 0, none⟩ = some (.int .i64 F) := by rw [hb1.cell (by simp)]; simp
    have y1 : w1.cell? ⟨w.heap.size, 1, none⟩ = some (.int .i64 T) := by rw [hb1.cell (by simp)]; simp
    have hB := Lib.hid (b1 hb1)
    clear hb1
    go_wp2_with fail
    refine (renergy_any A1 a n1 c1 F T _ (ha.out.more hB.out) h1 m1).mono ?_
    rintro e w2 ⟨rfl, hb2⟩
    replace hB := Lib.hid (hB.out.trans (hb2.mono hB.out.size))
    generalize (enerF a F T).1 = R at *
    generalize (enerF a F T).2 = E at *
    go_wp2_with fail
    refine (example_any _).mono ?_
    rintro e w9 ⟨rfl, hb9⟩
    replace hB := Lib.hid (hB.out.trans (hb9.mono hB.out.size))
    go_wp2_with fail
    go_ret
    exact ⟨rfl, hB.out⟩
set_option maxHeartbeats 1000000 in
theorem lawValid (A1 : Option Addr) (a : List Ser.Step) (n1 c1 : Nat) (t : Int) (w : World) (ha : SAt w w.heap.size A1 n1 a) (h1 : n1 ≤ c1) (m1 : c1 ≤ maxLen) :
    Calls Try.prog 10 #[.slice A1 n1 c1, .int .i64 t] w fun e w' => e = .returned (.bool true) ∧ Below w.heap.size w w' := by
  have mn : n1 ≤ maxLen := Nat.le_trans h1 m1
  replace ha := Lib.hid ha
  by_cases hl1 : 600 < n1
  · go_enter Try.func10, Try.ntmps10
    go_wp2_with fail
    refine (example_any _).mono ?_
    rintro e w' ⟨rfl, hb⟩
    replace hb := Lib.hid hb
    go_wp2_with fail
    go_ret
    exact ⟨rfl, hb.out⟩
  · have hmono : Ser.valid a = 0 → Mono a ∧ Ser.Asc (-1) a ∧ n1 ≤ 512 := fun h => by
      obtain ⟨p, q⟩ := Ser.valid_asc h
      exact ⟨(asc_mono _ _ p).2, p, by rw [← ha.out.len]; exact q⟩
    replace hmono := Lib.hid hmono
    by_cases hv : Ser.valid a = 0
    · obtain ⟨hm, hp, h5⟩ := hmono.out hv
      replace hm := Lib.hid hm
      replace hp := Lib.hid hp
      replace hv := Lib.hid hv
      go_enter Try.func10, Try.ntmps10
      go_wp2_with fail
      refine (rvalid_any A1 a n1 c1 _ ha.out mn).mono ?_
      rintro e w1 ⟨rfl, hb1⟩
      rw [hv.out]
      have hB := Lib.hid hb1
      go_wp2_with fail
      refine (at_any A1 a n1 c1 t _ (ha.out.more hB.out) (by omega)).mono ?_
      rintro e w2 ⟨x, rfl, hx, hb2⟩
      have hx2 := hx hm.out
      subst hx2
      clear hx
      replace hB := Lib.hid (hB.out.trans (hb2.mono hB.out.size))
      go_wp2_with fail
      refine (normal_any A1 a n1 c1 _ (ha.out.more hB.out) (by omega)).mono ?_
      rintro e w3 ⟨v3, rfl, ho3, hb3⟩
      replace hB := Lib.hid (hB.out.trans (hb3.mono hB.out.size))
      replace ho3 := Lib.hid ho3
      go_wp2_with fail
      refine (valid_any A1 a n1 c1 _ (ha.out.more hB.out) mn).mono ?_
      rintro e w4 ⟨rfl, hb4⟩
      rw [hv.out]
      replace ho3 := Lib.hid (ho3.out.kept hb4)
      replace hB := Lib.hid (hB.out.trans (hb4.mono hB.out.size))
      go_wp2_with fail
      refine (rat_any A1 a n1 c1 t _ (ha.out.more hB.out) (by omega)).mono ?_
      rintro e w5 ⟨rfl, rfl⟩
      generalize Ser.at_ a t = x at *
      go_wp2_with fail
      refine (rnormal_any A1 a n1 c1 _ (ha.out.more hB.out) h5 hp.out).mono ?_
      rintro e w6 ⟨v6, rfl, ho6, hb6⟩
      have ho7 := ho3.out.kept hb6
      replace hB := Lib.hid (hB.out.trans (hb6.mono hB.out.size))
      obtain ⟨A3, c3, rfl, ms3, ks3, hs3⟩ := own_at ho7 rfl
      obtain ⟨A4, c4, rfl, ms4, ks4, hs4⟩ := own_at ho6 rfl
      clear ho3 ho6 ho7 hb1 hb2 hb3 hb4 hb6
      replace hs3 := Lib.hid hs3
      replace hs4 := Lib.hid hs4
      generalize Ser.norm 0 a = R at *
      go_wp2_with fail
      refine (equal_any A3 A4 R R R.length c3 R.length c4 _ hs3.out hs4.out (by omega) (by omega)).mono ?_
      rintro e w7 ⟨rfl, hb7⟩
      rw [show decide (R = R) = true from by simp]
      replace hB := Lib.hid (hB.out.trans (hb7.mono hB.out.size))
      go_wp2_with fail
      refine (example_any _).mono ?_
      rintro e w9 ⟨rfl, hb9⟩
      replace hB := Lib.hid (hB.out.trans (hb9.mono hB.out.size))
      go_wp2_with fail
      go_ret
      exact ⟨rfl, hB.out⟩
    · have hd : (Ser.valid a != 0) = true := by simpa using hv
      have hd2 : (Ser.valid a == 0) = false := by simpa using hv
      replace hv := Lib.hid hv
      go_enter Try.func10, Try.ntmps10
      go_wp2_with fail
      refine (rvalid_any A1 a n1 c1 _ ha.out mn).mono ?_
      rintro e w1 ⟨rfl, hb1⟩
      have hB := Lib.hid hb1
      go_wp2_with fail
      refine (at_any A1 a n1 c1 t _ (ha.out.more hB.out) (by omega)).mono ?_
      rintro e w2 ⟨x, rfl, hx, hb2⟩
      clear hx
      replace hB := Lib.hid (hB.out.trans (hb2.mono hB.out.size))
      go_wp2_with fail
      refine (normal_any A1 a n1 c1 _ (ha.out.more hB.out) (by omega)).mono ?_
      rintro e w3 ⟨v3, rfl, ho3, hb3⟩
      replace hB := Lib.hid (hB.out.trans (hb3.mono hB.out.size))
      clear ho3
      go_wp2_with fail
      refine (valid_any A1 a n1 c1 _ (ha.out.more hB.out) mn).mono ?_
      rintro e w4 ⟨rfl, hb4⟩
      replace hB := Lib.hid (hB.out.trans (hb4.mono hB.out.size))
      clear hb1 hb2 hb3 hb4
      generalize Ser.valid a = ev at *
      go_wp2_with fail
      refine (example_any _).mono ?_
      rintro e w9 ⟨rfl, hb9⟩
      replace hB := Lib.hid (hB.out.trans (hb9.mono hB.out.size))
      go_wp2_with fail
      go_ret
      exact ⟨rfl, hB.out⟩
end Go.Proofs.Ytljagdfgfgpdbaa
