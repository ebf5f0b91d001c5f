/- Exact amounts: size, Mul64, Div64, away, signed, Scale at modest arguments that are not negative. -/
import Derived.Test.YtbngclibfnnejaaDoorIA
import Derived.WalkSmall
set_option linter.unusedVariables false
set_option linter.unusedSimpArgs false
namespace Go.Proofs.YtbngclibfnnejaaDoor
open Go.RowKit
set_option maxRecDepth 100000 in
set_option maxHeartbeats 4000000 in
theorem size_any (a : Int) (w : World) (h0 : 0 ≤ a) (h1 : a ≤ 1000000000000000000) : Calls Tryd.prog 56 #[.int .i64 a] w fun e w' => e = .returned (.tuple #[.int .u64 a, .bool false]) ∧ w' = w := by
  have d : decide (a < 0) = false := by simp; omega
  have e1 : a % 18446744073709551616 = a := Int.emod_eq_of_lt h0 (by omega)
  go_enter Tryd.func56, Tryd.ntmps56
  go_wp2_with fail
  refine bodyPost_ret (v := .tuple #[.int .u64 a, .bool false]) ?_ rfl ⟨rfl, rfl⟩
  simp [results, Tryd.results56, go_sem]
set_option maxRecDepth 100000 in
set_option maxHeartbeats 4000000 in
theorem signed_any (a : Int) (w : World) (h0 : 0 ≤ a) (h1 : a ≤ 1000000000000000000) : Calls Tryd.prog 60 #[.int .u64 a, .bool false] w fun e w' => e = .returned (.tuple #[.int .i64 a, .bool true]) ∧ w' = w := by
  have d : decide (a ≤ 9223372036854775807) = true := by simp; omega
  go_enter Tryd.func60, Tryd.ntmps60
  go_wp2_with fail
  refine bodyPost_ret (v := .tuple #[.int .i64 a, .bool true]) ?_ rfl ⟨rfl, rfl⟩
  simp [results, Tryd.results60, go_sem]
set_option maxRecDepth 100000 in
set_option maxHeartbeats 4000000 in
theorem away_any (q r d : Int) (w : World) (h0 : 0 ≤ r) (h1 : r < d) (h2 : d ≤ 1000000) : Calls Tryd.prog 59 #[.int .u64 q, .int .u64 r, .int .u64 d, .int .i64 1] w fun e w' => e = .returned (.bool (decide (d - r ≤ r))) ∧ w' = w := by
  go_enter Tryd.func59, Tryd.ntmps59
  go_wp2_with fail
  go_ret
  exact ⟨rfl, rfl⟩
set_option maxRecDepth 100000 in
set_option maxHeartbeats 4000000 in
theorem div64_any (lo d : Int) (w : World) (h0 : 0 ≤ lo) (h1 : lo ≤ 1000000000000000000) (h2 : 1 ≤ d) (h3 : d ≤ 1000000) : Calls Tryd.prog 58 #[.int .u64 0, .int .u64 lo, .int .u64 d] w fun e w' => e = .returned (.tuple #[.int .u64 (lo / d), .int .u64 (lo % d)]) ∧ Below w.heap.size w w' := by
  have e1 : lo.tdiv d = lo / d := Int.tdiv_eq_ediv_of_nonneg h0
  have e2 : lo.tmod d = lo % d := Int.tmod_eq_emod_of_nonneg h0
  have q1 : 0 ≤ lo / d := Int.ediv_nonneg h0 (by omega)
  have q2 : lo / d ≤ lo := Int.ediv_le_self _ h0
  have r1 : 0 ≤ lo % d := Int.emod_nonneg _ (by omega)
  have r2 : lo % d < d := Int.emod_lt_of_pos _ (by omega)
  have hbz : (d == 0) = false := by simp; omega
  have hle : decide (d ≤ 0) = false := by simp; omega
  obtain ⟨Q, hQ⟩ : ∃ Q, Q = lo / d := ⟨_, rfl⟩
  obtain ⟨R, hR⟩ : ∃ R, R = lo % d := ⟨_, rfl⟩
  rw [← hQ] at e1 q1 q2 ⊢
  rw [← hR] at e2 r1 r2 ⊢
  clear hQ hR
  have hne : d ≠ 0 := by omega
  have m1 : Q % 18446744073709551616 = Q := Int.emod_eq_of_lt q1 (by omega)
  have m2 : R % 18446744073709551616 = R := Int.emod_eq_of_lt r1 (by omega)
  go_enter Tryd.func58, Tryd.ntmps58
  go_wp2_with fail
  go_quiet (fail)
  go_wp2_with fail
  exact bodyPost_ret (v := .tuple #[.int .u64 Q, .int .u64 R]) (by simp [results, Tryd.results58, go_sem]) rfl ⟨rfl, below_drewN (Below.refl _ _) _⟩
theorem and_low (E : Int) (h0 : 0 ≤ E) (h1 : E ≤ 4294967295) : bits BinOp.and IntKind.u64 E 4294967295 = E := by
  have h := bits_and_u64_nat E.toNat 4294967295 (by omega) (by omega)
  rw [show (4294967295 : Nat) = 2 ^ 32 - 1 from rfl, Nat.and_two_pow_sub_one_eq_mod, Int.toNat_of_nonneg h0] at h
  have h2 : ((E.toNat % 2 ^ 32 : Nat) : Int) = E := by omega
  exact h.trans h2
theorem wrapU64 (E : Int) (h0 : 0 ≤ E) (h1 : E < 18446744073709551616) : IntKind.u64.wrap E = E := Int.emod_eq_of_lt h0 h1
set_option maxRecDepth 100000 in
set_option maxHeartbeats 4000000 in
theorem mul64_any (a b : Int) (w : World) (h0 : 0 ≤ a) (h1 : a ≤ 4294967295) (h2 : 0 ≤ b) (h3 : b ≤ 1000000) : Calls Tryd.prog 57 #[.int .u64 a, .int .u64 b] w fun e w' => e = .returned (.tuple #[.int .u64 0, .int .u64 (a * b)]) ∧ w' = w := by
  have hab0 : 0 ≤ a * b := Int.mul_nonneg h0 h2
  have hab1 : a * b ≤ 4294967295 * 1000000 := Int.mul_le_mul h1 h3 h2 (by omega)
  have hda : a / 4294967296 = 0 := Int.ediv_eq_zero_of_lt h0 (by omega)
  have hdb : b / 4294967296 = 0 := Int.ediv_eq_zero_of_lt h2 (by omega)
  have hma := and_low a h0 h1
  have hmb := and_low b h2 (by omega)
  have hw := wrapU64 (a * b) hab0 (by omega)
  have hs := and_low (a * b / 4294967296) (by omega) (by omega)
  have hs2 := wrapU64 (a * b / 4294967296) (by omega) (by omega)
  have hs3 : a * b / 4294967296 / 4294967296 = 0 := by omega
  replace hda := Lib.hid hda
  replace hdb := Lib.hid hdb
  replace hma := Lib.hid hma
  replace hmb := Lib.hid hmb
  replace hw := Lib.hid hw
  replace hs := Lib.hid hs
  replace hs2 := Lib.hid hs2
  replace hs3 := Lib.hid hs3
  clear hab0 hab1
  go_enter Tryd.func57, Tryd.ntmps57
  go_wp2_with fail
  refine bodyPost_ret (v := .tuple #[.int .u64 0, .int .u64 (a * b)]) ?_ rfl ⟨rfl, rfl⟩
  simp [results, Tryd.results57, go_sem]
  have z : IntKind.u64.wrap 0 = 0 := rfl
  rw [hda.out, hdb.out, hma.out, hmb.out, hw.out]
  simp only [Int.zero_mul, Int.mul_zero, z, Int.zero_add, Int.add_zero, hs2.out, hs.out, hs3.out, and_self]
def scaleR (a b d : Int) : Int := a * b / d + if d - a * b % d ≤ a * b % d then 1 else 0
theorem scaleR_in (a b d : Int) (h0 : 0 ≤ a) (h2 : 0 ≤ b) (h4 : 1 ≤ d) : 0 ≤ scaleR a b d ∧ scaleR a b d ≤ a * b + 1 := by
  have hab0 : 0 ≤ a * b := Int.mul_nonneg h0 h2
  have q1 : 0 ≤ a * b / d := Int.ediv_nonneg hab0 (by omega)
  have q2 : a * b / d ≤ a * b := Int.ediv_le_self _ hab0
  unfold scaleR
  split <;> omega
set_option maxRecDepth 100000 in
set_option maxHeartbeats 4000000 in
theorem scale_any (a b d : Int) (w : World) (h0 : 0 ≤ a) (h1 : a ≤ 4294967295) (h2 : 0 ≤ b) (h3 : b ≤ 1000000) (h4 : 1 ≤ d) (h5 : d ≤ 1000000) : Calls Tryd.prog 50 #[.int .i64 a, .int .i64 b, .int .i64 d, .int .i64 1] w fun e w' => e = .returned (.tuple #[.int .i64 (scaleR a b d), .int .i64 0]) ∧ Below w.heap.size w w' := by
  have hs : Hid (scaleR a b d = a * b / d + if d - a * b % d ≤ a * b % d then 1 else 0) := rfl
  have hab0 : 0 ≤ a * b := Int.mul_nonneg h0 h2
  have hab1 : a * b ≤ 4294967295 * 1000000 := Int.mul_le_mul h1 h3 h2 (by omega)
  have hc1 := Lib.hid (fun w => size_any a w h0 (by omega))
  have hc2 := Lib.hid (fun w => size_any b w h2 (by omega))
  have hc3 := Lib.hid (fun w => mul64_any a b w h0 h1 h2 h3)
  generalize a * b = ab at *
  have q1 : 0 ≤ ab / d := Int.ediv_nonneg hab0 (by omega)
  have q2 : ab / d ≤ ab := Int.ediv_le_self _ hab0
  have r1 : 0 ≤ ab % d := Int.emod_nonneg _ (by omega)
  have r2 : ab % d < d := Int.emod_lt_of_pos _ (by omega)
  have hc4 := Lib.hid (fun w => div64_any ab d w hab0 (by omega) h4 h5)
  have hc5 := Lib.hid (fun q w => away_any q (ab % d) d w r1 r2 h5)
  generalize ab / d = Q at *
  generalize ab % d = R at *
  have m1 : d % 18446744073709551616 = d := Int.emod_eq_of_lt (by omega) (by omega)
  have m2 : (Q + 1) % 18446744073709551616 = Q + 1 := Int.emod_eq_of_lt (by omega) (by omega)
  have hle : decide (d ≤ 0) = false := by simp; omega
  have hz : (Q + 1 == 0) = false := by simp; omega
  by_cases hr : d - R ≤ R
  · have dr : decide (d - R ≤ R) = true := by simpa using hr
    rw [if_pos hr] at hs
    rw [dr] at hc5
    have hc6 := Lib.hid (fun w => signed_any (Q + 1) w (by omega) (by omega))
    clear hr dr r1 r2 h0 h1 h2 h3 hab0 hab1 q1 q2
    go_enter Tryd.func50, Tryd.ntmps50
    go_wp2_with fail
    refine (hc1.out _).mono ?_; rintro e w1 ⟨rfl, rfl⟩
    go_wp2_with fail
    refine (hc2.out _).mono ?_; rintro e w2 ⟨rfl, rfl⟩
    go_wp2_with fail
    refine (hc3.out _).mono ?_; rintro e w3 ⟨rfl, rfl⟩
    go_wp2_with fail
    refine (hc4.out _).mono ?_; rintro e w4 ⟨rfl, hq⟩
    replace hq := Lib.hid hq
    go_wp2_with fail
    refine (hc5.out _ _).mono ?_; rintro e w5 ⟨rfl, rfl⟩
    go_wp2_with fail
    refine (hc6.out _).mono ?_; rintro e w6 ⟨rfl, rfl⟩
    go_wp2_with fail
    refine bodyPost_ret (v := .tuple #[.int .i64 (Q + 1), .int .i64 0]) (by simp [results, Tryd.results50, go_sem]) rfl ⟨by rw [hs.out], hq.out⟩
  · have dr : decide (d - R ≤ R) = false := by simpa using hr
    rw [if_neg hr, Int.add_zero] at hs
    rw [dr] at hc5
    have hc6 := Lib.hid (fun w => signed_any Q w (by omega) (by omega))
    clear hr dr r1 r2 h0 h1 h2 h3 hab0 hab1 q1 q2
    go_enter Tryd.func50, Tryd.ntmps50
    go_wp2_with fail
    refine (hc1.out _).mono ?_; rintro e w1 ⟨rfl, rfl⟩
    go_wp2_with fail
    refine (hc2.out _).mono ?_; rintro e w2 ⟨rfl, rfl⟩
    go_wp2_with fail
    refine (hc3.out _).mono ?_; rintro e w3 ⟨rfl, rfl⟩
    go_wp2_with fail
    refine (hc4.out _).mono ?_; rintro e w4 ⟨rfl, hq⟩
    replace hq := Lib.hid hq
    go_wp2_with fail
    refine (hc5.out _ _).mono ?_; rintro e w5 ⟨rfl, rfl⟩
    go_wp2_with fail
    refine (hc6.out _).mono ?_; rintro e w6 ⟨rfl, rfl⟩
    go_wp2_with fail
    refine bodyPost_ret (v := .tuple #[.int .i64 Q, .int .i64 0]) (by simp [results, Tryd.results50, go_sem]) rfl ⟨by rw [hs.out], hq.out⟩
end Go.Proofs.YtbngclibfnnejaaDoor
