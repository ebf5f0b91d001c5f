/- The calendar, walked. -/
import Derived.Test.YtbngclibfnnejaaDoorIA
import Derived.Test.YtbngclibfnnejaaDoorId
set_option linter.unusedVariables false
set_option linter.unusedSimpArgs false
namespace Go.Proofs.YtbngclibfnnejaaDoor
open Go.RowKit
def lenM : List Int := [31, 28, 31, 30, 31, 30, 31, 31, 30, 31, 30, 31]
/-- the lengths of the months lie where the program lays them -/
def GlobOk (w : World) : Prop := ∀ j v, lenM[j]? = some v → w.cell? ⟨2, j, none⟩ = some (.int .i64 v)
theorem GlobOk.more {w w' : World} (h : GlobOk w) (hb : Below w.heap.size w w') : GlobOk w' := fun j v hj => (hb.cell (p := ⟨2, j, none⟩) (lt_of_cell (h j v hj))).trans (h j v hj)
def yS (k : Int) : Int := 365 * k + (k + 3) / 4 - (k + 99) / 100 + (k + 399) / 400
def leapB (y : Int) : Bool := decide (y % 4 = 0) && (decide (y % 100 ≠ 0) || decide (y % 400 = 0))
def mLen (y m : Int) : Int := if m = 2 ∧ leapB y = true then 29 else (lenM[(m - 1).toNat]?).getD 0
set_option maxRecDepth 100000 in
set_option maxHeartbeats 4000000 in
theorem divide_any (a b : Int) (w : World) (h0 : 0 ≤ a) (h1 : a ≤ 1000000000000) (h2 : 1 ≤ b) (h3 : b ≤ 1000000) : Calls Tryd.prog 75 #[.int .i64 a, .int .i64 b] w fun e w' => e = .returned (.tuple #[.int .i64 (a / b), .int .i64 (a % b)]) ∧ Below w.heap.size w w' := by
  have e1 : a.tdiv b = a / b := Int.tdiv_eq_ediv_of_nonneg h0
  have e2 : a.tmod b = a % b := Int.tmod_eq_emod_of_nonneg h0
  have q1 : 0 ≤ a / b := Int.ediv_nonneg h0 (by omega)
  have q2 : a / b ≤ a := Int.ediv_le_self _ h0
  have r1 : 0 ≤ a % b := Int.emod_nonneg _ (by omega)
  have r2 : a % b < b := Int.emod_lt_of_pos _ (by omega)
  have hbz : (b == 0) = false := by simp; omega
  obtain ⟨Q, hQ⟩ : ∃ Q, Q = a / b := ⟨_, rfl⟩
  obtain ⟨R, hR⟩ : ∃ R, R = a % b := ⟨_, rfl⟩
  rw [← hQ] at e1 q1 q2 ⊢
  rw [← hR] at e2 r1 r2 ⊢
  clear hQ hR
  have hne : b ≠ 0 := by omega
  have dr : decide (R < 0) = false := by apply decide_eq_false; omega
  go_enter Tryd.func75, Tryd.ntmps75
  go_wp2_with fail
  go_quiet (fail)
  go_wp2_with fail
  exact bodyPost_ret (v := .tuple #[.int .i64 Q, .int .i64 R]) (by simp [results, Tryd.results75, go_sem]) rfl ⟨rfl, below_drewN (Below.refl _ _) _⟩
set_option maxRecDepth 100000 in
set_option maxHeartbeats 4000000 in
theorem multiples_any (k n : Int) (w : World) (h0 : 0 ≤ k) (h1 : k ≤ 1000000) (h2 : 1 ≤ n) (h3 : n ≤ 1000) : Calls Tryd.prog 81 #[.int .i64 k, .int .i64 n] w fun e w' => e = .returned (.int .i64 ((k + n - 1) / n)) ∧ Below w.heap.size w w' := by
  have hc := Lib.hid (divide_any (k + n - 1) n w (by omega) (by omega) h2 (by omega))
  obtain ⟨Q, hQ⟩ : ∃ Q, Q = (k + n - 1) / n := ⟨_, rfl⟩
  obtain ⟨R, hR⟩ : ∃ R, R = (k + n - 1) % n := ⟨_, rfl⟩
  rw [← hQ, ← hR] at hc
  rw [← hQ]
  clear hQ hR
  go_enter Tryd.func81, Tryd.ntmps81
  go_wp2_with fail
  refine hc.out.mono ?_; rintro e w1 ⟨rfl, hq⟩
  replace hq := Lib.hid hq
  clear hc
  go_wp2_with fail
  go_ret
  exact ⟨rfl, hq.out⟩
set_option maxRecDepth 100000 in
set_option maxHeartbeats 4000000 in
theorem yearStart_any (k : Int) (w : World) (h0 : 0 ≤ k) (h1 : k ≤ 100000) : Calls Tryd.prog 77 #[.int .i64 (2000 + k)] w fun e w' => e = .returned (.int .i64 (yS k)) ∧ Below w.heap.size w w' := by
  have hc4 := Lib.hid (fun w => multiples_any k 4 w h0 (by omega) (by omega) (by omega))
  have hc1 := Lib.hid (fun w => multiples_any k 100 w h0 (by omega) (by omega) (by omega))
  have hc40 := Lib.hid (fun w => multiples_any k 400 w h0 (by omega) (by omega) (by omega))
  have hy : Hid (yS k = 365 * k + (k + 4 - 1) / 4 - (k + 100 - 1) / 100 + (k + 400 - 1) / 400) := by show _ = _; unfold yS; omega
  have ha : 0 ≤ (k + 4 - 1) / 4 ∧ (k + 4 - 1) / 4 ≤ 100000 := by omega
  have hb : 0 ≤ (k + 100 - 1) / 100 ∧ (k + 100 - 1) / 100 ≤ 100000 := by omega
  have hd : 0 ≤ (k + 400 - 1) / 400 ∧ (k + 400 - 1) / 400 ≤ 100000 := by omega
  generalize (k + 4 - 1) / 4 = q4 at *
  generalize (k + 100 - 1) / 100 = q1 at *
  generalize (k + 400 - 1) / 400 = q40 at *
  obtain ⟨ha1, ha2⟩ := ha
  obtain ⟨hb1, hb2⟩ := hb
  obtain ⟨hd1, hd2⟩ := hd
  have hk9 : (2000 + k) - 2000 = k := by omega
  go_enter Tryd.func77, Tryd.ntmps77
  go_wp2_with fail
  refine (hc4.out _).mono ?_; rintro e w1 ⟨rfl, hq⟩
  have hq1 := Lib.hid hq
  clear hq
  go_wp2_with fail
  refine (hc1.out _).mono ?_; rintro e w2 ⟨rfl, hq⟩
  have hq2 := Lib.hid (hq1.out.trans (hq.mono hq1.out.size))
  clear hq
  go_wp2_with fail
  refine (hc40.out _).mono ?_; rintro e w3 ⟨rfl, hq⟩
  have hq3 := Lib.hid (hq2.out.trans (hq.mono hq2.out.size))
  clear hq
  go_wp2_with fail
  go_ret
  exact ⟨by rw [hy.out]; rfl, hq3.out⟩
set_option maxRecDepth 100000 in
set_option maxHeartbeats 4000000 in
theorem weekday_any (d : Int) (w : World) (h0 : 0 ≤ d) (h1 : d ≤ 1000000) : Calls Tryd.prog 79 #[.int .i64 d] w fun e w' => e = .returned (.int .i64 ((d + 5) % 7 + 1)) ∧ Below w.heap.size w w' := by
  have hc := Lib.hid (divide_any (d + 5) 7 w (by omega) (by omega) (by omega) (by omega))
  have hr : 0 ≤ (d + 5) % 7 ∧ (d + 5) % 7 ≤ 6 := by omega
  obtain ⟨Q, hQ⟩ : ∃ Q, Q = (d + 5) / 7 := ⟨_, rfl⟩
  obtain ⟨R, hR⟩ : ∃ R, R = (d + 5) % 7 := ⟨_, rfl⟩
  rw [← hQ, ← hR] at hc
  rw [← hR] at hr ⊢
  obtain ⟨hr1, hr2⟩ := hr
  clear hQ hR
  go_enter Tryd.func79, Tryd.ntmps79
  go_wp2_with fail
  refine hc.out.mono ?_; rintro e w1 ⟨rfl, hq⟩
  replace hq := Lib.hid hq
  clear hc
  go_wp2_with fail
  go_ret
  exact ⟨rfl, hq.out⟩
set_option maxRecDepth 100000 in
set_option maxHeartbeats 4000000 in
theorem leap_any (y : Int) (w : World) (h0 : 0 ≤ y) (h1 : y ≤ 1000000) : Calls Tryd.prog 82 #[.int .i64 y] w fun e w' => e = .returned (.bool (leapB y)) ∧ Below w.heap.size w w' := by
  have e4 : y.tmod 4 = y % 4 := Int.tmod_eq_emod_of_nonneg h0
  have e1 : y.tmod 100 = y % 100 := Int.tmod_eq_emod_of_nonneg h0
  have e40 : y.tmod 400 = y % 400 := Int.tmod_eq_emod_of_nonneg h0
  by_cases q4 : y % 4 = 0
  · by_cases q1 : y % 100 = 0
    · by_cases q40 : y % 400 = 0
      · have hF : Hid (leapB y = true) := by show _ = _; unfold leapB; simp [q4, q1, q40]
        rw [q4] at e4
        rw [q1] at e1
        rw [q40] at e40
        clear q4 q1 q40
        go_enter Tryd.func82, Tryd.ntmps82
        go_wp2_with fail
        go_ret
        exact ⟨by rw [hF.out]; rfl, Below.refl _ _⟩
      · have hF : Hid (leapB y = false) := by show _ = _; unfold leapB; simp [q4, q1, q40]
        have d40 : (y % 400 == 0) = false := by simpa using q40
        rw [q4] at e4
        rw [q1] at e1
        generalize y % 400 = r40 at *
        clear q4 q1
        replace q40 := Lib.hid q40
        go_enter Tryd.func82, Tryd.ntmps82
        go_wp2_with fail
        go_ret
        exact ⟨by rw [hF.out]; rfl, Below.refl _ _⟩
    · have hF : Hid (leapB y = true) := by show _ = _; unfold leapB; simp [q4, q1]
      have d1 : (y % 100 != 0) = true := by simpa using q1
      rw [q4] at e4
      generalize y % 100 = r1 at *
      clear q4
      replace q1 := Lib.hid q1
      go_enter Tryd.func82, Tryd.ntmps82
      go_wp2_with fail
      go_ret
      exact ⟨by rw [hF.out]; rfl, Below.refl _ _⟩
  · have hF : Hid (leapB y = false) := by show _ = _; unfold leapB; simp [q4]
    have d4 : (y % 4 == 0) = false := by simpa using q4
    generalize y % 4 = r4 at *
    replace q4 := Lib.hid q4
    go_enter Tryd.func82, Tryd.ntmps82
    go_wp2_with fail
    go_ret
    exact ⟨by rw [hF.out]; rfl, Below.refl _ _⟩
set_option maxRecDepth 100000 in
set_option maxHeartbeats 4000000 in
theorem monthDays_any (y m : Int) (w : World) (hg : GlobOk w) (h0 : 0 ≤ y) (h1 : y ≤ 1000000) (h2 : 1 ≤ m) (h3 : m ≤ 12) : Calls Tryd.prog 78 #[.int .i64 y, .int .i64 m] w fun e w' => e = .returned (.int .i64 (mLen y m)) ∧ Below w.heap.size w w' := by
  by_cases q2 : m = 2
  · subst q2
    have hc := leap_any y w h0 h1
    have hg1 := Lib.hid hg
    cases hL : leapB y with
    | true =>
      rw [hL] at hc
      replace hc := Lib.hid hc
      have hF : Hid (mLen y 2 = 29) := by show _ = _; unfold mLen; rw [if_pos ⟨rfl, hL⟩]
      clear hg hL
      go_enter Tryd.func78, Tryd.ntmps78
      go_wp2_with fail
      refine hc.out.mono ?_; rintro e w1 ⟨rfl, hq⟩
      have c1 : w1.cell? ⟨2, 1, none⟩ = some (.int .i64 28) := (hg1.out.more hq) 1 28 rfl
      replace hq := Lib.hid hq
      clear hc
      go_wp2_with fail
      go_ret
      exact ⟨by rw [hF.out]; rfl, hq.out⟩
    | false =>
      rw [hL] at hc
      replace hc := Lib.hid hc
      have hF : Hid (mLen y 2 = 28) := by show _ = _; unfold mLen; rw [if_neg (by rw [hL]; simp)]; rfl
      clear hg hL
      go_enter Tryd.func78, Tryd.ntmps78
      go_wp2_with fail
      refine hc.out.mono ?_; rintro e w1 ⟨rfl, hq⟩
      have c1 : w1.cell? ⟨2, 1, none⟩ = some (.int .i64 28) := (hg1.out.more hq) 1 28 rfl
      replace hq := Lib.hid hq
      clear hc
      go_wp2_with fail
      go_ret
      exact ⟨by rw [hF.out]; rfl, hq.out⟩
  · obtain ⟨j, hj⟩ : ∃ j : Nat, m = (j : Int) + 1 := ⟨(m - 1).toNat, by omega⟩
    subst hj
    have hj12 : j < 12 := by omega
    have hj0 : (0 : Int) ≤ j := by omega
    have hj1 : (j : Int) < 12 := by omega
    obtain ⟨v, hv⟩ : ∃ v, lenM[j]? = some v := ⟨_, List.getElem?_eq_getElem (by show j < 12; exact hj12)⟩
    have c1 : w.cell? ⟨2, j, none⟩ = some (.int .i64 v) := hg j v hv
    have hF : Hid (mLen y ((j : Int) + 1) = v) := by
      show _ = _
      unfold mLen
      rw [if_neg (fun h => q2 h.1), show ((j : Int) + 1 - 1).toNat = j by omega, hv]
      rfl
    have d2 : ((j : Int) + 1 == 2) = false := by simpa using q2
    replace q2 := Lib.hid q2
    replace hg := Lib.hid hg
    replace hv := Lib.hid hv
    go_enter Tryd.func78, Tryd.ntmps78
    go_wp2_with fail
    go_ret
    exact ⟨by rw [hF.out]; rfl, Below.refl _ _⟩
theorem yS_zero : yS 0 = 0 := by unfold yS; omega
theorem yS_lo (k : Int) (h : 0 ≤ k) : 365 * k ≤ yS k := by unfold yS; omega
theorem yS_hi (k : Int) (h : 0 ≤ k) : yS k ≤ 367 * k := by unfold yS; omega
theorem yS_step (k : Int) (h : 0 ≤ k) : yS (k + 1) - yS k = if leapB (2000 + k) = true then 366 else 365 := by
  have e4 : (2000 + k) % 4 = k % 4 := by omega
  have e1 : (2000 + k) % 100 = k % 100 := by omega
  have e40 : (2000 + k) % 400 = k % 400 := by omega
  unfold leapB yS
  rw [e4, e1, e40]
  by_cases q4 : k % 4 = 0
  · by_cases q1 : k % 100 = 0
    · by_cases q40 : k % 400 = 0
      · simp [q4, q1, q40]; omega
      · simp [q4, q1, q40]; omega
    · simp [q4, q1]; omega
  · simp [q4]; omega
set_option maxRecDepth 100000 in
set_option maxHeartbeats 4000000 in
theorem yearOf_any (d : Int) (w : World) (h0 : 0 ≤ d) (h1 : d ≤ 200000) : Calls Tryd.prog 76 #[.int .i64 d] w fun e w' => (∃ k : Int, e = .returned (.int .i64 (2000 + k)) ∧ 0 ≤ k ∧ k ≤ 100000 ∧ yS k ≤ d ∧ d < yS (k + 1)) ∧ Below w.heap.size w w' := by
  have hq0 : 0 ≤ d * 400 / 146097 ∧ d * 400 / 146097 ≤ 1000 := by omega
  have hc := Lib.hid (divide_any (d * 400) 146097 w (by omega) (by omega) (by omega) (by omega))
  obtain ⟨Q, hQ⟩ : ∃ Q, Q = d * 400 / 146097 := ⟨_, rfl⟩
  obtain ⟨R, hR⟩ : ∃ R, R = d * 400 % 146097 := ⟨_, rfl⟩
  rw [← hQ, ← hR] at hc
  rw [← hQ] at hq0
  obtain ⟨hq1, hq2⟩ := hq0
  clear hQ hR
  have hys := Lib.hid (fun k w h0 h1 => yearStart_any k w h0 h1)
  go_enter Tryd.func76, Tryd.ntmps76
  go_wp2_with fail
  refine hc.out.mono ?_; rintro e w1 ⟨rfl, hq⟩
  replace hq := Lib.hid hq
  clear hc
  go_wp2_with fail
  go_loopw [5] (fun i wr => ∃ k : Int, 0 ≤ k ∧ k ≤ 1000 ∧ i = .int .i64 (2000 + k) ∧ Hid (Below w.heap.size w wr)) (fun i _ => (4000 - intOf i).toNat)
  case atStart => exact ⟨Q, hq1, hq2, rfl, hq.out⟩
  case round =>
    clear hq
    obtain ⟨k, hk0, hk1, rfl, hb⟩ := hrel
    have hlo := yS_lo (k + 1) (by omega)
    have hhi := yS_hi (k + 1) (by omega)
    have hca := Lib.hid (hys.out (k + 1) wr (by omega) (by omega))
    rw [show (2000 : Int) + (k + 1) = 2000 + k + 1 by omega] at hca
    obtain ⟨Y, hY⟩ : ∃ Y, Y = yS (k + 1) := ⟨_, rfl⟩
    rw [← hY] at hca hlo hhi
    by_cases hlt : Y ≤ d
    · have dl : decide (Y ≤ d) = true := by simpa using hlt
      replace hY := Lib.hid hY
      go_wp2_with fail
      refine hca.out.mono ?_; rintro e w2 ⟨rfl, hq⟩
      have hb2 := Lib.hid (hb.out.trans (hq.mono hb.out.size))
      clear hq hca
      go_wp2_with fail
      go_roundw
      case rel => exact ⟨k + 1, by omega, by omega, by congr 1; omega, hb2.out⟩
      case measure => simp [intOf]; omega
    · have dl : decide (Y ≤ d) = false := by simpa using hlt
      go_wp2_with fail
      refine hca.out.mono ?_; rintro e w2 ⟨rfl, hq⟩
      have hb2 := Lib.hid (hb.out.trans (hq.mono hb.out.size))
      have hdY : d < yS (k + 1) := by rw [← hY]; omega
      replace hdY := Lib.hid hdY
      clear hq hca hY hlo hhi hlt
      go_wp2_with fail
      clear dl
      go_loopw [5] (fun i wr => ∃ k : Int, 0 ≤ k ∧ k ≤ 1000 ∧ i = .int .i64 (2000 + k) ∧ Hid (d < yS (k + 1)) ∧ Hid (Below w.heap.size w wr)) (fun i _ => (intOf i).toNat)
      case atStart => exact ⟨k, hk0, hk1, rfl, hdY.out, hb2.out⟩
      case round =>
        clear hdY hb2 hb
        obtain ⟨m, hm0, hm1, rfl, hdm, hb⟩ := hrel
        have hlo := yS_lo m hm0
        have hhi := yS_hi m hm0
        have hz := yS_zero
        have hca := Lib.hid (hys.out m wr hm0 (by omega))
        obtain ⟨Y, hY⟩ : ∃ Y, Y = yS m := ⟨_, rfl⟩
        rw [← hY] at hca hlo hhi
        by_cases hlt : d < Y
        · have dl : decide (d < Y) = true := by simpa using hlt
          have hmp : 1 ≤ m := by
            by_cases h9 : m = 0
            · rw [h9, hz] at hY; omega
            · omega
          have hdY : Hid (d < yS (m - 1 + 1)) := by show _ < _; rw [show m - 1 + 1 = m by omega, ← hY]; exact hlt
          replace hY := Lib.hid hY
          clear hz
          go_wp2_with fail
          refine hca.out.mono ?_; rintro e w2 ⟨rfl, hq⟩
          have hb2 := Lib.hid (hb.out.trans (hq.mono hb.out.size))
          clear hq hca
          go_wp2_with fail
          go_roundw
          case rel => exact ⟨m - 1, by omega, by omega, by congr 1; omega, hdY.out, hb2.out⟩
          case measure => simp [intOf]; omega
        · have dl : decide (d < Y) = false := by simpa using hlt
          have hY2 : Hid (yS m ≤ d) := by show _ ≤ _; rw [← hY]; omega
          replace hY := Lib.hid hY
          clear hz
          go_wp2_with fail
          refine hca.out.mono ?_; rintro e w2 ⟨rfl, hq⟩
          have hb2 := Lib.hid (hb.out.trans (hq.mono hb.out.size))
          clear hq hca
          go_wp2_with fail
          go_ret
          exact ⟨⟨m, rfl, hm0, by omega, hY2.out, hdm.out⟩, hb2.out⟩
theorem cells5 {t : TypeId} (w : World) (g : Nat) (v0 v1 v2 v3 v4 : Value) (h : Blk w g t #[v0, v1, v2, v3, v4]) : w.cell? ⟨g, 0, none⟩ = some v0 ∧ w.cell? ⟨g, 1, none⟩ = some v1 ∧ w.cell? ⟨g, 2, none⟩ = some v2 ∧ w.cell? ⟨g, 3, none⟩ = some v3 ∧ w.cell? ⟨g, 4, none⟩ = some v4 := ⟨h.cell 0, h.cell 1, h.cell 2, h.cell 3, h.cell 4⟩
theorem cells5z {t : TypeId} (w : World) (g : Nat) (v0 v1 v2 v3 v4 : Value) (h : Blk w g t #[v0, v1, v2, v3, v4]) : w.cell? ⟨g, 0, none⟩ = some v0 ∧ w.cell? ⟨g, 1, none⟩ = some v1 ∧ w.cell? ⟨g, 2, none⟩ = some v2 ∧ w.cell? ⟨g, 3, none⟩ = some v3 ∧ w.cell? ⟨g, 4, none⟩ = some v4 ∧ w.frozen? ⟨g, 0, none⟩ = false ∧ w.frozen? ⟨g, 1, none⟩ = false ∧ w.frozen? ⟨g, 2, none⟩ = false ∧ w.frozen? ⟨g, 3, none⟩ = false ∧ w.frozen? ⟨g, 4, none⟩ = false := ⟨h.cell 0, h.cell 1, h.cell 2, h.cell 3, h.cell 4, h.frozen 0, h.frozen 1, h.frozen 2, h.frozen 3, h.frozen 4⟩
theorem cells2 {t : TypeId} (w : World) (g : Nat) (v0 v1 : Value) (h : Blk w g t #[v0, v1]) : w.cell? ⟨g, 0, none⟩ = some v0 ∧ w.cell? ⟨g, 1, none⟩ = some v1 := ⟨h.cell 0, h.cell 1⟩
/-- days of the months from the j-th on -/
def remB (L : Bool) (j : Nat) : Int := (lenM.drop j).sum + if L && decide (j ≤ 1) then 1 else 0
def mLB (L : Bool) (j : Nat) : Int := if L && decide (j = 1) then 29 else (lenM[j]?).getD 0
theorem mLen_eq (y : Int) (j : Nat) : mLen y ((j : Int) + 1) = mLB (leapB y) j := by
  unfold mLen mLB
  rw [show ((j : Int) + 1 - 1).toNat = j by omega]
  cases leapB y with
  | false => simp
  | true =>
    by_cases h : j = 1
    · subst h; simp
    · rw [if_neg (by omega), if_neg (by simp [h])]
theorem rem_step (L : Bool) : ∀ j, j < 11 → remB L j = mLB L j + remB L (j + 1) := by cases L <;> decide
theorem rem_last (L : Bool) : remB L 11 = mLB L 11 := by cases L <;> decide
theorem rem_first (L : Bool) : remB L 0 = if L = true then 366 else 365 := by cases L <;> decide
theorem mLB_in (L : Bool) : ∀ j, j < 12 → 28 ≤ mLB L j ∧ mLB L j ≤ 31 := by cases L <;> decide
set_option maxRecDepth 100000 in
set_option maxHeartbeats 4000000 in
theorem civil_any (t : Int) (w : World) (hg : GlobOk w) (h0 : 0 ≤ t) (h1 : t ≤ 268435456) : Calls Tryd.prog 72 #[.int .i64 t] w fun e w' => (∃ a b c d m : Int, e = .returned (.agg #[Value.int .i64 a, Value.int .i64 b, Value.int .i64 c, Value.int .i64 d, Value.int .i64 m]) ∧ 1 ≤ d ∧ d ≤ 7) ∧ Below w.heap.size w w' := by
  have hd0 : 0 ≤ t / 1440 ∧ t / 1440 ≤ 200000 := by omega
  have hc := fun w => divide_any t 1440 w h0 (by omega) (by omega) (by omega)
  obtain ⟨D, hD⟩ : ∃ D, D = t / 1440 := ⟨_, rfl⟩
  obtain ⟨MI, hMI⟩ : ∃ R, R = t % 1440 := ⟨_, rfl⟩
  rw [← hD, ← hMI] at hc
  rw [← hD] at hd0
  obtain ⟨hd1, hd2⟩ := hd0
  replace hc := Lib.hid hc
  clear hD hMI
  have hyo := Lib.hid (fun w => yearOf_any D w hd1 hd2)
  have hwd := Lib.hid (fun w => weekday_any D w hd1 (by omega))
  have hwi : 1 ≤ (D + 5) % 7 + 1 ∧ (D + 5) % 7 + 1 ≤ 7 := by omega
  obtain ⟨WD, hWD⟩ : ∃ W, W = (D + 5) % 7 + 1 := ⟨_, rfl⟩
  rw [← hWD] at hwd hwi
  clear hWD
  have hR := Lib.hid (Blk.new w 141 #[Value.int .i64 0, Value.int .i64 0, Value.int .i64 0, Value.int .i64 0, Value.int .i64 0])
  have hb := Lib.hid (a1 w (.cells #[Value.int .i64 0, Value.int .i64 0, Value.int .i64 0, Value.int .i64 0, Value.int .i64 0] 141))
  have hG := Lib.hid (hg.more hb.out)
  clear hg
  go_enter Tryd.func72, Tryd.ntmps72
  go_wp2_with fail
  refine (hc.out _).mono ?_; rintro e w1 ⟨rfl, hq⟩
  replace hR := Lib.hid (hR.out.below hq hR.out.lt)
  replace hb := Lib.hid (hb.out.trans (hq.mono hb.out.size))
  replace hG := Lib.hid (hG.out.more hq)
  clear hq hc
  go_wp2_with fail
  refine (hyo.out _).mono ?_; rintro e w2 ⟨⟨k, rfl, hk0, hk1, hk2, hk3⟩, hq⟩
  replace hR := Lib.hid (hR.out.below hq hR.out.lt)
  replace hb := Lib.hid (hb.out.trans (hq.mono hb.out.size))
  replace hG := Lib.hid (hG.out.more hq)
  clear hq hyo
  have hst := yS_step k hk0
  obtain ⟨LB, hLB⟩ : ∃ L, L = leapB (2000 + k) := ⟨_, rfl⟩
  rw [← hLB, ← rem_first] at hst
  have hys := yearStart_any k w2 hk0 hk1
  have hmd := fun (j : Nat) wz (hj : j < 12) (hz : GlobOk wz) => monthDays_any (2000 + k) ((j : Int) + 1) wz hz (by omega) (by omega) (by omega) (by omega)
  simp only [mLen_eq, ← hLB] at hmd
  obtain ⟨Y, hY⟩ : ∃ Y, Y = yS k := ⟨_, rfl⟩
  rw [← hY] at hys hk2 hst
  have hr0 : 0 ≤ D - Y ∧ D - Y < remB LB 0 := by omega
  have hlo := yS_lo k hk0
  rw [← hY] at hlo
  have hY0 : 0 ≤ Y := by omega
  replace hys := Lib.hid hys
  replace hmd := Lib.hid hmd
  replace hr0 := Lib.hid hr0
  clear hst hLB hY hk3 hlo
  go_wp2_with fail
  refine hys.out.mono ?_; rintro e w3 ⟨rfl, hq⟩
  replace hR := Lib.hid (hR.out.below hq hR.out.lt)
  replace hb := Lib.hid (hb.out.trans (hq.mono hb.out.size))
  replace hG := Lib.hid (hG.out.more hq)
  clear hq hys
  go_wp2_with fail
  go_loopw [6, 7] (fun rv mv wr => ∃ (j : Nat) (r : Int), j ≤ 11 ∧ 0 ≤ r ∧ r ≤ 366 ∧ rv = .int .i64 r ∧ mv = .int .i64 ((j : Int) + 1) ∧ Hid (r < remB LB j) ∧ Hid (Blk wr w.heap.size 141 #[Value.int .i64 0, Value.int .i64 0, Value.int .i64 0, Value.int .i64 0, Value.int .i64 0]) ∧ Hid (GlobOk wr) ∧ Hid (Below w.heap.size w wr)) (fun rv mv _ => (20 - intOf mv).toNat)
  case atStart =>
    have h366 : remB LB 0 ≤ 366 := by rw [rem_first]; split <;> omega
    exact ⟨0, D - Y, by omega, hr0.out.1, by have := hr0.out.2; omega, rfl, rfl, hr0.out.2, hR.out, hG.out, hb.out⟩
  case round =>
    clear hR hG hb hr0
    obtain ⟨j, r, hj, hr0, hr1, rfl, rfl, hrem, hR, hG, hb⟩ := hrel
    have hca := hmd.out j wr (by omega) hG.out
    obtain ⟨hm1, hm2⟩ := mLB_in LB j (by omega)
    have hstep := rem_step LB j
    have hlast := rem_last LB
    obtain ⟨ML, hML⟩ : ∃ M, M = mLB LB j := ⟨_, rfl⟩
    rw [← hML] at hca hm1 hm2 hstep
    replace hca := Lib.hid hca
    by_cases hlt : ML ≤ r
    · have dl : decide (ML ≤ r) = true := by simpa using hlt
      have hj11 : j < 11 := by
        rcases Nat.lt_or_ge j 11 with h | h
        · exact h
        · have e : j = 11 := by omega
          have h9 := hrem.out
          rw [e] at h9 hML
          rw [hlast, ← hML] at h9
          omega
      have hrem2 : Hid (r - ML < remB LB (j + 1)) := by show _ < _; have := hrem.out; have h9 := hstep hj11; omega
      have hca2 := Lib.hid (fun wz (hz : GlobOk wz) => by have h9 := hmd.out j wz (by omega) hz; rw [← hML] at h9; exact h9)
      replace hML := Lib.hid hML
      clear hstep hlast
      go_wp2_with fail
      refine hca.out.mono ?_; rintro e w4 ⟨rfl, hq⟩
      replace hR := Lib.hid (hR.out.below hq hR.out.lt)
      replace hb := Lib.hid (hb.out.trans (hq.mono hb.out.size))
      replace hG := Lib.hid (hG.out.more hq)
      clear hq hca
      go_wp2_with fail
      refine (hca2.out _ hG.out).mono ?_; rintro e w5 ⟨rfl, hq⟩
      replace hR := Lib.hid (hR.out.below hq hR.out.lt)
      replace hb := Lib.hid (hb.out.trans (hq.mono hb.out.size))
      replace hG := Lib.hid (hG.out.more hq)
      clear hq hca2
      go_wp2_with fail
      go_roundw
      case rel => exact ⟨j + 1, r - ML, by omega, by omega, by omega, rfl, by congr 1, hrem2.out, hR.out, hG.out, hb.out⟩
      case measure => simp [intOf]; omega
    · have dl : decide (ML ≤ r) = false := by simpa using hlt
      replace hML := Lib.hid hML
      clear hstep hlast
      go_wp2_with fail
      refine hca.out.mono ?_; rintro e w4 ⟨rfl, hq⟩
      replace hR := Lib.hid (hR.out.below hq hR.out.lt)
      replace hb := Lib.hid (hb.out.trans (hq.mono hb.out.size))
      clear hq hca
      go_wp2_with fail
      refine (hwd.out _).mono ?_; rintro e w5 ⟨rfl, hq⟩
      replace hR := Lib.hid (hR.out.below hq hR.out.lt)
      replace hb := Lib.hid (hb.out.trans (hq.mono hb.out.size))
      clear hq hwd
      obtain ⟨c0, c1, c2, c3, c4, z0, z1, z2, z3, z4⟩ := cells5z (w5) (w.heap.size) (Value.int .i64 0) (Value.int .i64 0) (Value.int .i64 0) (Value.int .i64 0) (Value.int .i64 0) (hR.out)
      go_wp2_with fail
      (try simp only [Exit.inBlock, Exit.then])
      have hRf : Blk (((((w5.setCell ⟨w.heap.size, 0, none⟩ (Value.int .i64 (2000 + k))).setCell ⟨w.heap.size, 1, none⟩ (Value.int .i64 ((j : Int) + 1))).setCell ⟨w.heap.size, 2, none⟩ (Value.int .i64 (r + 1))).setCell ⟨w.heap.size, 3, none⟩ (Value.int .i64 WD)).setCell ⟨w.heap.size, 4, none⟩ (Value.int .i64 MI)) w.heap.size 141 #[Value.int .i64 (2000 + k), Value.int .i64 ((j : Int) + 1), Value.int .i64 (r + 1), Value.int .i64 WD, Value.int .i64 MI] := ((((hR.out.set_ 0 _).set_ 1 _).set_ 2 _).set_ 3 _).set_ 4 _
      refine bodyPost_ret (v := .agg #[Value.int .i64 (2000 + k), Value.int .i64 ((j : Int) + 1), Value.int .i64 (r + 1), Value.int .i64 WD, Value.int .i64 MI]) ?_ rfl ?_
      · exact results_cell_row (h := rfl) _ _ w.heap.size 141 _ (0, 0) _ rfl hRf Tryd.underlying141 rfl (by kernel_rfl)
      · exact ⟨⟨_, _, _, _, _, rfl, hwi.1, hwi.2⟩, below_set (below_set (below_set (below_set (below_set hb.out (Nat.le_refl _) 0 _) (Nat.le_refl _) 1 _) (Nat.le_refl _) 2 _) (Nat.le_refl _) 3 _) (Nat.le_refl _) 4 _⟩
end Go.Proofs.YtbngclibfnnejaaDoor
