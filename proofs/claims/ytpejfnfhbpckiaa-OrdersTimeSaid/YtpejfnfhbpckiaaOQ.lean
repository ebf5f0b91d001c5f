/- Orders: the law of Step and the time, walked. -/
import Derived.Test.YtpejfnfhbpckiaaOM
set_option linter.unusedVariables false
set_option linter.unusedSimpArgs false
namespace Go.Proofs.Ytpejfnfhbpckiaa
open Go.RowKit Go.Proofs.Ytpejfnfhbpckiaa.Ord
theorem stepF_idem (l : List O) (now : Int) : stepF (stepF l now) now = stepF l now := by
  unfold stepF
  rw [List.map_map]
  apply List.map_congr_left
  intro o _
  exact step_idem now o
set_option maxRecDepth 100000 in
set_option maxHeartbeats 4000000 in
theorem lawTime (A : Option Addr) (l : List O) (n cap : Nat) (now later : Int) (w : World) (h : OAt w w.heap.size A n l) (hc : n ≤ cap) (hm : cap ≤ maxLen) :
    Calls Try.prog 7 #[.slice A n cap, .int .i64 now, .int .i64 later] w fun e w' => e = .returned (.bool true) ∧ Below w.heap.size w w' := by
  have hm' : cap ≤ 2 ^ 63 - 1 := hm
  have hn := Lib.hid h.len
  replace h := Lib.hid h
  cases hlong : longR 0 l with
  | true =>
    replace hlong := Lib.hid hlong
    go_enter Try.func7, Try.ntmps7
    go_wp2_with fail
    refine (longList_any A l n cap _ h.out (Nat.le_trans hc hm)).mono ?_; rintro e w1 ⟨rfl, hb1⟩
    rw [hlong.out]
    replace hb1 := Lib.hid hb1
    go_wp2_with fail
    refine (example_any _).mono ?_; rintro e wx ⟨rfl, hbx⟩
    go_wp2_with fail
    go_ret
    exact ⟨rfl, hb1.out.trans (hbx.mono hb1.out.size)⟩
  | false =>
    replace hlong := Lib.hid hlong
    by_cases hlt : later < now
    · go_enter Try.func7, Try.ntmps7
      go_wp2_with fail
      refine (longList_any A l n cap _ h.out (Nat.le_trans hc hm)).mono ?_; rintro e w1 ⟨rfl, hb1⟩
      rw [hlong.out]
      replace hb1 := Lib.hid hb1
      go_wp2_with fail
      refine (example_any _).mono ?_; rintro e wx ⟨rfl, hbx⟩
      go_wp2_with fail
      go_ret
      exact ⟨rfl, hb1.out.trans (hbx.mono hb1.out.size)⟩
    · have hle : Hid (now ≤ later) := by show _ ≤ _; omega
      have hd : decide (later < now) = false := by simpa using hlt
      by_cases hv : valid nameB l = 0
      · have vl := Lib.hid (vld_of hv)
        have hn1 : n ≤ 1000 := by have := vl.out.len; have := hn.out; omega
        have hno : Hid (∀ o ∈ l, 0 ≤ o.notes) := fun o ho => by
          obtain ⟨j, hj, rfl⟩ := List.mem_iff_getElem.1 ho
          exact (vl.out.ok j hj).n1
        have va := Lib.hid (vl.out.step_ now)
        have hna : Hid (∀ o ∈ stepF l now, 0 ≤ o.notes) := fun o ho => by
          obtain ⟨j, hj, rfl⟩ := List.mem_iff_getElem.1 ho
          exact (va.out.ok j hj).n1
        replace hv := Lib.hid hv
        clear hlt
        go_enter Try.func7, Try.ntmps7
        go_wp2_with fail
        refine (longList_any A l n cap _ h.out (Nat.le_trans hc hm)).mono ?_; rintro e w1 ⟨rfl, hb1⟩
        rw [hlong.out]
        replace hb1 := Lib.hid hb1
        go_wp2_with fail
        refine (valid_any A l n cap _ (h.out.more hb1.out) hc hm).mono ?_; rintro e w2 ⟨rfl, hb2⟩
        rw [hv.out]
        replace hb2 : Hid (Below w.heap.size w w2) := hb1.out.trans (hb2.mono hb1.out.size)
        go_wp2_with fail
        refine (step_any A l n cap now _ (h.out.more hb2.out) (by omega) hno.out).mono ?_; rintro e w3 ⟨v3, rfl, o3⟩
        obtain ⟨A3, n3, c3, rfl, h3, p3, m3, hb3⟩ := o3
        obtain rfl : n = n3 := by have h9 := h3.len; have h8 := hn.out; simp only [stepF, List.length_map] at h9; omega
        replace h3 := Lib.hid h3
        replace hb3 : Hid (Below w.heap.size w w3) := hb2.out.trans (hb3.mono hb2.out.size)
        go_wp2_with fail
        refine (step_any A3 (stepF l now) n c3 later _ (h3.out) (by omega) hna.out).mono ?_; rintro e w4 ⟨v4, rfl, o4⟩
        obtain ⟨A4, n4, c4, rfl, h4, p4, m4, hb4⟩ := o4
        obtain rfl : n = n4 := by have h9 := h4.len; have h8 := hn.out; simp only [stepF, List.length_map] at h9; omega
        replace h4 := Lib.hid h4
        have h34 : Hid (Below w3.heap.size w3 w4) := hb4
        replace hb4 : Hid (Below w.heap.size w w4) := hb3.out.trans (hb4.mono hb3.out.size)
        go_wp2_with fail
        refine (step_any A l n cap later _ (h.out.more hb4.out) (by omega) hno.out).mono ?_; rintro e w5 ⟨v5, rfl, o5⟩
        obtain ⟨A5, n5, c5, rfl, h5, p5, m5, hb5⟩ := o5
        obtain rfl : n = n5 := by have h9 := h5.len; have h8 := hn.out; simp only [stepF, List.length_map] at h9; omega
        replace h5 := Lib.hid h5
        have h35 : Hid (Below w3.heap.size w3 w5) := h34.out.trans (hb5.mono h34.out.size)
        have h45 : Hid (Below w4.heap.size w4 w5) := hb5
        replace hb5 : Hid (Below w.heap.size w w5) := hb4.out.trans (hb5.mono hb4.out.size)
        go_wp2_with fail
        refine (step_any A3 (stepF l now) n c3 now _ (h3.out.more h35.out) (by omega) hna.out).mono ?_; rintro e w6 ⟨v6, rfl, o6⟩
        obtain ⟨A6, n6, c6, rfl, h6, p6, m6, hb6⟩ := o6
        obtain rfl : n = n6 := by have h9 := h6.len; have h8 := hn.out; simp only [stepF, List.length_map] at h9; omega
        replace h6 := Lib.hid h6
        have h36 : Hid (Below w3.heap.size w3 w6) := h35.out.trans (hb6.mono h35.out.size)
        have h46 : Hid (Below w4.heap.size w4 w6) := h45.out.trans (hb6.mono h45.out.size)
        have h56 : Hid (Below w5.heap.size w5 w6) := hb6
        replace hb6 : Hid (Below w.heap.size w w6) := hb5.out.trans (hb6.mono hb5.out.size)
        go_wp2_with fail
        refine (equal_self A6 A3 (stepF l now) n c6 c3 _ (by have q := h6.out; rw [stepF_idem] at q; exact q) (h3.out.more h36.out) (Nat.le_trans p6 m6)).mono ?_; rintro e w7 ⟨rfl, hb7⟩
        have h47 : Hid (Below w4.heap.size w4 w7) := h46.out.trans (hb7.mono h46.out.size)
        have h57 : Hid (Below w5.heap.size w5 w7) := h56.out.trans (hb7.mono h56.out.size)
        replace hb7 : Hid (Below w.heap.size w w7) := hb6.out.trans (hb7.mono hb6.out.size)
        have m4' : c4 ≤ 2 ^ 63 - 1 := m4
        have m5' : c5 ≤ 2 ^ 63 - 1 := m5
        go_wp2_with fail
        go_loopw [55] (fun i wr => ∃ k m : Nat, k ≤ n ∧ i = .int .i64 k ∧ wr = w7.drewN m) (fun i _ => n - (intOf i).toNat)
        case atStart => exact ⟨0, 0, Nat.zero_le _, rfl, rfl⟩
        case round =>
          obtain ⟨k, m, hk, rfl, rfl⟩ := hrel
          by_cases hlk : k < n
          · have hkl : k < l.length := by rw [hn.out]; exact hlk
            have hk0 : (0 : Int) ≤ k := by omega
            have hk1 : (k : Int) < n := by omega
            obtain ⟨ad4, hA4, _, x0, x1, x2, x3, x4, x5, x6⟩ := OAt.cell (h4.out.below h47.out (Nat.le_refl _)) hlk
            obtain ⟨ad5, hA5, _, y0, y1, y2, y3, y4, y5, y6⟩ := OAt.cell (h5.out.below h57.out (Nat.le_refl _)) hlk
            obtain ⟨ad, hA, _, z0, z1, z2, z3, z4, z5, z6⟩ := OAt.cell (h.out.below hb7.out (Nat.le_refl _)) hlk
            subst hA4
            subst hA5
            subst hA
            have e1 : (stepF (stepF l now) later)[k]'(by simp [stepF]; exact hkl) = stepO later (stepO now l[k]) := by simp [stepF]
            have e2 : (stepF l later)[k]'(by simp [stepF]; exact hkl) = stepO later l[k] := by simp [stepF]
            have s1 := (stepO_same later (stepO now l[k])).1.trans (stepO_same now l[k]).1
            have s3 := (stepO_same later (stepO now l[k])).2.2.2.1.trans (stepO_same now l[k]).2.2.2.1
            have s4 := (stepO_same later (stepO now l[k])).2.2.2.2.trans (stepO_same now l[k]).2.2.2.2
            rw [e1, s1] at x0
            rw [e1, s3] at x3
            rw [e1, s4] at x4
            rw [e1, step_late now later hle.out] at x5
            rw [e2] at y5
            clear e1 e2 s1 s3 s4 x1 x2 x6 y0 y1 y2 y3 y4 y6 z1 z2 z5 z6
            generalize (stepO later l[k]).state = q5 at *
            generalize l[k].id = q0 at *
            generalize l[k].fr = q3 at *
            generalize l[k].tt = q4 at *
            go_wp2_with fail
            go_quiet (fail)
            go_wp2_with fail
            go_roundw
            case rel => exact ⟨k + 1, _, by omega, by go_num, rfl⟩
            case measure => simp [intOf]; omega
          · have hb8 : Hid (Below w.heap.size w (w7.drewN m)) := below_drewN hb7.out _
            go_wp2_with fail
            refine (example_any _).mono ?_; rintro e wx ⟨rfl, hbx⟩
            go_wp2_with fail
            go_ret
            exact ⟨rfl, hb8.out.trans (hbx.mono hb8.out.size)⟩
      · have hvd : (valid nameB l != 0) = true := by simpa using hv
        generalize hvv : valid nameB l = vv at *
        replace hvv := Lib.hid hvv
        replace hv := hvv
        go_enter Try.func7, Try.ntmps7
        go_wp2_with fail
        refine (longList_any A l n cap _ h.out (Nat.le_trans hc hm)).mono ?_; rintro e w1 ⟨rfl, hb1⟩
        rw [hlong.out]
        replace hb1 := Lib.hid hb1
        go_wp2_with fail
        refine (valid_any A l n cap _ (h.out.more hb1.out) hc hm).mono ?_; rintro e w2 ⟨rfl, hb2⟩
        rw [hv.out]
        replace hb2 : Hid (Below w.heap.size w w2) := hb1.out.trans (hb2.mono hb1.out.size)
        go_wp2_with fail
        refine (example_any _).mono ?_; rintro e wx ⟨rfl, hbx⟩
        go_wp2_with fail
        go_ret
        exact ⟨rfl, hb2.out.trans (hbx.mono hb2.out.size)⟩
end Go.Proofs.Ytpejfnfhbpckiaa
