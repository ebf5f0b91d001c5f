/- Orders: the reference's check, walked. -/
import Derived.Test.YtpejfnfhbpckiaaOB
set_option linter.unusedVariables false
set_option linter.unusedSimpArgs false
namespace Go.Proofs.Ytpejfnfhbpckiaa
open Go.RowKit Go.Proofs.Ytpejfnfhbpckiaa.Ord
set_option maxRecDepth 100000 in
set_option maxHeartbeats 4000000 in
theorem rcheck_any (A : Option Addr) (l : List O) (n cap k : Nat) (w : World) (h : OAt w w.heap.size A n l) (hc : n ≤ cap) (hm : cap ≤ maxLen) (hk : k < n) :
    Calls Try.prog 23 #[.slice A n cap, .int .i64 k] w fun e w' => e = .returned (.int .i64 (chkAt nameB l k)) ∧ Below w.heap.size w w' := by
  have hm' : cap ≤ 2 ^ 63 - 1 := hm
  have hn := Lib.hid h.len
  have hkl : k < l.length := by rw [hn.out]; exact hk
  have hk0 : (0 : Int) ≤ k := by omega
  have hk1 : (k : Int) < n := by omega
  obtain ⟨ad, hA, hbl, e0, e1, e2, e3, e4, e5, e6⟩ := OAt.cell h hk
  subst hA
  have hp : Hid (∀ h0 : 0 < k, w.cell? (ad.add ((k - 1) * 7)) = some (.int .i64 (l[k - 1]'(by omega)).id)) := fun h0 => by
    obtain ⟨ad', hA, _, c, _⟩ := OAt.cell h (k := k - 1) (by omega)
    cases hA; exact c
  have hpe : Hid (∀ h0 : 0 < k, ((l[k - 1]?).map (·.id)).getD 0 = (l[k - 1]'(by omega)).id) := fun h0 => by
    rw [List.getElem?_eq_getElem (by omega)]; rfl
  have hCk := chkAt_eq (name := nameB) hkl
  have hxl : Hid (l[k] = l[k]) := rfl
  generalize l[k] = x at *
  obtain ⟨x0, x1, x2, x3, x4, x5, x6⟩ := x
  simp only at e0 e1 e2 e3 e4 e5 e6
  generalize hEk : chkAt nameB l k = ek at *
  unfold chk at hCk
  simp only at hCk
  replace hEk := Lib.hid hEk
  have hB := Lib.hid (Blk.new w 33 #[.int .i64 x0, .int .i64 x1, .string x2, .int .i64 x3, .int .i64 x4, .int .i64 x5, .int .i64 x6])
  have kz : Hid (∀ wz, Below (w.alloc (.cells #[.int .i64 x0, .int .i64 x1, .string x2, .int .i64 x3, .int .i64 x4, .int .i64 x5, .int .i64 x6] 33)).heap.size (w.alloc (.cells #[.int .i64 x0, .int .i64 x1, .string x2, .int .i64 x3, .int .i64 x4, .int .i64 x5, .int .i64 x6] 33)) wz → wz.cell? ⟨w.heap.size, 0, none⟩ = some (.int .i64 x0) ∧ wz.cell? ⟨w.heap.size, 1, none⟩ = some (.int .i64 x1) ∧ wz.cell? ⟨w.heap.size, 2, none⟩ = some (.string x2) ∧ wz.cell? ⟨w.heap.size, 3, none⟩ = some (.int .i64 x3) ∧ wz.cell? ⟨w.heap.size, 4, none⟩ = some (.int .i64 x4) ∧ wz.cell? ⟨w.heap.size, 5, none⟩ = some (.int .i64 x5) ∧ wz.cell? ⟨w.heap.size, 6, none⟩ = some (.int .i64 x6)) := fun wz h => by
    have q0 := hB.out.below h (lt_of_heap hB.out)
    exact ⟨q0.cell 0, q0.cell 1, q0.cell 2, q0.cell 3, q0.cell 4, q0.cell 5, q0.cell 6⟩
  have hbw := Lib.hid (a1 w (.cells #[.int .i64 x0, .int .i64 x1, .string x2, .int .i64 x3, .int .i64 x4, .int .i64 x5, .int .i64 x6] 33))
  have hat := Lib.hid (h.more (a1 w (.cells #[.int .i64 x0, .int .i64 x1, .string x2, .int .i64 x3, .int .i64 x4, .int .i64 x5, .int .i64 x6] 33)))
  replace h := Lib.hid h
  have hb2 : Hid (Below (w.alloc (.cells #[.int .i64 x0, .int .i64 x1, .string x2, .int .i64 x3, .int .i64 x4, .int .i64 x5, .int .i64 x6] 33)).heap.size (w.alloc (.cells #[.int .i64 x0, .int .i64 x1, .string x2, .int .i64 x3, .int .i64 x4, .int .i64 x5, .int .i64 x6] 33)) (w.alloc (.cells #[.int .i64 x0, .int .i64 x1, .string x2, .int .i64 x3, .int .i64 x4, .int .i64 x5, .int .i64 x6] 33))) := Below.refl _ _
  by_cases g1 : 1 ≤ x0 ∧ x0 ≤ 2147483647 ∧ 0 ≤ x1 ∧ x1 ≤ 32
  · rw [if_neg (fun h => h g1)] at hCk
    obtain ⟨g11, g12, g13, g14⟩ := g1
    by_cases g2 : 1 ≤ x5 ∧ x5 ≤ 5 ∧ 0 ≤ x6 ∧ x6 ≤ 2147483647
    · rw [if_neg (fun h => h g2)] at hCk
      obtain ⟨g21, g22, g23, g24⟩ := g2
      cases hnm : nameB x2 with
      | false =>
        rw [if_pos hnm] at hCk
        have hF := Lib.hid hCk
        clear hCk
        replace hnm := Lib.hid hnm
        go_enter Try.func23, Try.ntmps23
        go_wp2_with (first | (go_at_call 36; (first | refine (in_yes _ _ _ _ (by omega) (by omega)).mono ?_ | refine (in_no _ _ _ _ (by omega)).mono ?_); rintro e wq ⟨rfl, hbq⟩; replace hb2 := Lib.hid (hb2.out.trans (hbq.mono hb2.out.size)); clear hbq; obtain ⟨c0, c1, c2, c3, c4, c5, c6⟩ := kz.out _ hb2.out) | (go_at_call 37; refine (rname_any _ _).mono ?_; rintro e wq ⟨rfl, hbq⟩; rw [hnm.out]; replace hb2 := Lib.hid (hb2.out.trans (hbq.mono hb2.out.size)); clear hbq; obtain ⟨c0, c1, c2, c3, c4, c5, c6⟩ := kz.out _ hb2.out))
        go_ret
        exact ⟨ret_int hF.out.symm, hbw.out.trans (hb2.out.mono hbw.out.size)⟩
      | true =>
        rw [if_neg (by rw [hnm]; simp)] at hCk
        replace hnm := Lib.hid hnm
        obtain ⟨b8, hb8⟩ : ∃ b8 : Bool, b8 = decide (0 < k ∧ x0 ≤ ((l[k - 1]?).map (·.id)).getD 0) := ⟨_, rfl⟩
        have hb8' := Lib.hid hb8
        replace hb8 := hb8'
        replace hCk := Lib.hid hCk
        go_enter Try.func23, Try.ntmps23
        go_upto_region 6 with (first | (go_at_call 36; (first | refine (in_yes _ _ _ _ (by omega) (by omega)).mono ?_ | refine (in_no _ _ _ _ (by omega)).mono ?_); rintro e wq ⟨rfl, hbq⟩; replace hb2 := Lib.hid (hb2.out.trans (hbq.mono hb2.out.size)); clear hbq; obtain ⟨c0, c1, c2, c3, c4, c5, c6⟩ := kz.out _ hb2.out) | (go_at_call 37; refine (rname_any _ _).mono ?_; rintro e wq ⟨rfl, hbq⟩; rw [hnm.out]; replace hb2 := Lib.hid (hb2.out.trans (hbq.mono hb2.out.size)); clear hbq; obtain ⟨c0, c1, c2, c3, c4, c5, c6⟩ := kz.out _ hb2.out))
        go_cut [49] (fun s wx => s = .bool b8 ∧ Hid (Below (w.alloc (.cells #[.int .i64 x0, .int .i64 x1, .string x2, .int .i64 x3, .int .i64 x4, .int .i64 x5, .int .i64 x6] 33)).heap.size (w.alloc (.cells #[.int .i64 x0, .int .i64 x1, .string x2, .int .i64 x3, .int .i64 x4, .int .i64 x5, .int .i64 x6] 33)) wx))
        case first =>
          by_cases hk00 : 0 < k
          · have hpc : Hid (wq.cell? (ad.add ((k - 1) * 7)) = some (.int .i64 (l[k - 1]'(by omega)).id)) := ((below_a hb2.out).cell (by rw [add_block]; exact hbl)).trans (hp.out hk00)
            have hpc := hpc.out
            have hpe2 := hpe.out hk00
            have hb9 : Hid (b8 = decide (x0 ≤ (l[k - 1]'(by omega)).id)) := by show _ = _; rw [hb8.out, hpe2]; simp [hk00]
            have hpb := lt_of_cell hpc
            clear hpe2
            generalize (l[k - 1]).id = pid at *
            have hd : decide ((0 : Int) < k) = true := by simp; omega
            have hd0 : (0 : Int) ≤ (k : Int) - 1 := by omega
            have hd1 : (k : Int) - 1 < n := by omega
            go_wp2_with fail
            go_quiet (fail)
            go_wp2_with fail
            go_meet
            exact ⟨by rw [hb9.out], below_drewN hb2.out _⟩
          · have hb9 : Hid (b8 = false) := by show _ = _; rw [hb8.out]; simp [hk00]
            have hd : decide ((0 : Int) < k) = false := by simp; omega
            go_wp2_with fail
            go_quiet (fail)
            go_wp2_with fail
            go_meet
            exact ⟨by rw [hb9.out], below_drewN hb2.out _⟩
        case rest =>
          obtain ⟨rfl, hb2x⟩ := hcut
          clear hb2 hpe hp
          have hb2 := hb2x
          clear hb2x
          obtain ⟨c0, c1, c2, c3, c4, c5, c6⟩ := kz.out _ hb2.out
          replace hCk := hCk.out
          cases hbb : b8 with
          | true =>
            rw [if_pos (of_decide_eq_true (hb8.out.symm.trans hbb))] at hCk
            have hF := Lib.hid hCk
            clear hCk
            subst hbb
            go_wp2_with fail
            go_ret
            exact ⟨ret_int hF.out.symm, hbw.out.trans (hb2.out.mono hbw.out.size)⟩
          | false =>
            rw [if_neg (of_decide_eq_false (hb8.out.symm.trans hbb))] at hCk
            subst hbb
            clear hb8
            cases hsp : okSpan x3 x4 with
            | false =>
              rw [if_pos hsp] at hCk
              have hF := Lib.hid hCk
              clear hCk
              have hsq : x3 < 0 ∨ (0 ≤ x3 ∧ x4 < x3) ∨ (0 ≤ x3 ∧ x3 ≤ x4 ∧ 268435456 < x4) := by simp [okSpan] at hsp; omega
              clear hsp
              rcases hsq with hs1 | ⟨hs1, hs2⟩ | ⟨hs1, hs2, hs3⟩
              all_goals
                go_wp2_with fail
                go_ret
                exact ⟨ret_int hF.out.symm, hbw.out.trans (hb2.out.mono hbw.out.size)⟩
            | true =>
              rw [if_neg (by rw [hsp]; simp)] at hCk
              have hsq : 0 ≤ x3 ∧ x3 ≤ x4 ∧ x4 ≤ 268435456 := by simp [okSpan] at hsp; omega
              obtain ⟨hs1, hs2, hs3⟩ := hsq
              replace hsp := Lib.hid hsp
              obtain ⟨b10, hb10⟩ : ∃ b10 : Bool, b10 = decide ((x5 = 1 ∧ ¬ (x3 = 0 ∧ x4 = 0)) ∨ ((act ⟨x0, x1, x2, x3, x4, x5, x6⟩ = true ∨ x5 = 4) ∧ x3 = x4)) := ⟨_, rfl⟩
              have hCk2 : Hid (ek = if b10 = true then 1 else if act ⟨x0, x1, x2, x3, x4, x5, x6⟩ = true ∧ blk (-1) ⟨x0, x1, x2, x3, x4, x5, x6⟩ 0 (l.take k) = true then 1 else 0) := by
                show _ = _
                rw [hCk, hb10]
                by_cases p1 : x5 = 1 ∧ ¬ (x3 = 0 ∧ x4 = 0)
                · rw [if_pos p1, if_pos (by simp [p1])]
                · rw [if_neg p1]
                  by_cases p2 : (act ⟨x0, x1, x2, x3, x4, x5, x6⟩ = true ∨ x5 = 4) ∧ x3 = x4
                  · rw [if_pos p2, if_pos (decide_eq_true (.inr p2))]
                  · rw [if_neg p2]
                    have hd0 : decide ((x5 = 1 ∧ ¬ (x3 = 0 ∧ x4 = 0)) ∨ ((act ⟨x0, x1, x2, x3, x4, x5, x6⟩ = true ∨ x5 = 4) ∧ x3 = x4)) = false := decide_eq_false (fun h => h.elim p1 p2)
                    rw [hd0]
                    rfl
              replace hb10 := Lib.hid hb10
              clear hCk
              go_upto_region 10 with (go_at_call 36; (first | refine (in_yes _ _ _ _ (by omega) (by omega)).mono ?_ | refine (in_no _ _ _ _ (by omega)).mono ?_); rintro e wq ⟨rfl, hbq⟩; replace hb2 := Lib.hid (hb2.out.trans (hbq.mono hb2.out.size)); clear hbq; obtain ⟨c0, c1, c2, c3, c4, c5, c6⟩ := kz.out _ hb2.out)
              go_cut [91] (fun s wx => s = .bool b10 ∧ Hid (Below (w.alloc (.cells #[.int .i64 x0, .int .i64 x1, .string x2, .int .i64 x3, .int .i64 x4, .int .i64 x5, .int .i64 x6] 33)).heap.size (w.alloc (.cells #[.int .i64 x0, .int .i64 x1, .string x2, .int .i64 x3, .int .i64 x4, .int .i64 x5, .int .i64 x6] 33)) wx))
              case first =>
                rcases (show x5 = 1 ∨ x5 = 2 ∨ x5 = 3 ∨ x5 = 4 ∨ x5 = 5 by omega) with hx5 | hx5 | hx5 | hx5 | hx5
                · subst hx5
                  by_cases hz : x3 = 0 ∧ x4 = 0
                  · obtain ⟨rfl, rfl⟩ := hz
                    have hv : Hid (b10 = false) := by show _ = _; rw [hb10.out]; simp [act]
                    go_wp2_with (go_at_call 36; (first | refine (in_yes _ _ _ _ (by omega) (by omega)).mono ?_ | refine (in_no _ _ _ _ (by omega)).mono ?_); rintro e wq ⟨rfl, hbq⟩; replace hb2 := Lib.hid (hb2.out.trans (hbq.mono hb2.out.size)); clear hbq; obtain ⟨c0, c1, c2, c3, c4, c5, c6⟩ := kz.out _ hb2.out)
                    go_meet
                    exact ⟨by rw [hv.out], hb2⟩
                  · have hv : Hid (b10 = true) := by show _ = _; rw [hb10.out]; simp only [decide_eq_true_eq]; exact .inl ⟨trivial, hz⟩
                    rcases (show x3 ≠ 0 ∨ (x3 = 0 ∧ x4 ≠ 0) by omega) with hq | ⟨rfl, hq⟩
                    all_goals
                      clear hz
                      first | (have hqb : (x3 != 0) = true := by simpa using hq) | (have hqb : (x4 != 0) = true := by simpa using hq)
                      first | (have hqc : (x3 == 0) = false := by simpa using hq) | (have hqc : (x4 == 0) = false := by simpa using hq)
                      replace hq := Lib.hid hq
                      go_wp2_with (go_at_call 36; (first | refine (in_yes _ _ _ _ (by omega) (by omega)).mono ?_ | refine (in_no _ _ _ _ (by omega)).mono ?_); rintro e wq ⟨rfl, hbq⟩; replace hb2 := Lib.hid (hb2.out.trans (hbq.mono hb2.out.size)); clear hbq; obtain ⟨c0, c1, c2, c3, c4, c5, c6⟩ := kz.out _ hb2.out)
                      go_meet
                      exact ⟨by rw [hv.out], hb2⟩
                · subst hx5
                  by_cases hz : x3 = x4
                  · subst hz
                    have hv : Hid (b10 = true) := by show _ = _; rw [hb10.out]; simp [act]
                    go_wp2_with (go_at_call 36; (first | refine (in_yes _ _ _ _ (by omega) (by omega)).mono ?_ | refine (in_no _ _ _ _ (by omega)).mono ?_); rintro e wq ⟨rfl, hbq⟩; replace hb2 := Lib.hid (hb2.out.trans (hbq.mono hb2.out.size)); clear hbq; obtain ⟨c0, c1, c2, c3, c4, c5, c6⟩ := kz.out _ hb2.out)
                    go_meet
                    exact ⟨by rw [hv.out], hb2⟩
                  · have hv : Hid (b10 = false) := by show _ = _; rw [hb10.out]; simp [hz]
                    have hzb : (x3 == x4) = false := by simpa using hz
                    replace hz := Lib.hid hz
                    go_wp2_with (go_at_call 36; (first | refine (in_yes _ _ _ _ (by omega) (by omega)).mono ?_ | refine (in_no _ _ _ _ (by omega)).mono ?_); rintro e wq ⟨rfl, hbq⟩; replace hb2 := Lib.hid (hb2.out.trans (hbq.mono hb2.out.size)); clear hbq; obtain ⟨c0, c1, c2, c3, c4, c5, c6⟩ := kz.out _ hb2.out)
                    go_meet
                    exact ⟨by rw [hv.out], hb2⟩
                · subst hx5
                  by_cases hz : x3 = x4
                  · subst hz
                    have hv : Hid (b10 = true) := by show _ = _; rw [hb10.out]; simp [act]
                    go_wp2_with (go_at_call 36; (first | refine (in_yes _ _ _ _ (by omega) (by omega)).mono ?_ | refine (in_no _ _ _ _ (by omega)).mono ?_); rintro e wq ⟨rfl, hbq⟩; replace hb2 := Lib.hid (hb2.out.trans (hbq.mono hb2.out.size)); clear hbq; obtain ⟨c0, c1, c2, c3, c4, c5, c6⟩ := kz.out _ hb2.out)
                    go_meet
                    exact ⟨by rw [hv.out], hb2⟩
                  · have hv : Hid (b10 = false) := by show _ = _; rw [hb10.out]; simp [hz]
                    have hzb : (x3 == x4) = false := by simpa using hz
                    replace hz := Lib.hid hz
                    go_wp2_with (go_at_call 36; (first | refine (in_yes _ _ _ _ (by omega) (by omega)).mono ?_ | refine (in_no _ _ _ _ (by omega)).mono ?_); rintro e wq ⟨rfl, hbq⟩; replace hb2 := Lib.hid (hb2.out.trans (hbq.mono hb2.out.size)); clear hbq; obtain ⟨c0, c1, c2, c3, c4, c5, c6⟩ := kz.out _ hb2.out)
                    go_meet
                    exact ⟨by rw [hv.out], hb2⟩
                · subst hx5
                  by_cases hz : x3 = x4
                  · subst hz
                    have hv : Hid (b10 = true) := by show _ = _; rw [hb10.out]; simp [act]
                    go_wp2_with (go_at_call 36; (first | refine (in_yes _ _ _ _ (by omega) (by omega)).mono ?_ | refine (in_no _ _ _ _ (by omega)).mono ?_); rintro e wq ⟨rfl, hbq⟩; replace hb2 := Lib.hid (hb2.out.trans (hbq.mono hb2.out.size)); clear hbq; obtain ⟨c0, c1, c2, c3, c4, c5, c6⟩ := kz.out _ hb2.out)
                    go_meet
                    exact ⟨by rw [hv.out], hb2⟩
                  · have hv : Hid (b10 = false) := by show _ = _; rw [hb10.out]; simp [hz]
                    have hzb : (x3 == x4) = false := by simpa using hz
                    replace hz := Lib.hid hz
                    go_wp2_with (go_at_call 36; (first | refine (in_yes _ _ _ _ (by omega) (by omega)).mono ?_ | refine (in_no _ _ _ _ (by omega)).mono ?_); rintro e wq ⟨rfl, hbq⟩; replace hb2 := Lib.hid (hb2.out.trans (hbq.mono hb2.out.size)); clear hbq; obtain ⟨c0, c1, c2, c3, c4, c5, c6⟩ := kz.out _ hb2.out)
                    go_meet
                    exact ⟨by rw [hv.out], hb2⟩
                · subst hx5
                  have hv : Hid (b10 = false) := by show _ = _; rw [hb10.out]; simp [act]
                  go_wp2_with (go_at_call 36; (first | refine (in_yes _ _ _ _ (by omega) (by omega)).mono ?_ | refine (in_no _ _ _ _ (by omega)).mono ?_); rintro e wq ⟨rfl, hbq⟩; replace hb2 := Lib.hid (hb2.out.trans (hbq.mono hb2.out.size)); clear hbq; obtain ⟨c0, c1, c2, c3, c4, c5, c6⟩ := kz.out _ hb2.out)
                  go_meet
                  exact ⟨by rw [hv.out], hb2⟩
              case rest =>
                obtain ⟨rfl, hb2x⟩ := hcut
                clear hb2 hb10
                have hb2 := hb2x
                clear hb2x
                obtain ⟨c0, c1, c2, c3, c4, c5, c6⟩ := kz.out _ hb2.out
                cases hbb : b10 with
                | true =>
                  have hF : Hid (ek = 1) := by show _ = _; rw [hCk2.out, hbb]; rfl
                  subst hbb
                  go_wp2_with fail
                  go_ret
                  exact ⟨ret_int hF.out.symm, hbw.out.trans (hb2.out.mono hbw.out.size)⟩
                | false =>
                  have hxV : Hid (oV ⟨x0, x1, x2, x3, x4, x5, x6⟩ = .agg #[.int .i64 x0, .int .i64 x1, .string x2, .int .i64 x3, .int .i64 x4, .int .i64 x5, .int .i64 x6]) := rfl
                  cases hac : act ⟨x0, x1, x2, x3, x4, x5, x6⟩ with
                  | true =>
                    have hF : Hid (ek = if blk (-1) ⟨x0, x1, x2, x3, x4, x5, x6⟩ 0 (l.take k) = true then 1 else 0) := by show _ = _; rw [hCk2.out, hbb, hac]; simp
                    replace hac := Lib.hid hac
                    subst hbb
                    go_wp2_with (first | (rw [← hxV.out]; go_at_call 32; refine (ractive_any _ _).mono ?_; rintro e wq ⟨rfl, hbq⟩; rw [hac.out]; replace hb2 := Lib.hid (hb2.out.trans (hbq.mono hb2.out.size)); clear hbq; obtain ⟨c0, c1, c2, c3, c4, c5, c6⟩ := kz.out _ hb2.out) | (go_at_call 36; (first | refine (in_yes _ _ _ _ (by omega) (by omega)).mono ?_ | refine (in_no _ _ _ _ (by omega)).mono ?_); rintro e wq ⟨rfl, hbq⟩; replace hb2 := Lib.hid (hb2.out.trans (hbq.mono hb2.out.size)); clear hbq; obtain ⟨c0, c1, c2, c3, c4, c5, c6⟩ := kz.out _ hb2.out))
                    go_loopw [6] (fun i wr => ∃ j : Nat, j ≤ k ∧ i = .int .i64 j ∧ Hid (Below (w.alloc (.cells #[.int .i64 x0, .int .i64 x1, .string x2, .int .i64 x3, .int .i64 x4, .int .i64 x5, .int .i64 x6] 33)).heap.size (w.alloc (.cells #[.int .i64 x0, .int .i64 x1, .string x2, .int .i64 x3, .int .i64 x4, .int .i64 x5, .int .i64 x6] 33)) wr) ∧ Hid (blk (-1) ⟨x0, x1, x2, x3, x4, x5, x6⟩ 0 (l.take k) = blk (-1) ⟨x0, x1, x2, x3, x4, x5, x6⟩ j ((l.take k).drop j))) (fun i _ => k - (intOf i).toNat)
                    case atStart => exact ⟨0, Nat.zero_le _, rfl, hb2.out, rfl⟩
                    case round =>
                      obtain ⟨j, hj, rfl, hbr, hx⟩ := hrel
                      clear hb2
                      have hb2 := hbr
                      clear hbr
                      obtain ⟨c0, c1, c2, c3, c4, c5, c6⟩ := kz.out _ hb2.out
                      by_cases hjk : j < k
                      · have hjn : (j : Int) < n := by omega
                        have hj0 : (0 : Int) ≤ j := by omega
                        have hjl : j < l.length := by rw [hn.out]; omega
                        have hst : Hid (blk (-1) ⟨x0, x1, x2, x3, x4, x5, x6⟩ j ((l.take k).drop j) = ((decide ((j : Int) ≠ -1) && act (l[j]'hjl) && clash (l[j]'hjl) ⟨x0, x1, x2, x3, x4, x5, x6⟩) || blk (-1) ⟨x0, x1, x2, x3, x4, x5, x6⟩ (j + 1) ((l.take k).drop (j + 1)))) := by
                          have q := blk_step (-1) ⟨x0, x1, x2, x3, x4, x5, x6⟩ (l.take k) j (by simp; omega)
                          rw [List.getElem_take] at q
                          exact q
                        have ky : Hid (∀ wz, Below (w.alloc (.cells #[.int .i64 x0, .int .i64 x1, .string x2, .int .i64 x3, .int .i64 x4, .int .i64 x5, .int .i64 x6] 33)).heap.size (w.alloc (.cells #[.int .i64 x0, .int .i64 x1, .string x2, .int .i64 x3, .int .i64 x4, .int .i64 x5, .int .i64 x6] 33)) wz → wz.cell? (ad.add (j * 7)) = some (.int .i64 (l[j]'hjl).id) ∧ wz.cell? ⟨(ad.add (j * 7)).block, (ad.add (j * 7)).off + 1, none⟩ = some (.int .i64 (l[j]'hjl).conn) ∧ wz.cell? ⟨(ad.add (j * 7)).block, (ad.add (j * 7)).off + 2, none⟩ = some (.string (l[j]'hjl).st) ∧ wz.cell? ⟨(ad.add (j * 7)).block, (ad.add (j * 7)).off + 3, none⟩ = some (.int .i64 (l[j]'hjl).fr) ∧ wz.cell? ⟨(ad.add (j * 7)).block, (ad.add (j * 7)).off + 4, none⟩ = some (.int .i64 (l[j]'hjl).tt) ∧ wz.cell? ⟨(ad.add (j * 7)).block, (ad.add (j * 7)).off + 5, none⟩ = some (.int .i64 (l[j]'hjl).state) ∧ wz.cell? ⟨(ad.add (j * 7)).block, (ad.add (j * 7)).off + 6, none⟩ = some (.int .i64 (l[j]'hjl).notes)) := fun wz h => by
                          obtain ⟨ad', hA, _, p0, p1, p2, p3, p4, p5, p6⟩ := OAt.cell (hat.out.below h (Nat.le_refl _)) (k := j) (by omega)
                          cases hA
                          exact ⟨p0, p1, p2, p3, p4, p5, p6⟩
                        have hgo : Hid ((act (l[j]'hjl) && clash (l[j]'hjl) ⟨x0, x1, x2, x3, x4, x5, x6⟩) = false → blk (-1) ⟨x0, x1, x2, x3, x4, x5, x6⟩ 0 (l.take k) = blk (-1) ⟨x0, x1, x2, x3, x4, x5, x6⟩ (j + 1) ((l.take k).drop (j + 1))) := fun h => by rw [hx.out, hst.out, Bool.and_assoc, h]; simp
                        have hyes : Hid ((act (l[j]'hjl) && clash (l[j]'hjl) ⟨x0, x1, x2, x3, x4, x5, x6⟩) = true → blk (-1) ⟨x0, x1, x2, x3, x4, x5, x6⟩ 0 (l.take k) = true) := fun h => by rw [hx.out, hst.out, Bool.and_assoc, h]; simp
                        have hyl : Hid (l[j]'hjl = l[j]'hjl) := rfl
                        clear hst
                        generalize (l[j]'hjl) = y at *
                        obtain ⟨y0, y1, y2, y3, y4, y5, y6⟩ := y
                        simp only at ky
                        clear hyl
                        have hyV : Hid (oV ⟨y0, y1, y2, y3, y4, y5, y6⟩ = .agg #[.int .i64 y0, .int .i64 y1, .string y2, .int .i64 y3, .int .i64 y4, .int .i64 y5, .int .i64 y6]) := rfl
                        obtain ⟨d0, d1, d2, d3, d4, d5, d6⟩ := ky.out _ hb2.out
                        have hbl' := lt_of_cell d0
                        cases hay : act ⟨y0, y1, y2, y3, y4, y5, y6⟩
                        all_goals cases hcl : clash ⟨x0, x1, x2, x3, x4, x5, x6⟩ ⟨y0, y1, y2, y3, y4, y5, y6⟩
                        all_goals
                          have hcl' := hcl
                          rw [clash_comm] at hcl'
                          have hay' := Lib.hid hay
                          replace hay := hay'
                          have hcl2 := Lib.hid hcl
                          replace hcl := hcl2
                          first
                            | (have hgo2 := Lib.hid (hgo.out (by rw [hay.out, hcl']; rfl)))
                            | (have hyes2 := Lib.hid (hyes.out (by rw [hay.out, hcl']; rfl)))
                          clear hcl' hgo hyes hay' hcl2
                          go_wp2_with fail
                          first
                            | (go_region_with ((first | ((try rw [← hxV.out]); go_at_call 32; (with_reducible refine (ractive_any ⟨x0, x1, x2, x3, x4, x5, x6⟩ _).mono ?_); rintro e wq ⟨rfl, hbq⟩; rw [hac.out]; replace hb2 := Lib.hid (by first | exact hb2.out.trans (hbq.mono hb2.out.size) | exact (below_dr hb2.out).trans (hbq.mono (below_dr hb2.out).size)); clear hbq; obtain ⟨c0, c1, c2, c3, c4, c5, c6⟩ := kz.out _ hb2.out; obtain ⟨d0, d1, d2, d3, d4, d5, d6⟩ := ky.out _ hb2.out) | ((try rw [← hyV.out]); go_at_call 32; (with_reducible refine (ractive_any ⟨y0, y1, y2, y3, y4, y5, y6⟩ _).mono ?_); rintro e wq ⟨rfl, hbq⟩; rw [hay.out]; replace hb2 := Lib.hid (by first | exact hb2.out.trans (hbq.mono hb2.out.size) | exact (below_dr hb2.out).trans (hbq.mono (below_dr hb2.out).size)); clear hbq; obtain ⟨c0, c1, c2, c3, c4, c5, c6⟩ := kz.out _ hb2.out; obtain ⟨d0, d1, d2, d3, d4, d5, d6⟩ := ky.out _ hb2.out) | ((try rw [← hxV.out]); (try rw [← hyV.out]); go_at_call 38; (with_reducible refine (rclash_any ⟨x0, x1, x2, x3, x4, x5, x6⟩ ⟨y0, y1, y2, y3, y4, y5, y6⟩ _).mono ?_); rintro e wq ⟨rfl, hbq⟩; rw [hcl.out]; replace hb2 := Lib.hid (by first | exact hb2.out.trans (hbq.mono hb2.out.size) | exact (below_dr hb2.out).trans (hbq.mono (below_dr hb2.out).size)); clear hbq; obtain ⟨c0, c1, c2, c3, c4, c5, c6⟩ := kz.out _ hb2.out; obtain ⟨d0, d1, d2, d3, d4, d5, d6⟩ := ky.out _ hb2.out))))
                            | fail
                          all_goals
                            go_wp2_with fail
                            first
                              | (go_roundw
                                 case rel => exact ⟨j + 1, by omega, by go_num, by first | exact hb2.out | exact below_dr hb2.out | exact below_drewN hb2.out _, hgo2.out⟩
                                 case measure => simp [intOf]; omega)
                              | (go_ret
                                 exact ⟨ret_int (by rw [hF.out, hyes2.out]; rfl), hbw.out.trans (Below.mono (by first | exact hb2.out | exact below_dr hb2.out | exact below_drewN hb2.out _) hbw.out.size)⟩)
                      · have hnil : Hid (blk (-1) ⟨x0, x1, x2, x3, x4, x5, x6⟩ 0 (l.take k) = false) := by show _ = _; rw [hx.out, List.drop_of_length_le (by simp; omega)]; rfl
                        go_wp2_with fail
                        go_ret
                        exact ⟨ret_int (by rw [hF.out, hnil.out]; rfl), hbw.out.trans (hb2.out.mono hbw.out.size)⟩
                  | false =>
                    have hF : Hid (ek = 0) := by show _ = _; rw [hCk2.out, hbb, hac]; simp
                    replace hac := Lib.hid hac
                    subst hbb
                    go_wp2_with (first | (rw [← hxV.out]; go_at_call 32; refine (ractive_any _ _).mono ?_; rintro e wq ⟨rfl, hbq⟩; rw [hac.out]; replace hb2 := Lib.hid (hb2.out.trans (hbq.mono hb2.out.size)); clear hbq; obtain ⟨c0, c1, c2, c3, c4, c5, c6⟩ := kz.out _ hb2.out) | (go_at_call 36; (first | refine (in_yes _ _ _ _ (by omega) (by omega)).mono ?_ | refine (in_no _ _ _ _ (by omega)).mono ?_); rintro e wq ⟨rfl, hbq⟩; replace hb2 := Lib.hid (hb2.out.trans (hbq.mono hb2.out.size)); clear hbq; obtain ⟨c0, c1, c2, c3, c4, c5, c6⟩ := kz.out _ hb2.out))
                    go_loopw [6] (fun i wr => ∃ j : Nat, j ≤ k ∧ i = .int .i64 j ∧ Hid (Below (w.alloc (.cells #[.int .i64 x0, .int .i64 x1, .string x2, .int .i64 x3, .int .i64 x4, .int .i64 x5, .int .i64 x6] 33)).heap.size (w.alloc (.cells #[.int .i64 x0, .int .i64 x1, .string x2, .int .i64 x3, .int .i64 x4, .int .i64 x5, .int .i64 x6] 33)) wr)) (fun i _ => k - (intOf i).toNat)
                    case atStart => exact ⟨0, Nat.zero_le _, rfl, hb2.out⟩
                    case round =>
                      obtain ⟨j, hj, rfl, hbr⟩ := hrel
                      clear hb2
                      have hb2 := hbr
                      clear hbr
                      obtain ⟨c0, c1, c2, c3, c4, c5, c6⟩ := kz.out _ hb2.out
                      by_cases hjk : j < k
                      · have hjn : (j : Int) < n := by omega
                        have hj0 : (0 : Int) ≤ j := by omega
                        go_wp2_with fail
                        first
                          | (go_region_with ((rw [← hxV.out]; go_at_call 32; (with_reducible refine (ractive_any ⟨x0, x1, x2, x3, x4, x5, x6⟩ _).mono ?_); rintro e wq ⟨rfl, hbq⟩; rw [hac.out]; replace hb2 := Lib.hid (by first | exact hb2.out.trans (hbq.mono hb2.out.size) | exact (below_dr hb2.out).trans (hbq.mono (below_dr hb2.out).size)); clear hbq; skip)))
                          | fail
                        all_goals
                          go_wp2_with fail
                          go_roundw
                          case rel => exact ⟨j + 1, by omega, by go_num, by first | exact hb2.out | exact below_dr hb2.out | exact below_drewN hb2.out _⟩
                          case measure => simp [intOf]; omega
                      · skip
                        go_wp2_with fail
                        go_ret
                        exact ⟨ret_int hF.out.symm, hbw.out.trans (hb2.out.mono hbw.out.size)⟩
    · rw [if_pos g2] at hCk
      have hF := Lib.hid hCk
      clear hCk
      rcases (show x5 < 1 ∨ (1 ≤ x5 ∧ 5 < x5) ∨ (1 ≤ x5 ∧ x5 ≤ 5 ∧ x6 < 0) ∨ (1 ≤ x5 ∧ x5 ≤ 5 ∧ 0 ≤ x6 ∧ 2147483647 < x6) by omega) with q | ⟨q1, q⟩ | ⟨q1, q2, q⟩ | ⟨q1, q2, q3, q⟩
      all_goals
        clear g2
        go_enter Try.func23, Try.ntmps23
        go_wp2_with (go_at_call 36; (first | refine (in_yes _ _ _ _ (by omega) (by omega)).mono ?_ | refine (in_no _ _ _ _ (by omega)).mono ?_); rintro e wq ⟨rfl, hbq⟩; replace hb2 := Lib.hid (hb2.out.trans (hbq.mono hb2.out.size)); clear hbq; obtain ⟨c0, c1, c2, c3, c4, c5, c6⟩ := kz.out _ hb2.out)
        go_ret
        exact ⟨ret_int hF.out.symm, hbw.out.trans (hb2.out.mono hbw.out.size)⟩
  · rw [if_pos g1] at hCk
    have hF := Lib.hid hCk
    clear hCk
    rcases (show x0 < 1 ∨ (1 ≤ x0 ∧ 2147483647 < x0) ∨ (1 ≤ x0 ∧ x0 ≤ 2147483647 ∧ x1 < 0) ∨ (1 ≤ x0 ∧ x0 ≤ 2147483647 ∧ 0 ≤ x1 ∧ 32 < x1) by omega) with q | ⟨q1, q⟩ | ⟨q1, q2, q⟩ | ⟨q1, q2, q3, q⟩
    all_goals
      clear g1
      go_enter Try.func23, Try.ntmps23
      go_wp2_with (go_at_call 36; (first | refine (in_yes _ _ _ _ (by omega) (by omega)).mono ?_ | refine (in_no _ _ _ _ (by omega)).mono ?_); rintro e wq ⟨rfl, hbq⟩; replace hb2 := Lib.hid (hb2.out.trans (hbq.mono hb2.out.size)); clear hbq; obtain ⟨c0, c1, c2, c3, c4, c5, c6⟩ := kz.out _ hb2.out)
      go_ret
      exact ⟨ret_int hF.out.symm, hbw.out.trans (hb2.out.mono hbw.out.size)⟩
end Go.Proofs.Ytpejfnfhbpckiaa
