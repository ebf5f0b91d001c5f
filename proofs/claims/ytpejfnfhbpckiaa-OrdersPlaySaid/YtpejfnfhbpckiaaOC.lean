/- Orders: check, walked. -/
import Derived.Test.YtpejfnfhbpckiaaOB
set_option linter.unusedVariables false
set_option linter.unusedSimpArgs false
namespace Go.Proofs.Ytpejfnfhbpckiaa
open Go.RowKit Go.Proofs.Ytpejfnfhbpckiaa.Ord
set_option maxRecDepth 100000 in
set_option maxHeartbeats 4000000 in
theorem check_any (A : Option Addr) (l : List O) (n cap k : Nat) (w : World) (h : OAt w w.heap.size A n l) (hc : n ≤ cap) (hm : cap ≤ maxLen) (hk : k < n) :
    Calls Try.prog 22 #[.slice A n cap, .int .i64 k] w fun e w' => e = .returned (.int .i64 (chkAt nameB l k)) ∧ Below w.heap.size w w' := by
  have hm' : cap ≤ 2 ^ 63 - 1 := hm
  have hn := Lib.hid h.len
  have hkl : k < l.length := by rw [hn.out]; exact hk
  have hk0 : (0 : Int) ≤ k := by omega
  have hk1 : (k : Int) < n := by omega
  have hkc : (k : Int) ≤ cap := by omega
  have hkc' : k ≤ cap := by omega
  obtain ⟨ad, hA, hbl, e0, e1, e2, e3, e4, e5, e6⟩ := OAt.cell h hk
  subst hA
  have hp : Hid (∀ h0 : 0 < k, w.cell? (ad.add ((k - 1) * 7)) = some (.int .i64 (l[k - 1]'(by omega)).id)) := fun h0 => by
    obtain ⟨ad', hA, _, c, _⟩ := OAt.cell h (k := k - 1) (by omega)
    cases hA; exact c
  have hpe : Hid (∀ h0 : 0 < k, ((l[k - 1]?).map (·.id)).getD 0 = (l[k - 1]'(by omega)).id) := fun h0 => by
    rw [List.getElem?_eq_getElem (by omega)]; rfl
  have hCk := chkAt_eq (name := nameB) hkl
  have hxl : Hid (l[k] = l[k]) := rfl
  generalize l[k] = x at *
  obtain ⟨x0, x1, x2, x3, x4, x5, x6⟩ := x
  simp only at e0 e1 e2 e3 e4 e5 e6
  generalize hEk : chkAt nameB l k = ek at *
  unfold chk at hCk
  simp only at hCk
  replace hEk := Lib.hid hEk
  have hB := Lib.hid (Blk.new w 33 #[.int .i64 x0, .int .i64 x1, .string x2, .int .i64 x3, .int .i64 x4, .int .i64 x5, .int .i64 x6])
  have kz : Hid (∀ wz, Below (w.alloc (.cells #[.int .i64 x0, .int .i64 x1, .string x2, .int .i64 x3, .int .i64 x4, .int .i64 x5, .int .i64 x6] 33)).heap.size (w.alloc (.cells #[.int .i64 x0, .int .i64 x1, .string x2, .int .i64 x3, .int .i64 x4, .int .i64 x5, .int .i64 x6] 33)) wz → wz.cell? ⟨w.heap.size, 0, none⟩ = some (.int .i64 x0) ∧ wz.cell? ⟨w.heap.size, 1, none⟩ = some (.int .i64 x1) ∧ wz.cell? ⟨w.heap.size, 2, none⟩ = some (.string x2) ∧ wz.cell? ⟨w.heap.size, 3, none⟩ = some (.int .i64 x3) ∧ wz.cell? ⟨w.heap.size, 4, none⟩ = some (.int .i64 x4) ∧ wz.cell? ⟨w.heap.size, 5, none⟩ = some (.int .i64 x5) ∧ wz.cell? ⟨w.heap.size, 6, none⟩ = some (.int .i64 x6)) := fun wz h => by
    have q0 := hB.out.below h (lt_of_heap hB.out)
    exact ⟨q0.cell 0, q0.cell 1, q0.cell 2, q0.cell 3, q0.cell 4, q0.cell 5, q0.cell 6⟩
  have hbw := Lib.hid (a1 w (.cells #[.int .i64 x0, .int .i64 x1, .string x2, .int .i64 x3, .int .i64 x4, .int .i64 x5, .int .i64 x6] 33))
  have hat := Lib.hid (h.more (a1 w (.cells #[.int .i64 x0, .int .i64 x1, .string x2, .int .i64 x3, .int .i64 x4, .int .i64 x5, .int .i64 x6] 33)))
  replace h := Lib.hid h
  have hb2 : Hid (Below (w.alloc (.cells #[.int .i64 x0, .int .i64 x1, .string x2, .int .i64 x3, .int .i64 x4, .int .i64 x5, .int .i64 x6] 33)).heap.size (w.alloc (.cells #[.int .i64 x0, .int .i64 x1, .string x2, .int .i64 x3, .int .i64 x4, .int .i64 x5, .int .i64 x6] 33)) (w.alloc (.cells #[.int .i64 x0, .int .i64 x1, .string x2, .int .i64 x3, .int .i64 x4, .int .i64 x5, .int .i64 x6] 33))) := Below.refl _ _
  by_cases g1 : 1 ≤ x0 ∧ x0 ≤ 2147483647 ∧ 0 ≤ x1 ∧ x1 ≤ 32
  · rw [if_neg (fun h => h g1)] at hCk
    obtain ⟨g11, g12, g13, g14⟩ := g1
    by_cases g2 : 1 ≤ x5 ∧ x5 ≤ 5 ∧ 0 ≤ x6 ∧ x6 ≤ 2147483647
    · rw [if_neg (fun h => h g2)] at hCk
      obtain ⟨g21, g22, g23, g24⟩ := g2
      cases hnm : nameB x2 with
      | false =>
        rw [if_pos hnm] at hCk
        have hF := Lib.hid hCk
        clear hCk
        replace hnm := Lib.hid hnm
        go_enter Try.func22, Try.ntmps22
        go_wp2_with (go_at_call 33; refine (name_any _ _).mono ?_; rintro e wq ⟨rfl, hbq⟩; rw [hnm.out]; replace hb2 := Lib.hid (hb2.out.trans (hbq.mono hb2.out.size)); clear hbq; obtain ⟨c0, c1, c2, c3, c4, c5, c6⟩ := kz.out _ hb2.out)
        go_ret
        exact ⟨ret_int hF.out.symm, hbw.out.trans (hb2.out.mono hbw.out.size)⟩
      | true =>
        rw [if_neg (by rw [hnm]; simp)] at hCk
        replace hnm := Lib.hid hnm
        obtain ⟨b8, hb8⟩ : ∃ b8 : Bool, b8 = decide (0 < k ∧ x0 ≤ ((l[k - 1]?).map (·.id)).getD 0) := ⟨_, rfl⟩
        have hb8' := Lib.hid hb8
        replace hb8 := hb8'
        replace hCk := Lib.hid hCk
        go_enter Try.func22, Try.ntmps22
        go_upto_region 8 with (go_at_call 33; refine (name_any _ _).mono ?_; rintro e wq ⟨rfl, hbq⟩; rw [hnm.out]; replace hb2 := Lib.hid (hb2.out.trans (hbq.mono hb2.out.size)); clear hbq; obtain ⟨c0, c1, c2, c3, c4, c5, c6⟩ := kz.out _ hb2.out)
        go_cut [62] (fun s wx => s = .bool b8 ∧ Hid (Below (w.alloc (.cells #[.int .i64 x0, .int .i64 x1, .string x2, .int .i64 x3, .int .i64 x4, .int .i64 x5, .int .i64 x6] 33)).heap.size (w.alloc (.cells #[.int .i64 x0, .int .i64 x1, .string x2, .int .i64 x3, .int .i64 x4, .int .i64 x5, .int .i64 x6] 33)) wx))
        case first =>
          by_cases hk00 : 0 < k
          · have hpc : Hid (wq.cell? (ad.add ((k - 1) * 7)) = some (.int .i64 (l[k - 1]'(by omega)).id)) := ((below_a hb2.out).cell (by rw [add_block]; exact hbl)).trans (hp.out hk00)
            have hpc := hpc.out
            have hpe2 := hpe.out hk00
            have hb9 : Hid (b8 = decide (x0 ≤ (l[k - 1]'(by omega)).id)) := by show _ = _; rw [hb8.out, hpe2]; simp [hk00]
            have hpb := lt_of_cell hpc
            clear hpe2
            generalize (l[k - 1]).id = pid at *
            have hd : decide ((0 : Int) < k) = true := by simp; omega
            have hd0 : (0 : Int) ≤ (k : Int) - 1 := by omega
            have hd1 : (k : Int) - 1 < n := by omega
            go_wp2_with fail
            go_quiet (fail)
            go_wp2_with fail
            go_meet
            exact ⟨by rw [hb9.out], below_drewN hb2.out _⟩
          · have hb9 : Hid (b8 = false) := by show _ = _; rw [hb8.out]; simp [hk00]
            have hd : decide ((0 : Int) < k) = false := by simp; omega
            go_wp2_with fail
            go_quiet (fail)
            go_wp2_with fail
            go_meet
            exact ⟨by rw [hb9.out], below_drewN hb2.out _⟩
        case rest =>
          obtain ⟨rfl, hb2x⟩ := hcut
          clear hb2 hpe hp
          have hb2 := hb2x
          clear hb2x
          obtain ⟨c0, c1, c2, c3, c4, c5, c6⟩ := kz.out _ hb2.out
          replace hCk := hCk.out
          cases hbb : b8 with
          | true =>
            rw [if_pos (of_decide_eq_true (hb8.out.symm.trans hbb))] at hCk
            have hF := Lib.hid hCk
            clear hCk
            subst hbb
            go_wp2_with fail
            go_ret
            exact ⟨ret_int hF.out.symm, hbw.out.trans (hb2.out.mono hbw.out.size)⟩
          | false =>
            rw [if_neg (of_decide_eq_false (hb8.out.symm.trans hbb))] at hCk
            subst hbb
            clear hb8
            cases hsp : okSpan x3 x4 with
            | false =>
              rw [if_pos hsp] at hCk
              have hF := Lib.hid hCk
              clear hCk
              have hsp' := Lib.hid hsp
              replace hsp := hsp'
              go_wp2_with (go_at_call 34; refine (vspan_any _ _ _).mono ?_; rintro e wq ⟨rfl, hbq⟩; rw [hsp.out]; replace hb2 := Lib.hid (hb2.out.trans (hbq.mono hb2.out.size)); clear hbq; obtain ⟨c0, c1, c2, c3, c4, c5, c6⟩ := kz.out _ hb2.out)
              go_ret
              exact ⟨ret_int hF.out.symm, hbw.out.trans (hb2.out.mono hbw.out.size)⟩
            | true =>
              rw [if_neg (by rw [hsp]; simp)] at hCk
              have hsq : 0 ≤ x3 ∧ x3 ≤ x4 ∧ x4 ≤ 268435456 := by simp [okSpan] at hsp; omega
              obtain ⟨hs1, hs2, hs3⟩ := hsq
              replace hsp := Lib.hid hsp
              rcases (show x5 = 1 ∨ x5 = 2 ∨ x5 = 3 ∨ x5 = 4 ∨ x5 = 5 by omega) with hx5 | hx5 | hx5 | hx5 | hx5
              · subst hx5
                have hac : Hid (act ⟨x0, x1, x2, x3, x4, 1, x6⟩ = false) := by show _ = _; simp [act]
                have hxV : Hid (oV ⟨x0, x1, x2, x3, x4, 1, x6⟩ = .agg #[.int .i64 x0, .int .i64 x1, .string x2, .int .i64 x3, .int .i64 x4, .int .i64 1, .int .i64 x6]) := rfl
                by_cases hz : x3 = 0 ∧ x4 = 0
                · obtain ⟨rfl, rfl⟩ := hz
                  rw [if_neg (fun h => h.2 ⟨rfl, rfl⟩), if_neg (fun h => by simp [act] at h), if_neg (fun h => by rw [hac.out] at h; cases h.1)] at hCk
                  have hF := Lib.hid hCk
                  clear hCk
                  go_wp2_with (first | (go_at_call 34; refine (vspan_any _ _ _).mono ?_; rintro e wq ⟨rfl, hbq⟩; rw [hsp.out]; replace hb2 := Lib.hid (hb2.out.trans (hbq.mono hb2.out.size)); clear hbq; obtain ⟨c0, c1, c2, c3, c4, c5, c6⟩ := kz.out _ hb2.out) | (rw [← hxV.out]; go_at_call 24; refine (active_any _ _).mono ?_; rintro e wq ⟨rfl, hbq⟩; rw [hac.out]; replace hb2 := Lib.hid (hb2.out.trans (hbq.mono hb2.out.size)); clear hbq; obtain ⟨c0, c1, c2, c3, c4, c5, c6⟩ := kz.out _ hb2.out))
                  first
                    | (go_region_with ((rw [← hxV.out]; (go_at_call 24; refine (active_any _ _).mono ?_; rintro e wq ⟨rfl, hbq⟩; replace hb2 := Lib.hid (by first | exact hb2.out.trans (hbq.mono hb2.out.size) | exact (below_dr hb2.out).trans (hbq.mono (below_dr hb2.out).size)); clear hbq; rw [hac.out]))))
                    | fail
                  all_goals
                    go_wp2_with fail
                    go_ret
                    exact ⟨ret_int hF.out.symm, hbw.out.trans (hb2.out.mono hbw.out.size)⟩
                · rw [if_pos ⟨rfl, hz⟩] at hCk
                  have hF := Lib.hid hCk
                  clear hCk
                  rcases (show x3 ≠ 0 ∨ (x3 = 0 ∧ x4 ≠ 0) by omega) with hq | ⟨rfl, hq⟩
                  all_goals
                    clear hz
                    first | (have hqb : (x3 != 0) = true := by simpa using hq) | (have hqb : (x4 != 0) = true := by simpa using hq)
                    first | (have hqc : (x3 == 0) = false := by simpa using hq) | (have hqc : (x4 == 0) = false := by simpa using hq)
                    replace hq := Lib.hid hq
                    go_wp2_with (first | (go_at_call 34; refine (vspan_any _ _ _).mono ?_; rintro e wq ⟨rfl, hbq⟩; rw [hsp.out]; replace hb2 := Lib.hid (hb2.out.trans (hbq.mono hb2.out.size)); clear hbq; obtain ⟨c0, c1, c2, c3, c4, c5, c6⟩ := kz.out _ hb2.out) | (rw [← hxV.out]; go_at_call 24; refine (active_any _ _).mono ?_; rintro e wq ⟨rfl, hbq⟩; rw [hac.out]; replace hb2 := Lib.hid (hb2.out.trans (hbq.mono hb2.out.size)); clear hbq; obtain ⟨c0, c1, c2, c3, c4, c5, c6⟩ := kz.out _ hb2.out))
                    go_ret
                    exact ⟨ret_int hF.out.symm, hbw.out.trans (hb2.out.mono hbw.out.size)⟩
              · subst hx5
                have hac : Hid (act ⟨x0, x1, x2, x3, x4, 2, x6⟩ = true) := by show _ = _; simp [act]
                have hxV : Hid (oV ⟨x0, x1, x2, x3, x4, 2, x6⟩ = .agg #[.int .i64 x0, .int .i64 x1, .string x2, .int .i64 x3, .int .i64 x4, .int .i64 2, .int .i64 x6]) := rfl
                rw [if_neg (fun h => by simp at h)] at hCk
                by_cases hz : x3 = x4
                · subst hz
                  rw [if_pos ⟨by simp [act], rfl⟩] at hCk
                  have hF := Lib.hid hCk
                  clear hCk
                  go_wp2_with (first | (go_at_call 34; refine (vspan_any _ _ _).mono ?_; rintro e wq ⟨rfl, hbq⟩; rw [hsp.out]; replace hb2 := Lib.hid (hb2.out.trans (hbq.mono hb2.out.size)); clear hbq; obtain ⟨c0, c1, c2, c3, c4, c5, c6⟩ := kz.out _ hb2.out) | (rw [← hxV.out]; go_at_call 24; refine (active_any _ _).mono ?_; rintro e wq ⟨rfl, hbq⟩; rw [hac.out]; replace hb2 := Lib.hid (hb2.out.trans (hbq.mono hb2.out.size)); clear hbq; obtain ⟨c0, c1, c2, c3, c4, c5, c6⟩ := kz.out _ hb2.out))
                  go_ret
                  exact ⟨ret_int hF.out.symm, hbw.out.trans (hb2.out.mono hbw.out.size)⟩
                · rw [if_neg (fun h => hz h.2)] at hCk
                  have hzb : (x3 == x4) = false := by simpa using hz
                  replace hz := Lib.hid hz
                  cases hbk : blk (-1) ⟨x0, x1, x2, x3, x4, 2, x6⟩ 0 (l.take k) with
                  | true =>
                    rw [if_pos ⟨hac.out, hbk⟩] at hCk
                    have hF := Lib.hid hCk
                    clear hCk
                    replace hbk := Lib.hid hbk
                    go_wp2_with (first | (go_at_call 34; refine (vspan_any _ _ _).mono ?_; rintro e wq ⟨rfl, hbq⟩; rw [hsp.out]; replace hb2 := Lib.hid (hb2.out.trans (hbq.mono hb2.out.size)); clear hbq; obtain ⟨c0, c1, c2, c3, c4, c5, c6⟩ := kz.out _ hb2.out) | (rw [← hxV.out]; go_at_call 24; refine (active_any _ _).mono ?_; rintro e wq ⟨rfl, hbq⟩; rw [hac.out]; replace hb2 := Lib.hid (hb2.out.trans (hbq.mono hb2.out.size)); clear hbq; obtain ⟨c0, c1, c2, c3, c4, c5, c6⟩ := kz.out _ hb2.out))
                    go_region_held3 (fun wz => wz.cell? ⟨w.heap.size, 0, none⟩ = some (.int .i64 x0) ∧ wz.cell? ⟨w.heap.size, 1, none⟩ = some (.int .i64 x1) ∧ wz.cell? ⟨w.heap.size, 2, none⟩ = some (.string x2) ∧ wz.cell? ⟨w.heap.size, 3, none⟩ = some (.int .i64 x3) ∧ wz.cell? ⟨w.heap.size, 4, none⟩ = some (.int .i64 x4) ∧ wz.cell? ⟨w.heap.size, 5, none⟩ = some (.int .i64 2) ∧ wz.cell? ⟨w.heap.size, 6, none⟩ = some (.int .i64 x6))
                      ((refine kz.out _ ?_; (repeat (first | (with_reducible exact hb2.out) | (with_reducible refine below_set ?_ (by first | exact Nat.le_refl _ | exact hb2.out.size | (simp; done) | (simp; omega)) _ _) | (with_reducible refine below_new ?_ _) | (with_reducible refine below_dr ?_)))))
                      ((first | ((try rw [← hxV.out]); go_at_call 24; (with_reducible refine (active_any ⟨x0, x1, x2, x3, x4, 2, x6⟩ _).mono ?_); rintro e wq ⟨rfl, hbq⟩; rw [hac.out]; replace hb2 := Lib.hid (by first | exact hb2.out.trans (hbq.mono hb2.out.size) | exact (below_dr hb2.out).trans (hbq.mono (below_dr hb2.out).size)); clear hbq) | ((try rw [← hxV.out]); go_at_call 35; (with_reducible refine (blocked_any (some ad) (l.take k) k cap (-1) ⟨x0, x1, x2, x3, x4, 2, x6⟩ _ ((hat.out.take (Nat.le_of_lt hk)).more (by first | exact hb2.out | exact below_dr hb2.out)) (Nat.le_trans (Nat.le_of_lt hk) (Nat.le_trans hc hm))).mono ?_); rintro e wq ⟨rfl, hbq⟩; rw [hbk.out]; replace hb2 := Lib.hid (by first | exact hb2.out.trans (hbq.mono hb2.out.size) | exact (below_dr hb2.out).trans (hbq.mono (below_dr hb2.out).size)); clear hbq)))
                    all_goals
                      go_wp2_with fail
                      go_ret
                      exact ⟨ret_int hF.out.symm, hbw.out.trans (hb2.out.mono hbw.out.size)⟩
                  | false =>
                    rw [if_neg (fun h => by rw [hbk] at h; cases h.2)] at hCk
                    have hF := Lib.hid hCk
                    clear hCk
                    replace hbk := Lib.hid hbk
                    go_wp2_with (first | (go_at_call 34; refine (vspan_any _ _ _).mono ?_; rintro e wq ⟨rfl, hbq⟩; rw [hsp.out]; replace hb2 := Lib.hid (hb2.out.trans (hbq.mono hb2.out.size)); clear hbq; obtain ⟨c0, c1, c2, c3, c4, c5, c6⟩ := kz.out _ hb2.out) | (rw [← hxV.out]; go_at_call 24; refine (active_any _ _).mono ?_; rintro e wq ⟨rfl, hbq⟩; rw [hac.out]; replace hb2 := Lib.hid (hb2.out.trans (hbq.mono hb2.out.size)); clear hbq; obtain ⟨c0, c1, c2, c3, c4, c5, c6⟩ := kz.out _ hb2.out))
                    go_region_held3 (fun wz => wz.cell? ⟨w.heap.size, 0, none⟩ = some (.int .i64 x0) ∧ wz.cell? ⟨w.heap.size, 1, none⟩ = some (.int .i64 x1) ∧ wz.cell? ⟨w.heap.size, 2, none⟩ = some (.string x2) ∧ wz.cell? ⟨w.heap.size, 3, none⟩ = some (.int .i64 x3) ∧ wz.cell? ⟨w.heap.size, 4, none⟩ = some (.int .i64 x4) ∧ wz.cell? ⟨w.heap.size, 5, none⟩ = some (.int .i64 2) ∧ wz.cell? ⟨w.heap.size, 6, none⟩ = some (.int .i64 x6))
                      ((refine kz.out _ ?_; (repeat (first | (with_reducible exact hb2.out) | (with_reducible refine below_set ?_ (by first | exact Nat.le_refl _ | exact hb2.out.size | (simp; done) | (simp; omega)) _ _) | (with_reducible refine below_new ?_ _) | (with_reducible refine below_dr ?_)))))
                      ((first | ((try rw [← hxV.out]); go_at_call 24; (with_reducible refine (active_any ⟨x0, x1, x2, x3, x4, 2, x6⟩ _).mono ?_); rintro e wq ⟨rfl, hbq⟩; rw [hac.out]; replace hb2 := Lib.hid (by first | exact hb2.out.trans (hbq.mono hb2.out.size) | exact (below_dr hb2.out).trans (hbq.mono (below_dr hb2.out).size)); clear hbq) | ((try rw [← hxV.out]); go_at_call 35; (with_reducible refine (blocked_any (some ad) (l.take k) k cap (-1) ⟨x0, x1, x2, x3, x4, 2, x6⟩ _ ((hat.out.take (Nat.le_of_lt hk)).more (by first | exact hb2.out | exact below_dr hb2.out)) (Nat.le_trans (Nat.le_of_lt hk) (Nat.le_trans hc hm))).mono ?_); rintro e wq ⟨rfl, hbq⟩; rw [hbk.out]; replace hb2 := Lib.hid (by first | exact hb2.out.trans (hbq.mono hb2.out.size) | exact (below_dr hb2.out).trans (hbq.mono (below_dr hb2.out).size)); clear hbq)))
                    all_goals
                      go_wp2_with fail
                      go_ret
                      exact ⟨ret_int hF.out.symm, hbw.out.trans (hb2.out.mono hbw.out.size)⟩
              · subst hx5
                have hac : Hid (act ⟨x0, x1, x2, x3, x4, 3, x6⟩ = true) := by show _ = _; simp [act]
                have hxV : Hid (oV ⟨x0, x1, x2, x3, x4, 3, x6⟩ = .agg #[.int .i64 x0, .int .i64 x1, .string x2, .int .i64 x3, .int .i64 x4, .int .i64 3, .int .i64 x6]) := rfl
                rw [if_neg (fun h => by simp at h)] at hCk
                by_cases hz : x3 = x4
                · subst hz
                  rw [if_pos ⟨by simp [act], rfl⟩] at hCk
                  have hF := Lib.hid hCk
                  clear hCk
                  go_wp2_with (first | (go_at_call 34; refine (vspan_any _ _ _).mono ?_; rintro e wq ⟨rfl, hbq⟩; rw [hsp.out]; replace hb2 := Lib.hid (hb2.out.trans (hbq.mono hb2.out.size)); clear hbq; obtain ⟨c0, c1, c2, c3, c4, c5, c6⟩ := kz.out _ hb2.out) | (rw [← hxV.out]; go_at_call 24; refine (active_any _ _).mono ?_; rintro e wq ⟨rfl, hbq⟩; rw [hac.out]; replace hb2 := Lib.hid (hb2.out.trans (hbq.mono hb2.out.size)); clear hbq; obtain ⟨c0, c1, c2, c3, c4, c5, c6⟩ := kz.out _ hb2.out))
                  go_ret
                  exact ⟨ret_int hF.out.symm, hbw.out.trans (hb2.out.mono hbw.out.size)⟩
                · rw [if_neg (fun h => hz h.2)] at hCk
                  have hzb : (x3 == x4) = false := by simpa using hz
                  replace hz := Lib.hid hz
                  cases hbk : blk (-1) ⟨x0, x1, x2, x3, x4, 3, x6⟩ 0 (l.take k) with
                  | true =>
                    rw [if_pos ⟨hac.out, hbk⟩] at hCk
                    have hF := Lib.hid hCk
                    clear hCk
                    replace hbk := Lib.hid hbk
                    go_wp2_with (first | (go_at_call 34; refine (vspan_any _ _ _).mono ?_; rintro e wq ⟨rfl, hbq⟩; rw [hsp.out]; replace hb2 := Lib.hid (hb2.out.trans (hbq.mono hb2.out.size)); clear hbq; obtain ⟨c0, c1, c2, c3, c4, c5, c6⟩ := kz.out _ hb2.out) | (rw [← hxV.out]; go_at_call 24; refine (active_any _ _).mono ?_; rintro e wq ⟨rfl, hbq⟩; rw [hac.out]; replace hb2 := Lib.hid (hb2.out.trans (hbq.mono hb2.out.size)); clear hbq; obtain ⟨c0, c1, c2, c3, c4, c5, c6⟩ := kz.out _ hb2.out))
                    go_region_held3 (fun wz => wz.cell? ⟨w.heap.size, 0, none⟩ = some (.int .i64 x0) ∧ wz.cell? ⟨w.heap.size, 1, none⟩ = some (.int .i64 x1) ∧ wz.cell? ⟨w.heap.size, 2, none⟩ = some (.string x2) ∧ wz.cell? ⟨w.heap.size, 3, none⟩ = some (.int .i64 x3) ∧ wz.cell? ⟨w.heap.size, 4, none⟩ = some (.int .i64 x4) ∧ wz.cell? ⟨w.heap.size, 5, none⟩ = some (.int .i64 3) ∧ wz.cell? ⟨w.heap.size, 6, none⟩ = some (.int .i64 x6))
                      ((refine kz.out _ ?_; (repeat (first | (with_reducible exact hb2.out) | (with_reducible refine below_set ?_ (by first | exact Nat.le_refl _ | exact hb2.out.size | (simp; done) | (simp; omega)) _ _) | (with_reducible refine below_new ?_ _) | (with_reducible refine below_dr ?_)))))
                      ((first | ((try rw [← hxV.out]); go_at_call 24; (with_reducible refine (active_any ⟨x0, x1, x2, x3, x4, 3, x6⟩ _).mono ?_); rintro e wq ⟨rfl, hbq⟩; rw [hac.out]; replace hb2 := Lib.hid (by first | exact hb2.out.trans (hbq.mono hb2.out.size) | exact (below_dr hb2.out).trans (hbq.mono (below_dr hb2.out).size)); clear hbq) | ((try rw [← hxV.out]); go_at_call 35; (with_reducible refine (blocked_any (some ad) (l.take k) k cap (-1) ⟨x0, x1, x2, x3, x4, 3, x6⟩ _ ((hat.out.take (Nat.le_of_lt hk)).more (by first | exact hb2.out | exact below_dr hb2.out)) (Nat.le_trans (Nat.le_of_lt hk) (Nat.le_trans hc hm))).mono ?_); rintro e wq ⟨rfl, hbq⟩; rw [hbk.out]; replace hb2 := Lib.hid (by first | exact hb2.out.trans (hbq.mono hb2.out.size) | exact (below_dr hb2.out).trans (hbq.mono (below_dr hb2.out).size)); clear hbq)))
                    all_goals
                      go_wp2_with fail
                      go_ret
                      exact ⟨ret_int hF.out.symm, hbw.out.trans (hb2.out.mono hbw.out.size)⟩
                  | false =>
                    rw [if_neg (fun h => by rw [hbk] at h; cases h.2)] at hCk
                    have hF := Lib.hid hCk
                    clear hCk
                    replace hbk := Lib.hid hbk
                    go_wp2_with (first | (go_at_call 34; refine (vspan_any _ _ _).mono ?_; rintro e wq ⟨rfl, hbq⟩; rw [hsp.out]; replace hb2 := Lib.hid (hb2.out.trans (hbq.mono hb2.out.size)); clear hbq; obtain ⟨c0, c1, c2, c3, c4, c5, c6⟩ := kz.out _ hb2.out) | (rw [← hxV.out]; go_at_call 24; refine (active_any _ _).mono ?_; rintro e wq ⟨rfl, hbq⟩; rw [hac.out]; replace hb2 := Lib.hid (hb2.out.trans (hbq.mono hb2.out.size)); clear hbq; obtain ⟨c0, c1, c2, c3, c4, c5, c6⟩ := kz.out _ hb2.out))
                    go_region_held3 (fun wz => wz.cell? ⟨w.heap.size, 0, none⟩ = some (.int .i64 x0) ∧ wz.cell? ⟨w.heap.size, 1, none⟩ = some (.int .i64 x1) ∧ wz.cell? ⟨w.heap.size, 2, none⟩ = some (.string x2) ∧ wz.cell? ⟨w.heap.size, 3, none⟩ = some (.int .i64 x3) ∧ wz.cell? ⟨w.heap.size, 4, none⟩ = some (.int .i64 x4) ∧ wz.cell? ⟨w.heap.size, 5, none⟩ = some (.int .i64 3) ∧ wz.cell? ⟨w.heap.size, 6, none⟩ = some (.int .i64 x6))
                      ((refine kz.out _ ?_; (repeat (first | (with_reducible exact hb2.out) | (with_reducible refine below_set ?_ (by first | exact Nat.le_refl _ | exact hb2.out.size | (simp; done) | (simp; omega)) _ _) | (with_reducible refine below_new ?_ _) | (with_reducible refine below_dr ?_)))))
                      ((first | ((try rw [← hxV.out]); go_at_call 24; (with_reducible refine (active_any ⟨x0, x1, x2, x3, x4, 3, x6⟩ _).mono ?_); rintro e wq ⟨rfl, hbq⟩; rw [hac.out]; replace hb2 := Lib.hid (by first | exact hb2.out.trans (hbq.mono hb2.out.size) | exact (below_dr hb2.out).trans (hbq.mono (below_dr hb2.out).size)); clear hbq) | ((try rw [← hxV.out]); go_at_call 35; (with_reducible refine (blocked_any (some ad) (l.take k) k cap (-1) ⟨x0, x1, x2, x3, x4, 3, x6⟩ _ ((hat.out.take (Nat.le_of_lt hk)).more (by first | exact hb2.out | exact below_dr hb2.out)) (Nat.le_trans (Nat.le_of_lt hk) (Nat.le_trans hc hm))).mono ?_); rintro e wq ⟨rfl, hbq⟩; rw [hbk.out]; replace hb2 := Lib.hid (by first | exact hb2.out.trans (hbq.mono hb2.out.size) | exact (below_dr hb2.out).trans (hbq.mono (below_dr hb2.out).size)); clear hbq)))
                    all_goals
                      go_wp2_with fail
                      go_ret
                      exact ⟨ret_int hF.out.symm, hbw.out.trans (hb2.out.mono hbw.out.size)⟩
              · subst hx5
                have hac : Hid (act ⟨x0, x1, x2, x3, x4, 4, x6⟩ = false) := by show _ = _; simp [act]
                have hxV : Hid (oV ⟨x0, x1, x2, x3, x4, 4, x6⟩ = .agg #[.int .i64 x0, .int .i64 x1, .string x2, .int .i64 x3, .int .i64 x4, .int .i64 4, .int .i64 x6]) := rfl
                rw [if_neg (fun h => by simp at h)] at hCk
                by_cases hz : x3 = x4
                · subst hz
                  rw [if_pos ⟨by simp [act], rfl⟩] at hCk
                  have hF := Lib.hid hCk
                  clear hCk
                  go_wp2_with (first | (go_at_call 34; refine (vspan_any _ _ _).mono ?_; rintro e wq ⟨rfl, hbq⟩; rw [hsp.out]; replace hb2 := Lib.hid (hb2.out.trans (hbq.mono hb2.out.size)); clear hbq; obtain ⟨c0, c1, c2, c3, c4, c5, c6⟩ := kz.out _ hb2.out) | (rw [← hxV.out]; go_at_call 24; refine (active_any _ _).mono ?_; rintro e wq ⟨rfl, hbq⟩; rw [hac.out]; replace hb2 := Lib.hid (hb2.out.trans (hbq.mono hb2.out.size)); clear hbq; obtain ⟨c0, c1, c2, c3, c4, c5, c6⟩ := kz.out _ hb2.out))
                  go_ret
                  exact ⟨ret_int hF.out.symm, hbw.out.trans (hb2.out.mono hbw.out.size)⟩
                · rw [if_neg (fun h => hz h.2)] at hCk
                  have hzb : (x3 == x4) = false := by simpa using hz
                  replace hz := Lib.hid hz
                  rw [if_neg (fun h => by rw [hac.out] at h; cases h.1)] at hCk
                  have hF := Lib.hid hCk
                  clear hCk
                  go_wp2_with (first | (go_at_call 34; refine (vspan_any _ _ _).mono ?_; rintro e wq ⟨rfl, hbq⟩; rw [hsp.out]; replace hb2 := Lib.hid (hb2.out.trans (hbq.mono hb2.out.size)); clear hbq; obtain ⟨c0, c1, c2, c3, c4, c5, c6⟩ := kz.out _ hb2.out) | (rw [← hxV.out]; go_at_call 24; refine (active_any _ _).mono ?_; rintro e wq ⟨rfl, hbq⟩; rw [hac.out]; replace hb2 := Lib.hid (hb2.out.trans (hbq.mono hb2.out.size)); clear hbq; obtain ⟨c0, c1, c2, c3, c4, c5, c6⟩ := kz.out _ hb2.out))
                  first
                    | (go_region_with ((rw [← hxV.out]; (go_at_call 24; refine (active_any _ _).mono ?_; rintro e wq ⟨rfl, hbq⟩; replace hb2 := Lib.hid (by first | exact hb2.out.trans (hbq.mono hb2.out.size) | exact (below_dr hb2.out).trans (hbq.mono (below_dr hb2.out).size)); clear hbq; rw [hac.out]))))
                    | fail
                  all_goals
                    go_wp2_with fail
                    go_ret
                    exact ⟨ret_int hF.out.symm, hbw.out.trans (hb2.out.mono hbw.out.size)⟩
              · subst hx5
                have hac : Hid (act ⟨x0, x1, x2, x3, x4, 5, x6⟩ = false) := by show _ = _; simp [act]
                have hxV : Hid (oV ⟨x0, x1, x2, x3, x4, 5, x6⟩ = .agg #[.int .i64 x0, .int .i64 x1, .string x2, .int .i64 x3, .int .i64 x4, .int .i64 5, .int .i64 x6]) := rfl
                rw [if_neg (fun h => by simp at h), if_neg (fun h => by simp [act] at h), if_neg (fun h => by rw [hac.out] at h; cases h.1)] at hCk
                have hF := Lib.hid hCk
                clear hCk
                go_wp2_with (first | (go_at_call 34; refine (vspan_any _ _ _).mono ?_; rintro e wq ⟨rfl, hbq⟩; rw [hsp.out]; replace hb2 := Lib.hid (hb2.out.trans (hbq.mono hb2.out.size)); clear hbq; obtain ⟨c0, c1, c2, c3, c4, c5, c6⟩ := kz.out _ hb2.out) | (rw [← hxV.out]; go_at_call 24; refine (active_any _ _).mono ?_; rintro e wq ⟨rfl, hbq⟩; rw [hac.out]; replace hb2 := Lib.hid (hb2.out.trans (hbq.mono hb2.out.size)); clear hbq; obtain ⟨c0, c1, c2, c3, c4, c5, c6⟩ := kz.out _ hb2.out))
                first
                  | (go_region_with ((rw [← hxV.out]; (go_at_call 24; refine (active_any _ _).mono ?_; rintro e wq ⟨rfl, hbq⟩; replace hb2 := Lib.hid (by first | exact hb2.out.trans (hbq.mono hb2.out.size) | exact (below_dr hb2.out).trans (hbq.mono (below_dr hb2.out).size)); clear hbq; rw [hac.out]))))
                  | fail
                all_goals
                  go_wp2_with fail
                  go_ret
                  exact ⟨ret_int hF.out.symm, hbw.out.trans (hb2.out.mono hbw.out.size)⟩
    · rw [if_pos g2] at hCk
      have hF := Lib.hid hCk
      clear hCk
      rcases (show x5 < 1 ∨ (1 ≤ x5 ∧ 5 < x5) ∨ (1 ≤ x5 ∧ x5 ≤ 5 ∧ x6 < 0) ∨ (1 ≤ x5 ∧ x5 ≤ 5 ∧ 0 ≤ x6 ∧ 2147483647 < x6) by omega) with q | ⟨q1, q⟩ | ⟨q1, q2, q⟩ | ⟨q1, q2, q3, q⟩
      all_goals
        clear g2
        go_enter Try.func22, Try.ntmps22
        go_wp2_with fail
        go_ret
        exact ⟨ret_int hF.out.symm, hbw.out.trans (hb2.out.mono hbw.out.size)⟩
  · rw [if_pos g1] at hCk
    have hF := Lib.hid hCk
    clear hCk
    rcases (show x0 < 1 ∨ (1 ≤ x0 ∧ 2147483647 < x0) ∨ (1 ≤ x0 ∧ x0 ≤ 2147483647 ∧ x1 < 0) ∨ (1 ≤ x0 ∧ x0 ≤ 2147483647 ∧ 0 ≤ x1 ∧ 32 < x1) by omega) with q | ⟨q1, q⟩ | ⟨q1, q2, q⟩ | ⟨q1, q2, q3, q⟩
    all_goals
      clear g1
      go_enter Try.func22, Try.ntmps22
      go_wp2_with fail
      go_ret
      exact ⟨ret_int hF.out.symm, hbw.out.trans (hb2.out.mono hbw.out.size)⟩
end Go.Proofs.Ytpejfnfhbpckiaa
