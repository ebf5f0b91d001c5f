/- Orders: the reference's Step, walked. -/
import Derived.Test.YtpejfnfhbpckiaaOI
import Derived.Test.YtpejfnfhbpckiaaOH
set_option linter.unusedVariables false
set_option linter.unusedSimpArgs false
namespace Go.Proofs.Ytpejfnfhbpckiaa
open Go.RowKit Go.Proofs.Ytpejfnfhbpckiaa.Ord
theorem hno_of {l : List O} (v : Vld nameB l) : ∀ o ∈ l, 0 ≤ o.notes ∧ o.notes ≤ 2147483647 := fun o ho => by
  obtain ⟨j, hj, rfl⟩ := List.mem_iff_getElem.1 ho
  exact ⟨(v.ok j hj).n1, (v.ok j hj).n2⟩
theorem stepK_no {l : List O} (v : Vld nameB l) (now : Int) (k : Nat) : ∀ o ∈ stepK l now k, 0 ≤ o.notes ∧ o.notes ≤ 2147483647 := fun o ho => by
  unfold stepK at ho
  rcases List.mem_append.1 ho with ho | ho
  · obtain ⟨x, hx, rfl⟩ := List.mem_map.1 ho
    obtain ⟨j, hj, rfl⟩ := List.mem_iff_getElem.1 (List.mem_of_mem_take hx)
    have := stepO_ok now (v.ok j hj)
    exact ⟨this.n1, this.n2⟩
  · exact hno_of v o (List.mem_of_mem_drop ho)
set_option maxRecDepth 100000 in
set_option maxHeartbeats 4000000 in
theorem rstep_any (A : Option Addr) (l : List O) (n cap : Nat) (now : Int) (w : World) (h : OAt w w.heap.size A n l) (hc : n ≤ cap) (hm : cap ≤ maxLen) (v : Vld nameB l) :
    Calls Try.prog 30 #[.slice A n cap, .int .i64 now] w fun e w' => ∃ v, e = .returned v ∧ OutV w w' (stepF l now) v := by
  have hn := Lib.hid h.len
  have hn1 : n ≤ 1000 := by have := v.len; have := hn.out; omega
  replace v := Lib.hid v
  replace h := Lib.hid h
  go_enter Try.func30, Try.ntmps30
  go_wp2_with fail
  go_loopw [5, 6] (fun u i wr => ∃ (k : Nat) (B : Option Addr) (c : Nat), k ≤ n ∧ i = .int .i64 k ∧ u = .slice B n c ∧ n ≤ c ∧ c ≤ maxLen ∧ Hid (Below w.heap.size w wr) ∧ Hid (OAt wr wr.heap.size B n (stepK l now k))) (fun _ i _ => n - (intOf i).toNat)
  case atStart => exact ⟨0, A, cap, Nat.zero_le _, rfl, rfl, hc, hm, Below.refl _ _, by rw [stepK_zero]; exact h.out⟩
  case round =>
    obtain ⟨k, B, c, hk, rfl, rfl, hnc, hcm, hb, ho⟩ := hrel
    by_cases hlt : k < n
    · have hkl : k < l.length := by rw [hn.out]; exact hlt
      have hkk : k < (stepK l now k).length := by rw [stepK_len]; exact hkl
      have hk0 : (0 : Int) ≤ k := by omega
      have hk1 : (k : Int) < n := by omega
      have hsame := stepK_same l now k hkl
      have hnext := stepK_next l now k hkl
      have hat := stepK_at l now k hkl
      have hst := moved_step (v.out.ok k hkl) now
      have hmv := fun s w h => moved_any B (stepK l now k) n c k s w h hnc hcm hn1 (stepK_no v.out now k) hkk
      rw [hat] at hmv
      have hkept := h.out.below hb.out (Nat.le_refl _)
      obtain ⟨x, hx⟩ : ∃ x, l[k] = x := ⟨_, rfl⟩
      obtain ⟨ad, hA, hbl, hcl⟩ := h.out.kept hkl hx
      subst hA
      rw [hx] at hsame hnext hst hmv
      clear hat hkept hx
      replace hsame := Lib.hid hsame
      replace hnext := Lib.hid hnext
      replace hst := Lib.hid hst
      replace hmv := Lib.hid hmv
      replace hcl := Lib.hid hcl
      have hxV : Hid (oV x = .agg #[.int .i64 x.id, .int .i64 x.conn, .string x.st, .int .i64 x.fr, .int .i64 x.tt, .int .i64 x.state, .int .i64 x.notes]) := rfl
      obtain ⟨x0, x1, x2, x3, x4, x5, x6⟩ := x
      simp only at hcl hxV
      obtain ⟨c0, c1, c2, c3, c4, c5, c6⟩ := hcl.out _ hb.out
      cases ha : act ⟨x0, x1, x2, x3, x4, x5, x6⟩ with
      | false =>
        have hy : Hid (stepO now ⟨x0, x1, x2, x3, x4, x5, x6⟩ = ⟨x0, x1, x2, x3, x4, x5, x6⟩) := by show _ = _; rw [hst.out, if_neg (by rw [ha]; simp)]
        replace ha := Lib.hid ha
        go_wp2_with fail
        rw [← hxV.out]
        refine (ractive_any _ _).mono ?_; rintro e w1 ⟨rfl, hq⟩
        rw [ha.out]
        clear c0 c1 c2 c3 c4 c5 c6
        have hb1 : Hid (Below w.heap.size w w1) := hb.out.trans (hq.mono hb.out.size)
        have ho1 : Hid (OAt w1 w1.heap.size B n (stepK l now k)) := ho.out.more hq
        obtain ⟨c0, c1, c2, c3, c4, c5, c6⟩ := hcl.out _ hb1.out
        replace hq := Lib.hid hq
        go_wp2_with fail
        go_roundw
        case rel => exact ⟨k + 1, _, _, by omega, by go_num, rfl, hnc, hcm, hb1.out, by rw [hsame.out hy.out]; exact ho1.out⟩
        case measure => simp [intOf]; omega
      | true =>
        by_cases h4 : x4 ≤ now
        · have hy : Hid (stepO now ⟨x0, x1, x2, x3, x4, x5, x6⟩ = movedO ⟨x0, x1, x2, x3, x4, x5, x6⟩ 4) := by show _ = _; rw [hst.out, if_pos ha, if_pos h4]
          replace ha := Lib.hid ha
          go_wp2_with fail
          rw [← hxV.out]
          refine (ractive_any _ _).mono ?_; rintro e w1 ⟨rfl, hq⟩
          rw [ha.out]
          clear c0 c1 c2 c3 c4 c5 c6
          have hb1 : Hid (Below w.heap.size w w1) := hb.out.trans (hq.mono hb.out.size)
          have ho1 : Hid (OAt w1 w1.heap.size B n (stepK l now k)) := ho.out.more hq
          obtain ⟨c0, c1, c2, c3, c4, c5, c6⟩ := hcl.out _ hb1.out
          replace hq := Lib.hid hq
          go_wp2_with fail
          refine (hmv.out 4 _ ho1.out).mono ?_; rintro e w2 ⟨g, c2', rfl, ho2, hq2⟩
          obtain ⟨A2, p2, he2, r1, r2, _, r3⟩ := ho2.form
          clear c0 c1 c2 c3 c4 c5 c6
          have hb2 : Hid (Below w.heap.size w w2) := hb1.out.trans (hq2.mono hb1.out.size)
          have hl2 : Hid (((stepK l now k).set k (movedO ⟨x0, x1, x2, x3, x4, x5, x6⟩ 4)).length = n) := by show _ = _; rw [List.length_set, stepK_len, hn.out]
          rw [hl2.out] at he2 r1 r3
          cases he2
          replace r3 := Lib.hid r3
          clear ho2 hq2
          go_wp2_with fail
          go_roundw
          case rel => exact ⟨k + 1, _, _, by omega, by go_num, rfl, r1, r2, hb2.out, by rw [hnext.out, hy.out]; exact r3.out⟩
          case measure => simp [intOf]; omega
        · by_cases h3 : x3 ≤ now
          · have hy : Hid (stepO now ⟨x0, x1, x2, x3, x4, x5, x6⟩ = movedO ⟨x0, x1, x2, x3, x4, x5, x6⟩ 3) := by show _ = _; rw [hst.out, if_pos ha, if_neg h4, if_pos h3]
            replace ha := Lib.hid ha
            go_wp2_with fail
            rw [← hxV.out]
            refine (ractive_any _ _).mono ?_; rintro e w1 ⟨rfl, hq⟩
            rw [ha.out]
            clear c0 c1 c2 c3 c4 c5 c6
            have hb1 : Hid (Below w.heap.size w w1) := hb.out.trans (hq.mono hb.out.size)
            have ho1 : Hid (OAt w1 w1.heap.size B n (stepK l now k)) := ho.out.more hq
            obtain ⟨c0, c1, c2, c3, c4, c5, c6⟩ := hcl.out _ hb1.out
            replace hq := Lib.hid hq
            go_wp2_with fail
            refine (hmv.out 3 _ ho1.out).mono ?_; rintro e w2 ⟨g, c2', rfl, ho2, hq2⟩
            obtain ⟨A2, p2, he2, r1, r2, _, r3⟩ := ho2.form
            clear c0 c1 c2 c3 c4 c5 c6
            have hb2 : Hid (Below w.heap.size w w2) := hb1.out.trans (hq2.mono hb1.out.size)
            have hl2 : Hid (((stepK l now k).set k (movedO ⟨x0, x1, x2, x3, x4, x5, x6⟩ 3)).length = n) := by show _ = _; rw [List.length_set, stepK_len, hn.out]
            rw [hl2.out] at he2 r1 r3
            cases he2
            replace r3 := Lib.hid r3
            clear ho2 hq2
            go_wp2_with fail
            go_roundw
            case rel => exact ⟨k + 1, _, _, by omega, by go_num, rfl, r1, r2, hb2.out, by rw [hnext.out, hy.out]; exact r3.out⟩
            case measure => simp [intOf]; omega
          · have hy : Hid (stepO now ⟨x0, x1, x2, x3, x4, x5, x6⟩ = ⟨x0, x1, x2, x3, x4, x5, x6⟩) := by show _ = _; rw [hst.out, if_pos ha, if_neg h4, if_neg h3]
            replace ha := Lib.hid ha
            go_wp2_with fail
            rw [← hxV.out]
            refine (ractive_any _ _).mono ?_; rintro e w1 ⟨rfl, hq⟩
            rw [ha.out]
            clear c0 c1 c2 c3 c4 c5 c6
            have hb1 : Hid (Below w.heap.size w w1) := hb.out.trans (hq.mono hb.out.size)
            have ho1 : Hid (OAt w1 w1.heap.size B n (stepK l now k)) := ho.out.more hq
            obtain ⟨c0, c1, c2, c3, c4, c5, c6⟩ := hcl.out _ hb1.out
            replace hq := Lib.hid hq
            go_wp2_with fail
            go_roundw
            case rel => exact ⟨k + 1, _, _, by omega, by go_num, rfl, hnc, hcm, hb1.out, by rw [hsame.out hy.out]; exact ho1.out⟩
            case measure => simp [intOf]; omega
    · have hF : Hid (stepK l now k = stepF l now) := stepK_end l now k (by rw [hn.out]; omega)
      go_wp2_with fail
      go_ret
      exact ⟨_, rfl, B, n, c, rfl, by rw [← hF.out]; exact ho.out, hnc, hcm, hb.out⟩
end Go.Proofs.Ytpejfnfhbpckiaa
