/- Replicated servers: validLog and the reference's server, walked. -/
import Derived.Test.YtiapeenfggjpnaaPC
set_option linter.unusedVariables false
set_option linter.unusedSimpArgs false
namespace Go.Proofs.Ytiapeenfggjpnaa
open Go.RowKit
set_option maxRecDepth 100000 in
set_option maxHeartbeats 8000000 in
theorem validLog_any (s : Sm) (w : World) {Q : Nat → Prop} (h : SmAt w Q s) (hn : s.n ≤ 5000) :
    Calls Try.prog 53 #[svV s] w fun e w' => e = .returned (.int .i64 (logE s.view (s.log.map Em.val) false 0)) ∧ Below w.heap.size w w' := by
  have hl := Lib.hid h.len
  have hat := Lib.hid h
  clear h
  obtain ⟨up, view, A, n, c, log⟩ := s
  simp only [svV, SmAt] at *
  have hB0 := Lib.hid (Blk.new w 47 #[Value.bool up, Value.int .i64 view, Value.slice A n c])
  have hb0 : Hid (Below w.heap.size w (w.alloc (.cells #[Value.bool up, Value.int .i64 view, Value.slice A n c] 47))) := a1 w _
  obtain ⟨k0, k1, k2⟩ := cells3 ((w.alloc (.cells #[Value.bool up, Value.int .i64 view, Value.slice A n c] 47))) (w.heap.size) (Value.bool up) (Value.int .i64 view) (Value.slice A n c) (hB0.out)
  go_enter Try.func53, Try.ntmps53
  go_wp2_with fail
  clear k0 k1 k2
  generalize (w.alloc (.cells #[Value.bool up, Value.int .i64 view, Value.slice A n c] 47)) = w0 at *
  go_loopw [8] (fun i wr => ∃ (k : Nat) (p : Int), k ≤ n ∧ i = .int .i64 k ∧ Hid (Blk wr w.heap.size 47 #[Value.bool up, Value.int .i64 view, Value.slice A n c]) ∧ Hid (Below w.heap.size w wr) ∧ Hid (logE view (log.map Em.val) false 0 = logE view ((log.map Em.val).drop k) (decide (0 < k)) p) ∧ (0 < k → ∃ hk : k - 1 < log.length, p = (log[k - 1]).view)) (fun i _ => n - (intOf i).toNat)
  case atStart => exact ⟨0, 0, Nat.zero_le _, rfl, hB0.out, hb0.out, rfl, fun h => absurd h (Nat.lt_irrefl 0)⟩
  case round =>
    obtain ⟨k, p, hkn, rfl, hB, hb, hL, hp⟩ := hrel
    by_cases hlt : k < n
    · have hkl : k < log.length := by have := hl.out; omega
      have hk0 : (0 : Int) ≤ k := by omega
      have hk1 : (k : Int) < n := by omega
      obtain ⟨ad, hA, -, e0, e1⟩ := en_cells (hat.out.at_.below hb.out (Nat.le_refl _)) hlt
      have hst : Hid (logE view (log.map Em.val) false 0 = if entE view (decide (0 < k)) p (log[k]).val ≠ 0 then entE view (decide (0 < k)) p (log[k]).val else logE view ((log.map Em.val).drop (k + 1)) true (log[k]).view) := by
        show _ = _
        rw [hL.out, List.drop_eq_getElem_cons (by simpa using hkl), List.getElem_map]
        rfl
      have hln := (hat.out.els _ (List.getElem_mem hkl)).at_.len
      have hpv : Hid (0 < k → ∀ ad, A = some ad → ∀ wz, Below w.heap.size w wz → wz.cell? (ad.add ((k - 1) * 2)) = some (Value.int .i64 p)) := fun h0 ad' hA' wz hz => by
        obtain ⟨ad2, hA2, -, q, -⟩ := en_cells (hat.out.at_.below hz (Nat.le_refl _)) (show k - 1 < n by omega)
        rw [hA'] at hA2
        injection hA2 with hA2
        subst hA2
        obtain ⟨h1, h2⟩ := hp h0
        rw [q, h2]
      obtain ⟨x, hx⟩ : ∃ x, x = log[k] := ⟨_, rfl⟩
      rw [← hx] at e0 e1 hst hln
      obtain ⟨xv, xA, xn, xc, xd⟩ := x
      simp only at e0 e1 hln
      subst hln
      clear hp hL
      replace hst : Hid (logE view (log.map Em.val) false 0 = if entE view (decide (0 < k)) p ⟨xv, xd⟩ ≠ 0 then entE view (decide (0 < k)) p ⟨xv, xd⟩ else logE view ((log.map Em.val).drop (k + 1)) true xv) := hst.out
      replace hx : Hid (log[k] = ⟨xv, xA, xd.length, xc, xd⟩) := hx.symm
      replace hpv : Hid (0 < k → ∀ wz, Below w.heap.size w wz → ∃ ad, A = some ad ∧ wz.cell? (ad.add ((k - 1) * 2)) = some (Value.int .i64 p)) := fun h0 wz hz => ⟨ad, hA, hpv.out h0 ad hA wz hz⟩
      subst hA
      have hy := Lib.hid (Blk.new wr 59 #[Value.int .i64 xv, Value.slice xA xd.length xc])
      have hB2 : Hid (Blk (wr.alloc (.cells #[Value.int .i64 xv, Value.slice xA xd.length xc] 59)) w.heap.size 47 #[Value.bool up, Value.int .i64 view, Value.slice (some ad) n c]) := hB.out.alloc _
      have hb2 : Hid (Below w.heap.size w (wr.alloc (.cells #[Value.int .i64 xv, Value.slice xA xd.length xc] 59))) := hb.out.alloc hb.out.size _
      obtain ⟨y0, y1⟩ := cells2 ((wr.alloc (.cells #[Value.int .i64 xv, Value.slice xA xd.length xc] 59))) (wr.heap.size) (Value.int .i64 xv) (Value.slice xA xd.length xc) (hy.out)
      obtain ⟨k0, k1, k2⟩ := cells3 ((wr.alloc (.cells #[Value.int .i64 xv, Value.slice xA xd.length xc] 59))) (w.heap.size) (Value.bool up) (Value.int .i64 view) (Value.slice (some ad) n c) (hB2.out)
      by_cases q1 : xv < 1
      · have q1d : decide (xv < 1) = true := by simpa using q1
        have hE : Hid (entE view (decide (0 < k)) p ⟨xv, xd⟩ = 2) := by show _ = _; unfold entE; rw [if_pos (.inl q1)]
        have hL : Hid (logE view (log.map Em.val) false 0 = 2) := by show _ = _; rw [hst.out, hE.out]; simp
        have hF : Hid (logE view (log.map Em.val) false 0 = 2) := hL
        go_wp2_with fail
        go_ret
        exact ⟨congrArg (fun e : Int => Ending.returned (Value.int .i64 e)) hF.out.symm, hb2.out⟩
      · have q1d : decide (xv < 1) = false := by simpa using q1
        by_cases q2 : view < xv
        · have q2d : decide (view < xv) = true := by simpa using q2
          have hE : Hid (entE view (decide (0 < k)) p ⟨xv, xd⟩ = 2) := by show _ = _; unfold entE; rw [if_pos (.inr q2)]
          have hL : Hid (logE view (log.map Em.val) false 0 = 2) := by show _ = _; rw [hst.out, hE.out]; simp
          have hF : Hid (logE view (log.map Em.val) false 0 = 2) := hL
          go_wp2_with fail
          go_ret
          exact ⟨congrArg (fun e : Int => Ending.returned (Value.int .i64 e)) hF.out.symm, hb2.out⟩
        · have q2d : decide (view < xv) = false := by simpa using q2
          have q12 : Hid (¬ (xv < 1 ∨ view < xv)) := fun h => h.elim q1 q2
          rcases Nat.eq_zero_or_pos k with h0 | h0
          · have hd0 : decide ((0 : Int) < (k : Int)) = false := by simp; omega
            have hd3 : decide (0 < k) = false := by simp; omega
            have hd1 : ¬ (0 : Int) < (k : Int) := by omega
            have hd4 : ¬ 0 < k := by omega
            replace h0 := Lib.hid h0
            by_cases q4 : 8198 < xd.length
            · have q4d : decide ((8198 : Int) < (xd.length : Int)) = true := by simp; omega
              have q4i : (8198 : Int) < (xd.length : Int) := by omega
              have hE : Hid (entE view (decide (0 < k)) p ⟨xv, xd⟩ = 3) := by show _ = _; unfold entE; rw [if_neg q12.out, if_neg (fun h => by rw [hd3] at h; exact absurd h.1 (by decide)), if_pos q4]
              have hL : Hid (logE view (log.map Em.val) false 0 = 3) := by show _ = _; rw [hst.out, hE.out]; simp
              have hF : Hid (logE view (log.map Em.val) false 0 = 3) := hL
              go_wp2_with fail
              go_quiet (fail)
              go_wp2_with fail
              go_ret
              exact ⟨congrArg (fun e : Int => Ending.returned (Value.int .i64 e)) hF.out.symm, (below_drewN hb2.out _)⟩
            · have q4d : decide ((8198 : Int) < (xd.length : Int)) = false := by simp; omega
              have q4i : ¬ (8198 : Int) < (xd.length : Int) := by omega
              have hE : Hid (entE view (decide (0 < k)) p ⟨xv, xd⟩ = 0) := by show _ = _; unfold entE; rw [if_neg q12.out, if_neg (fun h => by rw [hd3] at h; exact absurd h.1 (by decide)), if_neg q4]
              have hF : Hid (logE view (log.map Em.val) false 0 = logE view ((log.map Em.val).drop (k + 1)) (decide (0 < k + 1)) xv) := by show _ = _; rw [hst.out, hE.out]; simp
              go_wp2_with fail
              go_quiet (fail)
              go_wp2_with fail
              go_roundw
              case rel => exact ⟨k + 1, xv, by omega, by go_num, (hB2.out.drewN _), (below_drewN hb2.out _), hF.out, fun _ => ⟨hkl, by show xv = (log[k]).view; rw [hx.out]⟩⟩
              case measure => simp [intOf]; omega
          · have hd0 : decide ((0 : Int) < (k : Int)) = true := by simp; omega
            have hd3 : decide (0 < k) = true := by simp; omega
            have hd1 : (0 : Int) < (k : Int) := by omega
            have hm0 : (0 : Int) ≤ (k : Int) - 1 := by omega
            have hm1 : (k : Int) - 1 < (n : Int) := by omega
            obtain ⟨ad2, hA2, d0⟩ := hpv.out h0 (wr.alloc (.cells #[Value.int .i64 xv, Value.slice xA xd.length xc] 59)) hb2.out
            injection hA2 with hA2
            subst hA2
            by_cases q3 : xv < p
            · have q3d : decide (xv < p) = true := by simpa using q3
              have hE : Hid (entE view (decide (0 < k)) p ⟨xv, xd⟩ = 1) := by show _ = _; unfold entE; rw [if_neg q12.out, if_pos ⟨hd3, q3⟩]
              have hL : Hid (logE view (log.map Em.val) false 0 = 1) := by show _ = _; rw [hst.out, hE.out]; simp
              have hF : Hid (logE view (log.map Em.val) false 0 = 1) := hL
              go_wp2_with fail
              go_quiet (fail)
              go_wp2_with fail
              go_ret
              exact ⟨congrArg (fun e : Int => Ending.returned (Value.int .i64 e)) hF.out.symm, (below_drewN hb2.out _)⟩
            · have q3d : decide (xv < p) = false := by simpa using q3
              by_cases q4 : 8198 < xd.length
              · have q4d : decide ((8198 : Int) < (xd.length : Int)) = true := by simp; omega
                have q4i : (8198 : Int) < (xd.length : Int) := by omega
                have hE : Hid (entE view (decide (0 < k)) p ⟨xv, xd⟩ = 3) := by show _ = _; unfold entE; rw [if_neg q12.out, if_neg (fun h => q3 h.2), if_pos q4]
                have hL : Hid (logE view (log.map Em.val) false 0 = 3) := by show _ = _; rw [hst.out, hE.out]; simp
                have hF : Hid (logE view (log.map Em.val) false 0 = 3) := hL
                go_wp2_with fail
                go_quiet (fail)
                go_wp2_with fail
                go_ret
                exact ⟨congrArg (fun e : Int => Ending.returned (Value.int .i64 e)) hF.out.symm, (below_drewN hb2.out _)⟩
              · have q4d : decide ((8198 : Int) < (xd.length : Int)) = false := by simp; omega
                have q4i : ¬ (8198 : Int) < (xd.length : Int) := by omega
                have hE : Hid (entE view (decide (0 < k)) p ⟨xv, xd⟩ = 0) := by show _ = _; unfold entE; rw [if_neg q12.out, if_neg (fun h => q3 h.2), if_neg q4]
                have hF : Hid (logE view (log.map Em.val) false 0 = logE view ((log.map Em.val).drop (k + 1)) (decide (0 < k + 1)) xv) := by show _ = _; rw [hst.out, hE.out]; simp
                go_wp2_with fail
                go_quiet (fail)
                go_wp2_with fail
                go_roundw
                case rel => exact ⟨k + 1, xv, by omega, by go_num, (hB2.out.drewN _), (below_drewN hb2.out _), hF.out, fun _ => ⟨hkl, by show xv = (log[k]).view; rw [hx.out]⟩⟩
                case measure => simp [intOf]; omega
    · have hL0 : Hid (logE view (log.map Em.val) false 0 = 0) := by show _ = _; rw [hL.out, List.drop_eq_nil_of_le (by have := hl.out; simp; omega)]; rfl
      obtain ⟨k0, k1, k2⟩ := cells3 (wr) (w.heap.size) (Value.bool up) (Value.int .i64 view) (Value.slice A n c) (hB.out)
      have hF : Hid (logE view (log.map Em.val) false 0 = 0) := hL0
      go_wp2_with fail
      go_ret
      exact ⟨congrArg (fun e : Int => Ending.returned (Value.int .i64 e)) hF.out.symm, hb.out⟩
theorem serverE_2 (V : Int) (s : Sv) (h : s.view < 1 ∨ V < s.view) : serverE V s = 2 := by unfold serverE; rw [if_pos h]
theorem serverE_3 (V : Int) (s : Sv) (h : ¬ (s.view < 1 ∨ V < s.view)) (h2 : 4096 < s.log.length) : serverE V s = 3 := by unfold serverE; rw [if_neg h, if_pos h2]
theorem serverE_l (V : Int) (s : Sv) (h : ¬ (s.view < 1 ∨ V < s.view)) (h2 : ¬ 4096 < s.log.length) : serverE V s = logE s.view s.log false 0 := by unfold serverE; rw [if_neg h, if_neg h2]
set_option maxRecDepth 100000 in
set_option maxHeartbeats 8000000 in
theorem server_any (s : Sm) (V : Int) (w : World) {Q : Nat → Prop} (h : SmAt w Q s) (hn : s.n ≤ 5000) :
    Calls Try.prog 29 #[svV s, .int .i64 V] w fun e w' => e = .returned (.int .i64 (serverE V s.val)) ∧ Below w.heap.size w w' := by
  have hl := Lib.hid h.len
  have hat := Lib.hid h
  clear h
  obtain ⟨up, view, A, n, c, log⟩ := s
  simp only [svV, SmAt] at *
  have hB0 := Lib.hid (Blk.new w 47 #[Value.bool up, Value.int .i64 view, Value.slice A n c])
  have hb0 : Hid (Below w.heap.size w (w.alloc (.cells #[Value.bool up, Value.int .i64 view, Value.slice A n c] 47))) := a1 w _
  obtain ⟨k0, k1, k2⟩ := cells3 ((w.alloc (.cells #[Value.bool up, Value.int .i64 view, Value.slice A n c] 47))) (w.heap.size) (Value.bool up) (Value.int .i64 view) (Value.slice A n c) (hB0.out)
  have hl0 := Lib.hid hl.out
  by_cases p1 : view < 1
  · have p1d : decide (view < 1) = true := by simpa using p1
    have hF : Hid (serverE V (Sm.val ⟨up, view, A, n, c, log⟩) = 2) := serverE_2 _ _ (.inl p1)
    go_enter Try.func29, Try.ntmps29
    go_wp2_with fail
    go_ret
    exact ⟨congrArg (fun e : Int => Ending.returned (Value.int .i64 e)) hF.out.symm, hb0.out⟩
  have p1d : decide (view < 1) = false := by simpa using p1
  by_cases p2 : V < view
  · have p2d : decide (V < view) = true := by simpa using p2
    have hF : Hid (serverE V (Sm.val ⟨up, view, A, n, c, log⟩) = 2) := serverE_2 _ _ (.inr p2)
    go_enter Try.func29, Try.ntmps29
    go_wp2_with fail
    go_ret
    exact ⟨congrArg (fun e : Int => Ending.returned (Value.int .i64 e)) hF.out.symm, hb0.out⟩
  have p2d : decide (V < view) = false := by simpa using p2
  have p12 : Hid (¬ (view < 1 ∨ V < view)) := fun h => h.elim p1 p2
  by_cases p3 : 4096 < n
  · have p3d : decide ((4096 : Int) < (n : Int)) = true := by simp; omega
    have p3i : (4096 : Int) < (n : Int) := by omega
    have hF : Hid (serverE V (Sm.val ⟨up, view, A, n, c, log⟩) = 3) := serverE_3 _ _ p12.out (by show 4096 < (log.map Em.val).length; rw [List.length_map]; have := hl.out; omega)
    go_enter Try.func29, Try.ntmps29
    go_wp2_with fail
    go_ret
    exact ⟨congrArg (fun e : Int => Ending.returned (Value.int .i64 e)) hF.out.symm, hb0.out⟩
  have p3d : decide ((4096 : Int) < (n : Int)) = false := by simp; omega
  have p3i : ¬ (4096 : Int) < (n : Int) := by omega
  have hsv : Hid (serverE V ⟨up, view, log.map Em.val⟩ = logE view (log.map Em.val) false 0) := serverE_l _ _ p12.out (by show ¬ 4096 < (log.map Em.val).length; rw [List.length_map]; have := hl.out; omega)
  go_enter Try.func29, Try.ntmps29
  go_wp2_with fail
  clear k0 k1 k2
  generalize (w.alloc (.cells #[Value.bool up, Value.int .i64 view, Value.slice A n c] 47)) = w0 at *
  go_loopw [5] (fun i wr => ∃ (k : Nat) (p : Int), k ≤ n ∧ i = .int .i64 k ∧ Hid (Blk wr w.heap.size 47 #[Value.bool up, Value.int .i64 view, Value.slice A n c]) ∧ Hid (Below w.heap.size w wr) ∧ Hid (logE view (log.map Em.val) false 0 = logE view ((log.map Em.val).drop k) (decide (0 < k)) p) ∧ (0 < k → ∃ hk : k - 1 < log.length, p = (log[k - 1]).view)) (fun i _ => n - (intOf i).toNat)
  case atStart => exact ⟨0, 0, Nat.zero_le _, rfl, hB0.out, hb0.out, rfl, fun h => absurd h (Nat.lt_irrefl 0)⟩
  case round =>
    obtain ⟨k, p, hkn, rfl, hB, hb, hL, hp⟩ := hrel
    by_cases hlt : k < n
    · have hkl : k < log.length := by have := hl.out; omega
      have hk0 : (0 : Int) ≤ k := by omega
      have hk1 : (k : Int) < n := by omega
      obtain ⟨ad, hA, -, e0, e1⟩ := en_cells (hat.out.at_.below hb.out (Nat.le_refl _)) hlt
      have hst : Hid (logE view (log.map Em.val) false 0 = if entE view (decide (0 < k)) p (log[k]).val ≠ 0 then entE view (decide (0 < k)) p (log[k]).val else logE view ((log.map Em.val).drop (k + 1)) true (log[k]).view) := by
        show _ = _
        rw [hL.out, List.drop_eq_getElem_cons (by simpa using hkl), List.getElem_map]
        rfl
      have hln := (hat.out.els _ (List.getElem_mem hkl)).at_.len
      have hpv : Hid (0 < k → ∀ ad, A = some ad → ∀ wz, Below w.heap.size w wz → wz.cell? (ad.add ((k - 1) * 2)) = some (Value.int .i64 p)) := fun h0 ad' hA' wz hz => by
        obtain ⟨ad2, hA2, -, q, -⟩ := en_cells (hat.out.at_.below hz (Nat.le_refl _)) (show k - 1 < n by omega)
        rw [hA'] at hA2
        injection hA2 with hA2
        subst hA2
        obtain ⟨h1, h2⟩ := hp h0
        rw [q, h2]
      obtain ⟨x, hx⟩ : ∃ x, x = log[k] := ⟨_, rfl⟩
      rw [← hx] at e0 e1 hst hln
      obtain ⟨xv, xA, xn, xc, xd⟩ := x
      simp only at e0 e1 hln
      subst hln
      clear hp hL
      replace hst : Hid (logE view (log.map Em.val) false 0 = if entE view (decide (0 < k)) p ⟨xv, xd⟩ ≠ 0 then entE view (decide (0 < k)) p ⟨xv, xd⟩ else logE view ((log.map Em.val).drop (k + 1)) true xv) := hst.out
      replace hx : Hid (log[k] = ⟨xv, xA, xd.length, xc, xd⟩) := hx.symm
      replace hpv : Hid (0 < k → ∀ wz, Below w.heap.size w wz → ∃ ad, A = some ad ∧ wz.cell? (ad.add ((k - 1) * 2)) = some (Value.int .i64 p)) := fun h0 wz hz => ⟨ad, hA, hpv.out h0 ad hA wz hz⟩
      subst hA
      have hB2 := hB
      have hb2 := hb
      obtain ⟨k0, k1, k2⟩ := cells3 (wr) (w.heap.size) (Value.bool up) (Value.int .i64 view) (Value.slice (some ad) n c) (hB2.out)
      by_cases q1 : xv < 1
      · have q1d : decide (xv < 1) = true := by simpa using q1
        have hE : Hid (entE view (decide (0 < k)) p ⟨xv, xd⟩ = 2) := by show _ = _; unfold entE; rw [if_pos (.inl q1)]
        have hL : Hid (logE view (log.map Em.val) false 0 = 2) := by show _ = _; rw [hst.out, hE.out]; simp
        have hF : Hid (serverE V ⟨up, view, log.map Em.val⟩ = 2) := (hsv.out.trans hL.out)
        go_wp2_with fail
        go_quiet (fail)
        go_wp2_with fail
        go_ret
        exact ⟨congrArg (fun e : Int => Ending.returned (Value.int .i64 e)) hF.out.symm, (below_drewN hb2.out _)⟩
      · have q1d : decide (xv < 1) = false := by simpa using q1
        by_cases q2 : view < xv
        · have q2d : decide (view < xv) = true := by simpa using q2
          have hE : Hid (entE view (decide (0 < k)) p ⟨xv, xd⟩ = 2) := by show _ = _; unfold entE; rw [if_pos (.inr q2)]
          have hL : Hid (logE view (log.map Em.val) false 0 = 2) := by show _ = _; rw [hst.out, hE.out]; simp
          have hF : Hid (serverE V ⟨up, view, log.map Em.val⟩ = 2) := (hsv.out.trans hL.out)
          go_wp2_with fail
          go_quiet (fail)
          go_wp2_with fail
          go_ret
          exact ⟨congrArg (fun e : Int => Ending.returned (Value.int .i64 e)) hF.out.symm, (below_drewN hb2.out _)⟩
        · have q2d : decide (view < xv) = false := by simpa using q2
          have q12 : Hid (¬ (xv < 1 ∨ view < xv)) := fun h => h.elim q1 q2
          rcases Nat.eq_zero_or_pos k with h0 | h0
          · have hd0 : decide ((0 : Int) < (k : Int)) = false := by simp; omega
            have hd3 : decide (0 < k) = false := by simp; omega
            have hd1 : ¬ (0 : Int) < (k : Int) := by omega
            have hd4 : ¬ 0 < k := by omega
            replace h0 := Lib.hid h0
            by_cases q4 : 8198 < xd.length
            · have q4d : decide ((8198 : Int) < (xd.length : Int)) = true := by simp; omega
              have q4i : (8198 : Int) < (xd.length : Int) := by omega
              have hE : Hid (entE view (decide (0 < k)) p ⟨xv, xd⟩ = 3) := by show _ = _; unfold entE; rw [if_neg q12.out, if_neg (fun h => by rw [hd3] at h; exact absurd h.1 (by decide)), if_pos q4]
              have hL : Hid (logE view (log.map Em.val) false 0 = 3) := by show _ = _; rw [hst.out, hE.out]; simp
              have hF : Hid (serverE V ⟨up, view, log.map Em.val⟩ = 3) := (hsv.out.trans hL.out)
              go_wp2_with fail
              go_quiet (fail)
              go_wp2_with fail
              go_quiet (fail)
              go_wp2_with fail
              go_ret
              exact ⟨congrArg (fun e : Int => Ending.returned (Value.int .i64 e)) hF.out.symm, (by first | exact below_drewN hb2.out _ | exact (below_drewN (below_drewN hb2.out _) _))⟩
            · have q4d : decide ((8198 : Int) < (xd.length : Int)) = false := by simp; omega
              have q4i : ¬ (8198 : Int) < (xd.length : Int) := by omega
              have hE : Hid (entE view (decide (0 < k)) p ⟨xv, xd⟩ = 0) := by show _ = _; unfold entE; rw [if_neg q12.out, if_neg (fun h => by rw [hd3] at h; exact absurd h.1 (by decide)), if_neg q4]
              have hF : Hid (logE view (log.map Em.val) false 0 = logE view ((log.map Em.val).drop (k + 1)) (decide (0 < k + 1)) xv) := by show _ = _; rw [hst.out, hE.out]; simp
              go_wp2_with fail
              go_quiet (fail)
              go_wp2_with fail
              go_quiet (fail)
              go_wp2_with fail
              go_roundw
              case rel => exact ⟨k + 1, xv, by omega, by go_num, (by first | exact hB2.out.drewN _ | exact ((hB2.out.drewN _).drewN _)), (by first | exact below_drewN hb2.out _ | exact (below_drewN (below_drewN hb2.out _) _)), hF.out, fun _ => ⟨hkl, by show xv = (log[k]).view; rw [hx.out]⟩⟩
              case measure => simp [intOf]; omega
          · have hd0 : decide ((0 : Int) < (k : Int)) = true := by simp; omega
            have hd3 : decide (0 < k) = true := by simp; omega
            have hd1 : (0 : Int) < (k : Int) := by omega
            have hm0 : (0 : Int) ≤ (k : Int) - 1 := by omega
            have hm1 : (k : Int) - 1 < (n : Int) := by omega
            obtain ⟨ad2, hA2, d0⟩ := hpv.out h0 wr hb2.out
            injection hA2 with hA2
            subst hA2
            by_cases q3 : xv < p
            · have q3d : decide (xv < p) = true := by simpa using q3
              have hE : Hid (entE view (decide (0 < k)) p ⟨xv, xd⟩ = 1) := by show _ = _; unfold entE; rw [if_neg q12.out, if_pos ⟨hd3, q3⟩]
              have hL : Hid (logE view (log.map Em.val) false 0 = 1) := by show _ = _; rw [hst.out, hE.out]; simp
              have hF : Hid (serverE V ⟨up, view, log.map Em.val⟩ = 1) := (hsv.out.trans hL.out)
              go_wp2_with fail
              go_quiet (fail)
              go_wp2_with fail
              go_quiet (fail)
              go_wp2_with fail
              go_ret
              exact ⟨congrArg (fun e : Int => Ending.returned (Value.int .i64 e)) hF.out.symm, (by first | exact below_drewN hb2.out _ | exact (below_drewN (below_drewN hb2.out _) _))⟩
            · have q3d : decide (xv < p) = false := by simpa using q3
              by_cases q4 : 8198 < xd.length
              · have q4d : decide ((8198 : Int) < (xd.length : Int)) = true := by simp; omega
                have q4i : (8198 : Int) < (xd.length : Int) := by omega
                have hE : Hid (entE view (decide (0 < k)) p ⟨xv, xd⟩ = 3) := by show _ = _; unfold entE; rw [if_neg q12.out, if_neg (fun h => q3 h.2), if_pos q4]
                have hL : Hid (logE view (log.map Em.val) false 0 = 3) := by show _ = _; rw [hst.out, hE.out]; simp
                have hF : Hid (serverE V ⟨up, view, log.map Em.val⟩ = 3) := (hsv.out.trans hL.out)
                go_wp2_with fail
                go_quiet (fail)
                go_wp2_with fail
                go_quiet (fail)
                go_wp2_with fail
                go_ret
                exact ⟨congrArg (fun e : Int => Ending.returned (Value.int .i64 e)) hF.out.symm, (by first | exact below_drewN hb2.out _ | exact (below_drewN (below_drewN hb2.out _) _))⟩
              · have q4d : decide ((8198 : Int) < (xd.length : Int)) = false := by simp; omega
                have q4i : ¬ (8198 : Int) < (xd.length : Int) := by omega
                have hE : Hid (entE view (decide (0 < k)) p ⟨xv, xd⟩ = 0) := by show _ = _; unfold entE; rw [if_neg q12.out, if_neg (fun h => q3 h.2), if_neg q4]
                have hF : Hid (logE view (log.map Em.val) false 0 = logE view ((log.map Em.val).drop (k + 1)) (decide (0 < k + 1)) xv) := by show _ = _; rw [hst.out, hE.out]; simp
                go_wp2_with fail
                go_quiet (fail)
                go_wp2_with fail
                go_quiet (fail)
                go_wp2_with fail
                go_roundw
                case rel => exact ⟨k + 1, xv, by omega, by go_num, (by first | exact hB2.out.drewN _ | exact ((hB2.out.drewN _).drewN _)), (by first | exact below_drewN hb2.out _ | exact (below_drewN (below_drewN hb2.out _) _)), hF.out, fun _ => ⟨hkl, by show xv = (log[k]).view; rw [hx.out]⟩⟩
                case measure => simp [intOf]; omega
    · have hL0 : Hid (logE view (log.map Em.val) false 0 = 0) := by show _ = _; rw [hL.out, List.drop_eq_nil_of_le (by have := hl.out; simp; omega)]; rfl
      obtain ⟨k0, k1, k2⟩ := cells3 (wr) (w.heap.size) (Value.bool up) (Value.int .i64 view) (Value.slice A n c) (hB.out)
      have hF : Hid (serverE V ⟨up, view, log.map Em.val⟩ = 0) := hsv.out.trans hL0.out
      go_wp2_with fail
      go_ret
      exact ⟨congrArg (fun e : Int => Ending.returned (Value.int .i64 e)) hF.out.symm, hb.out⟩
end Go.Proofs.Ytiapeenfggjpnaa
