/- Replicated servers: settled, walked. -/
import Derived.Test.YtiapeenfggjpnaaPN
set_option linter.unusedVariables false
set_option linter.unusedSimpArgs false
namespace Go.Proofs.Ytiapeenfggjpnaa
open Go.RowKit
/-- does Tick change nothing -/
def settledC (c : Cv) : Bool := match primOf c with
  | none => false
  | some p => decide (c.commit = p.log.length) && c.servers.all fun s => !s.up || (decide (s.view = c.view) && eqLog s.log p.log)
set_option maxRecDepth 100000 in
set_option maxHeartbeats 8000000 in
theorem settled_any (k : Cm) (w : World) {Q : Nat → Prop} (h : CmAt w Q k) (hs : CmSm2 k) (hp1 : k.primary < k.n) :
    Calls Try.prog 45 #[clV k] w fun e w' => e = .returned (.bool (settledC k.val)) ∧ Below w.heap.size w w' := by
  obtain ⟨r, hr⟩ : ∃ r, r = settledC k.val := ⟨_, rfl⟩
  rw [← hr]
  replace hr := Lib.hid hr
  have hl : Hid (k.servers.length = k.n) := h.len
  have hcm := Lib.hid h
  have hhp := Lib.hid (fun wz => hasPrimary_any k wz)
  obtain ⟨hn1, hn7, hsm⟩ := hs
  replace hsm := Lib.hid hsm
  obtain ⟨primary, view, commit, A, n, c, sl⟩ := k
  simp only [clV] at *
  have hx0 := Lib.hid (Blk.new w 24 #[Value.int .i64 primary, Value.int .i64 view, Value.int .i64 commit, Value.slice A n c])
  have hb0 : Hid (Below w.heap.size w (w.alloc (.cells #[Value.int .i64 primary, Value.int .i64 view, Value.int .i64 commit, Value.slice A n c] 24))) := a1 w _
  obtain ⟨k0, k1, k2, k3⟩ := cells4 ((w.alloc (.cells #[Value.int .i64 primary, Value.int .i64 view, Value.int .i64 commit, Value.slice A n c] 24))) (w.heap.size) (Value.int .i64 primary) (Value.int .i64 view) (Value.int .i64 commit) (Value.slice A n c) (hx0.out)
  by_cases q0 : primary < 0
  · have hF : Hid (r = false) := by
      show _ = _
      rw [hr.out]
      unfold settledC primOf
      rw [if_pos (show (Cm.val ⟨primary, view, commit, A, n, c, sl⟩).primary < 0 from q0)]
    have hh : hasP ⟨primary, view, commit, A, n, c, sl⟩ = false := by unfold hasP; rw [decide_eq_false (by simp only; omega)]; rfl
    rw [hh] at hhp
    clear hh
    go_enter Try.func45, Try.ntmps45
    go_wp2_with fail
    refine (hhp.out _).mono ?_; rintro e w5 ⟨rfl, hq⟩
    have hb5 := Lib.hid (hb0.out.trans (hq.mono hb0.out.size))
    clear hq hhp k0 k1 k2 k3
    go_wp2_with fail
    go_ret
    exact ⟨congrArg (fun e : Bool => Ending.returned (Value.bool e)) hF.out.symm, hb5.out⟩
  obtain ⟨pj, rfl⟩ : ∃ pj : Nat, primary = (pj : Int) := ⟨primary.toNat, by omega⟩
  have hpn : pj < n := by (try simp only at hp1); omega
  have hh : hasP ⟨(pj : Int), view, commit, A, n, c, sl⟩ = true := by unfold hasP; simp; omega
  rw [hh] at hhp
  clear hh
  have hpl : pj < sl.length := by have := hl.out; (try simp only at this); omega
  obtain ⟨p, hp⟩ : ∃ p, p = sl[pj] := ⟨_, rfl⟩
  have hpo : Hid (sl[pj]? = some p) := by show _ = _; rw [List.getElem?_eq_getElem hpl, hp]
  have hps := Lib.hid (hcm.out.els p (List.mem_of_getElem? hpo.out))
  have hpm := Lib.hid (hsm.out p (List.mem_of_getElem? hpo.out))
  obtain ⟨ad, hA, -, -, -, -⟩ := sv_cells h.at_ hpn
  (try simp only at hA)
  have hpc : Hid (∀ wz, Below w.heap.size w wz → wz.cell? (ad.add (pj * 3)) = some (Value.bool p.up) ∧ wz.cell? ⟨(ad.add (pj * 3)).block, (ad.add (pj * 3)).off + 1, none⟩ = some (Value.int .i64 p.view) ∧ wz.cell? ⟨(ad.add (pj * 3)).block, (ad.add (pj * 3)).off + 2, none⟩ = some (Value.slice p.A p.n p.c)) := fun wz hz => by
    obtain ⟨ad', hA', -, q⟩ := sv_cells (hcm.out.at_.below hz (Nat.le_refl _)) hpn
    (try simp only at hA')
    rw [hA] at hA'
    injection hA' with hA'
    subst hA'
    rw [← hp] at q
    exact q
  clear hp h
  subst hA
  obtain ⟨pu, pv, pA, pn, pc, pl⟩ := p
  (try simp only at hpc hpm)
  have hrS : Hid (r = (decide (commit = (pn : Int)) && (sl.map Sm.val).all (fun s : Sv => !s.up || (decide (s.view = view) && eqLog s.log (pl.map Em.val))))) := by
    show _ = _
    rw [hr.out]
    unfold settledC
    rw [primOf_at _ pj _ rfl hpo.out]
    show (decide (commit = ((pl.map Em.val).length : Int)) && _) = _
    rw [List.length_map, show pl.length = pn from hps.out.len]
    rfl
  clear hr
  have hp0 : (0 : Int) ≤ pj := by omega
  have hp1' : (pj : Int) < n := by omega
  go_enter Try.func45, Try.ntmps45
  go_wp2_with fail
  refine (hhp.out _).mono ?_; rintro e w5 ⟨rfl, hq⟩
  have hX5 := Lib.hid (hx0.out.below hq hx0.out.lt)
  have hb5 := Lib.hid (hb0.out.trans (hq.mono hb0.out.size))
  clear hq hhp k0 k1 k2 k3 hx0 hb0
  obtain ⟨e0, e1, e2⟩ := hpc.out w5 hb5.out
  have hP6 := Lib.hid (Blk.new w5 47 #[Value.bool pu, Value.int .i64 pv, Value.slice pA pn pc])
  have hX6 := Lib.hid (hX5.out.alloc (.cells #[Value.bool pu, Value.int .i64 pv, Value.slice pA pn pc] 47))
  have hb6 : Hid (Below w.heap.size w (w5.alloc (.cells #[Value.bool pu, Value.int .i64 pv, Value.slice pA pn pc] 47))) := hb5.out.alloc hb5.out.size _
  obtain ⟨k0, k1, k2, k3⟩ := cells4 (w5) (w.heap.size) (Value.int .i64 (pj : Int)) (Value.int .i64 view) (Value.int .i64 commit) (Value.slice (some ad) n c) (hX5.out)
  obtain ⟨m0, m1, m2, m3⟩ := cells4 ((w5.alloc (.cells #[Value.bool pu, Value.int .i64 pv, Value.slice pA pn pc] 47))) (w.heap.size) (Value.int .i64 (pj : Int)) (Value.int .i64 view) (Value.int .i64 commit) (Value.slice (some ad) n c) (hX6.out)
  obtain ⟨q0, q1, q2⟩ := cells3 ((w5.alloc (.cells #[Value.bool pu, Value.int .i64 pv, Value.slice pA pn pc] 47))) (w5.heap.size) (Value.bool pu) (Value.int .i64 pv) (Value.slice pA pn pc) (hP6.out)
  by_cases q1 : commit = (pn : Int)
  · subst q1
    have q1d : ((pn : Int) != (pn : Int)) = false := by simp
    have hrS2 : Hid (r = (sl.map Sm.val).all (fun s : Sv => !s.up || (decide (s.view = view) && eqLog s.log (pl.map Em.val)))) := by show _ = _; rw [hrS.out]; simp
    clear hrS
    go_wp2_with fail
    clear k0 k1 k2 k3 m0 m1 m2 m3 q0 q1 q2 e0 e1 e2 hX5 hb5
    obtain ⟨gp, hgp⟩ : ∃ gp, gp = w5.heap.size := ⟨_, rfl⟩
    rw [← hgp] at hP6 ⊢
    replace hgp := Lib.hid hgp
    generalize (w5.alloc (.cells #[Value.bool pu, Value.int .i64 pv, Value.slice pA pn pc] 47)) = w6 at *
    go_loopw [24] (fun i wr => ∃ k : Nat, k ≤ n ∧ i = .int .i64 k ∧ Hid (Blk wr w.heap.size 24 #[Value.int .i64 (pj : Int), Value.int .i64 view, Value.int .i64 (pn : Int), Value.slice (some ad) n c]) ∧ Hid (Blk wr gp 47 #[Value.bool pu, Value.int .i64 pv, Value.slice pA pn pc]) ∧ Hid (Below w.heap.size w wr) ∧ Hid (r = ((sl.map Sm.val).drop k).all (fun s : Sv => !s.up || (decide (s.view = view) && eqLog s.log (pl.map Em.val))))) (fun i _ => n - (intOf i).toNat)
    case atStart => exact ⟨0, Nat.zero_le _, rfl, hX6.out, hP6.out, hb6.out, hrS2.out⟩
    case round =>
      clear hX6 hP6 hb6 hrS2
      obtain ⟨k, hkn, rfl, hX, hP, hb, hL⟩ := hrel
      by_cases hlt : k < n
      · have hkl : k < sl.length := by have := hl.out; (try simp only at this); omega
        have hk0 : (0 : Int) ≤ k := by omega
        have hk1 : (k : Int) < n := by omega
        obtain ⟨ad', hA', -, e0, e1, e2⟩ := sv_cells (hcm.out.at_.below hb.out (Nat.le_refl _)) hlt
        (try simp only at hA')
        injection hA' with hA'
        subst hA'
        obtain ⟨x, hx⟩ : ∃ x, x = sl[k] := ⟨_, rfl⟩
        rw [← hx] at e0 e1 e2
        have hst : Hid (r = ((!x.up || (decide (x.view = view) && eqLog (x.log.map Em.val) (pl.map Em.val))) && ((sl.map Sm.val).drop (k + 1)).all (fun s : Sv => !s.up || (decide (s.view = view) && eqLog s.log (pl.map Em.val))))) := by
          show _ = _
          rw [hL.out, List.drop_eq_getElem_cons (by simpa using hkl), List.getElem_map, ← hx, List.all_cons]
          rfl
        have hxs := Lib.hid (hcm.out.els x (by rw [hx]; exact List.getElem_mem hkl))
        have hxm := Lib.hid (hsm.out x (by rw [hx]; exact List.getElem_mem hkl))
        have hxp : Hid (k = pj → x.log = pl) := fun e => by
          subst e
          have := hpo.out
          rw [List.getElem?_eq_getElem hkl, ← hx] at this
          injection this with this
          rw [this]
        clear hx hL
        obtain ⟨xu, xv, xA, xn, xc, xl⟩ := x
        (try simp only at e0 e1 e2 hst hxm hxp)
        have hy := Lib.hid (Blk.new wr 47 #[Value.bool xu, Value.int .i64 xv, Value.slice xA xn xc])
        have hX2 := Lib.hid (hX.out.alloc (.cells #[Value.bool xu, Value.int .i64 xv, Value.slice xA xn xc] 47))
        have hP2 := Lib.hid (hP.out.alloc (.cells #[Value.bool xu, Value.int .i64 xv, Value.slice xA xn xc] 47))
        have hb2 : Hid (Below w.heap.size w (wr.alloc (.cells #[Value.bool xu, Value.int .i64 xv, Value.slice xA xn xc] 47))) := hb.out.alloc hb.out.size _
        obtain ⟨k0, k1, k2, k3⟩ := cells4 ((wr.alloc (.cells #[Value.bool xu, Value.int .i64 xv, Value.slice xA xn xc] 47))) (w.heap.size) (Value.int .i64 (pj : Int)) (Value.int .i64 view) (Value.int .i64 (pn : Int)) (Value.slice (some ad) n c) (hX2.out)
        obtain ⟨q0, q1, q2⟩ := cells3 ((wr.alloc (.cells #[Value.bool xu, Value.int .i64 xv, Value.slice xA xn xc] 47))) (gp) (Value.bool pu) (Value.int .i64 pv) (Value.slice pA pn pc) (hP2.out)
        obtain ⟨y0, y1, y2⟩ := cells3 ((wr.alloc (.cells #[Value.bool xu, Value.int .i64 xv, Value.slice xA xn xc] 47))) (wr.heap.size) (Value.bool xu) (Value.int .i64 xv) (Value.slice xA xn xc) (hy.out)
        clear hX hP hb hy
        cases xu with
        | false =>
          have hS : Hid (r = ((sl.map Sm.val).drop (k + 1)).all (fun s : Sv => !s.up || (decide (s.view = view) && eqLog s.log (pl.map Em.val)))) := by show _ = _; rw [hst.out]; simp
          go_wp2_with fail
          go_roundw
          case rel => exact ⟨k + 1, by omega, by go_num, hX2.out, hP2.out, hb2.out, hS.out⟩
          case measure => simp [intOf]; omega
        | true =>
          by_cases r1 : xv = view
          · subst r1
            have r1d : (xv != xv) = false := by simp
            by_cases r2 : k = pj
            · have r2d : ((k : Int) != (pj : Int)) = false := by simp; omega
              have hS : Hid (r = ((sl.map Sm.val).drop (k + 1)).all (fun s : Sv => !s.up || (decide (s.view = xv) && eqLog s.log (pl.map Em.val)))) := by
                show _ = _
                rw [hst.out, hxp.out r2, show eqLog (pl.map Em.val) (pl.map Em.val) = true from (eqLog_iff _ _).2 rfl]
                simp
              replace r2 := Lib.hid r2
              go_wp2_with fail
              go_roundw
              case rel => exact ⟨k + 1, by omega, by go_num, hX2.out, hP2.out, hb2.out, hS.out⟩
              case measure => simp [intOf]; omega
            · have r2d : ((k : Int) != (pj : Int)) = true := by simp; omega
              have hsl := Lib.hid (sameLogP_any xA pA xn xc pn pc xl pl (wr.alloc (.cells #[Value.bool true, Value.int .i64 xv, Value.slice xA xn xc] 47)) (LogAt.more hxs.out hb2.out) (LogAt.more hps.out hb2.out) hxm.out.1)
              obtain ⟨bb, hbb⟩ : ∃ bb, bb = eqLog (xl.map Em.val) (pl.map Em.val) := ⟨_, rfl⟩
              rw [← hbb] at hst hsl
              clear hbb
              go_wp2_with fail
              refine hsl.out.mono ?_; rintro e w7 ⟨rfl, hq⟩
              have hX7 := Lib.hid (hX2.out.below hq hX2.out.lt)
              have hP7 := Lib.hid (hP2.out.below hq hP2.out.lt)
              have hb7 := Lib.hid (hb2.out.trans (hq.mono hb2.out.size))
              clear hq hsl k0 k1 k2 k3 q0 q1 q2 y0 y1 y2
              cases bb with
              | true =>
                have hS : Hid (r = ((sl.map Sm.val).drop (k + 1)).all (fun s : Sv => !s.up || (decide (s.view = xv) && eqLog s.log (pl.map Em.val)))) := by show _ = _; rw [hst.out]; simp
                go_wp2_with fail
                go_roundw
                case rel => exact ⟨k + 1, by omega, by go_num, hX7.out, hP7.out, hb7.out, hS.out⟩
                case measure => simp [intOf]; omega
              | false =>
                have hF : Hid (r = false) := by show _ = _; rw [hst.out]; simp
                go_wp2_with fail
                go_ret
                exact ⟨congrArg (fun e : Bool => Ending.returned (Value.bool e)) hF.out.symm, hb7.out⟩
          · have r1d : (xv != view) = true := by simpa using r1
            have hF : Hid (r = false) := by show _ = _; rw [hst.out, decide_eq_false r1]; rfl
            go_wp2_with fail
            go_ret
            exact ⟨congrArg (fun e : Bool => Ending.returned (Value.bool e)) hF.out.symm, hb2.out⟩
      · have hF : Hid (r = true) := by show _ = _; rw [hL.out, List.drop_eq_nil_of_le (by have := hl.out; (try simp only at this); simp; omega)]; rfl
        go_wp2_with fail
        go_ret
        exact ⟨congrArg (fun e : Bool => Ending.returned (Value.bool e)) hF.out.symm, hb.out⟩
  · have q1d : (commit != (pn : Int)) = true := by simpa using q1
    have hF : Hid (r = false) := by show _ = _; rw [hrS.out, decide_eq_false q1]; rfl
    go_wp2_with fail
    go_ret
    exact ⟨congrArg (fun e : Bool => Ending.returned (Value.bool e)) hF.out.symm, hb6.out⟩
end Go.Proofs.Ytiapeenfggjpnaa
