/- Orders: Valid, walked. -/
import Derived.Test.YtpejfnfhbpckiaaOC
set_option linter.unusedVariables false
set_option linter.unusedSimpArgs false
namespace Go.Proofs.Ytpejfnfhbpckiaa
open Go.RowKit Go.Proofs.Ytpejfnfhbpckiaa.Ord
theorem vF_stepOC (name : ByteArray → Bool) (l : List O) (f k : Nat) : vF name l (f + 1) k = if chkAt name l k = 0 then vF name l f (k + 1) else chkAt name l k := rfl
set_option maxRecDepth 100000 in
set_option maxHeartbeats 1000000 in
theorem valid_any (A : Option Addr) (l : List O) (n cap : Nat) (w : World) (h : OAt w w.heap.size A n l) (hc : n ≤ cap) (hm : cap ≤ maxLen) :
    Calls Try.prog 10 #[.slice A n cap] w fun e w' => e = .returned (.int .i64 (valid nameB l)) ∧ Below w.heap.size w w' := by
  have hm' : cap ≤ 2 ^ 63 - 1 := hm
  have hn := Lib.hid h.len
  replace h := Lib.hid h
  by_cases hlen : n ≤ 64
  · have hv : Hid (valid nameB l = vF nameB l n 0) := by show _ = _; rw [valid, if_neg (by rw [hn.out]; omega), hn.out]
    have hd : decide ((64 : Int) < n) = false := by simp; omega
    go_enter Try.func10, Try.ntmps10
    go_wp2_with fail
    go_loopw [10] (fun i wr => ∃ k : Nat, k ≤ n ∧ i = .int .i64 k ∧ Hid (Below w.heap.size w wr) ∧ Hid (valid nameB l = vF nameB l (n - k) k)) (fun i _ => n - (intOf i).toNat)
    case atStart => exact ⟨0, Nat.zero_le _, rfl, Below.refl _ _, hv.out⟩
    case round =>
      obtain ⟨k, hk, rfl, hb, hx⟩ := hrel
      clear hv
      by_cases hlt : k < n
      · have hst : Hid (valid nameB l = if chkAt nameB l k = 0 then vF nameB l (n - (k + 1)) (k + 1) else chkAt nameB l k) := by
          show _ = _
          rw [hx.out, show n - k = (n - (k + 1)) + 1 by omega, vF_stepOC]
        clear hx
        generalize hck : chkAt nameB l k = ck at *
        replace hck := Lib.hid hck
        by_cases h0 : ck = 0
        · have hF : Hid (valid nameB l = vF nameB l (n - (k + 1)) (k + 1)) := by show _ = _; rw [hst.out, if_pos h0]
          have hd0 : (ck != 0) = false := by simpa using h0
          replace h0 := Lib.hid h0
          go_wp2_with fail
          refine (check_any A l n cap k _ (h.out.more hb.out) hc hm hlt).mono ?_; rintro e w1 ⟨rfl, hb1⟩
          rw [hck.out]
          replace hb1 : Hid (Below w.heap.size w w1) := hb.out.trans (hb1.mono hb.out.size)
          go_wp2_with fail
          go_roundw
          case rel => exact ⟨k + 1, by omega, by go_num, hb1.out, hF⟩
          case measure => simp [intOf]; omega
        · have hF : Hid (valid nameB l = ck) := by show _ = _; rw [hst.out, if_neg h0]
          have hd0 : (ck != 0) = true := by simpa using h0
          replace h0 := Lib.hid h0
          go_wp2_with fail
          refine (check_any A l n cap k _ (h.out.more hb.out) hc hm hlt).mono ?_; rintro e w1 ⟨rfl, hb1⟩
          rw [hck.out]
          replace hb1 : Hid (Below w.heap.size w w1) := hb.out.trans (hb1.mono hb.out.size)
          go_wp2_with fail
          go_ret
          exact ⟨ret_int hF.out.symm, hb1.out⟩
      · have hF : Hid (valid nameB l = 0) := by show _ = _; rw [hx.out, show n - k = 0 by omega]; rfl
        go_wp2_with fail
        go_ret
        exact ⟨ret_int hF.out.symm, hb.out⟩
  · have hv : Hid (valid nameB l = 3) := by show _ = _; rw [valid, if_pos (by rw [hn.out]; omega)]
    have hd : decide ((64 : Int) < n) = true := by simp; omega
    go_enter Try.func10, Try.ntmps10
    go_wp2_with fail
    go_ret
    exact ⟨ret_int hv.out.symm, Below.refl _ _⟩
end Go.Proofs.Ytpejfnfhbpckiaa
