/- Orders: the law of Valid, walked. -/
import Derived.Test.YtpejfnfhbpckiaaOM
import Derived.Test.YtpejfnfhbpckiaaOF
set_option linter.unusedVariables false
set_option linter.unusedSimpArgs false
namespace Go.Proofs.Ytpejfnfhbpckiaa
open Go.RowKit Go.Proofs.Ytpejfnfhbpckiaa.Ord
set_option maxRecDepth 100000 in
set_option maxHeartbeats 4000000 in
theorem lawValid (A : Option Addr) (l : List O) (n cap : Nat) (w : World) (h : OAt w w.heap.size A n l) (hc : n ≤ cap) (hm : cap ≤ maxLen) :
    Calls Try.prog 3 #[.slice A n cap] w fun e w' => e = .returned (.bool true) ∧ Below w.heap.size w w' := by
  have hm' : cap ≤ 2 ^ 63 - 1 := hm
  replace h := Lib.hid h
  cases hlong : longR 0 l with
  | true =>
    replace hlong := Lib.hid hlong
    go_enter Try.func3, Try.ntmps3
    go_wp2_with fail
    refine (longList_any A l n cap _ h.out (Nat.le_trans hc hm)).mono ?_; rintro e w1 ⟨rfl, hb1⟩
    rw [hlong.out]
    replace hb1 := Lib.hid hb1
    go_wp2_with fail
    refine (example_any _).mono ?_; rintro e wx ⟨rfl, hbx⟩
    go_wp2_with fail
    go_ret
    exact ⟨rfl, hb1.out.trans (hbx.mono hb1.out.size)⟩
  | false =>
    replace hlong := Lib.hid hlong
    obtain ⟨vv, hv⟩ : ∃ vv, valid nameB l = vv := ⟨_, rfl⟩
    replace hv := Lib.hid hv
    go_enter Try.func3, Try.ntmps3
    go_wp2_with fail
    refine (longList_any A l n cap _ h.out (Nat.le_trans hc hm)).mono ?_; rintro e w1 ⟨rfl, hb1⟩
    rw [hlong.out]
    replace hb1 := Lib.hid hb1
    go_wp2_with fail
    refine (valid_any A l n cap _ (h.out.more hb1.out) hc hm).mono ?_; rintro e w2 ⟨rfl, hb2⟩
    rw [hv.out]
    replace hb2 : Hid (Below w.heap.size w w2) := hb1.out.trans (hb2.mono hb1.out.size)
    go_wp2_with fail
    refine (rvalid_any A l n cap _ (h.out.more hb2.out) hc hm).mono ?_; rintro e w3 ⟨rfl, hb3⟩
    rw [hv.out]
    replace hb3 : Hid (Below w.heap.size w w3) := hb2.out.trans (hb3.mono hb2.out.size)
    go_wp2_with fail
    refine (example_any _).mono ?_; rintro e wx ⟨rfl, hbx⟩
    go_wp2_with fail
    go_ret
    exact ⟨ret_bool (by simp), hb3.out.trans (hbx.mono hb3.out.size)⟩
end Go.Proofs.Ytpejfnfhbpckiaa
