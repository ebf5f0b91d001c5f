/- Replicated servers: the small questions, walked. -/
import Derived.Test.YtiapeenfggjpnaaPA
set_option linter.unusedVariables false
set_option linter.unusedSimpArgs false
namespace Go.Proofs.Ytiapeenfggjpnaa
open Go.RowKit
def aheadM (a b : Sm) : Bool := if a.view ≠ b.view then decide (b.view < a.view) else decide (b.n ≤ a.n)
set_option maxRecDepth 100000 in
set_option maxHeartbeats 8000000 in
theorem ahead_any (a b : Sm) (w : World) :
    Calls Try.prog 41 #[svV a, svV b] w fun e w' => e = .returned (.bool (aheadM a b)) ∧ Below w.heap.size w w' := by
  obtain ⟨up, view, A, n, c, l⟩ := a
  obtain ⟨up2, view2, A2, n2, c2, l2⟩ := b
  simp only [svV]
  have hx := Lib.hid ((Blk.new w 47 #[Value.bool up, Value.int .i64 view, Value.slice A n c]).alloc (.cells #[Value.bool up2, Value.int .i64 view2, Value.slice A2 n2 c2] 47))
  have hy := Lib.hid (Blk.new (w.alloc (.cells #[Value.bool up, Value.int .i64 view, Value.slice A n c] 47)) 47 #[Value.bool up2, Value.int .i64 view2, Value.slice A2 n2 c2])
  have hb : Hid (Below w.heap.size w ((w.alloc (.cells #[Value.bool up, Value.int .i64 view, Value.slice A n c] 47)).alloc (.cells #[Value.bool up2, Value.int .i64 view2, Value.slice A2 n2 c2] 47))) := (a1 w _).alloc (by simp) _
  rw [show (w.alloc (.cells #[Value.bool up, Value.int .i64 view, Value.slice A n c] 47)).heap.size = w.heap.size + 1 by simp] at hy
  obtain ⟨k0, k1, k2⟩ := cells3 (((w.alloc (.cells #[Value.bool up, Value.int .i64 view, Value.slice A n c] 47)).alloc (.cells #[Value.bool up2, Value.int .i64 view2, Value.slice A2 n2 c2] 47))) (w.heap.size) (Value.bool up) (Value.int .i64 view) (Value.slice A n c) (hx.out)
  obtain ⟨m0, m1, m2⟩ := cells3 (((w.alloc (.cells #[Value.bool up, Value.int .i64 view, Value.slice A n c] 47)).alloc (.cells #[Value.bool up2, Value.int .i64 view2, Value.slice A2 n2 c2] 47))) ((w.heap.size + 1)) (Value.bool up2) (Value.int .i64 view2) (Value.slice A2 n2 c2) (hy.out)
  by_cases q : view = view2
  · have hF : Hid (aheadM ⟨up, view, A, n, c, l⟩ ⟨up2, view2, A2, n2, c2, l2⟩ = decide (n2 ≤ n)) := by show _ = _; unfold aheadM; rw [if_neg (by simpa using q)]
    have qd : (view != view2) = false := by simpa using q
    replace q := Lib.hid q
    go_enter Try.func41, Try.ntmps41
    go_wp2_with fail
    go_ret
    exact ⟨by rw [hF.out]; exact ret_bool (by simp), hb.out⟩
  · have hF : Hid (aheadM ⟨up, view, A, n, c, l⟩ ⟨up2, view2, A2, n2, c2, l2⟩ = decide (view2 < view)) := by show _ = _; unfold aheadM; rw [if_pos q]
    have qd : (view != view2) = true := by simpa using q
    go_enter Try.func41, Try.ntmps41
    go_wp2_with fail
    go_ret
    exact ⟨by rw [hF.out]; rfl, hb.out⟩
theorem anyServer_any (s : Sm) (w : World) :
    Calls Try.prog 40 #[svV s] w fun e w' => e = .returned (.bool true) ∧ Below w.heap.size w w' := by
  obtain ⟨up, view, A, n, c, l⟩ := s
  simp only [svV]
  have hb : Hid (Below w.heap.size w (w.alloc (.cells #[Value.bool up, Value.int .i64 view, Value.slice A n c] 47))) := a1 w _
  go_enter Try.func40, Try.ntmps40
  go_wp2_with fail
  go_ret
  exact ⟨rfl, hb.out⟩
theorem isUp_any (s : Sm) (w : World) :
    Calls Try.prog 47 #[svV s] w fun e w' => e = .returned (.bool s.up) ∧ Below w.heap.size w w' := by
  obtain ⟨up, view, A, n, c, l⟩ := s
  simp only [svV]
  have hx := Lib.hid (Blk.new w 47 #[Value.bool up, Value.int .i64 view, Value.slice A n c])
  have hb : Hid (Below w.heap.size w (w.alloc (.cells #[Value.bool up, Value.int .i64 view, Value.slice A n c] 47))) := a1 w _
  obtain ⟨k0, k1, k2⟩ := cells3 ((w.alloc (.cells #[Value.bool up, Value.int .i64 view, Value.slice A n c] 47))) (w.heap.size) (Value.bool up) (Value.int .i64 view) (Value.slice A n c) (hx.out)
  go_enter Try.func47, Try.ntmps47
  go_wp2_with fail
  go_ret
  exact ⟨rfl, hb.out⟩
set_option maxRecDepth 100000 in
set_option maxHeartbeats 8000000 in
theorem majority_any (k : Cm) (m : Nat) (w : World) (hn : k.n ≤ 7) :
    Calls Try.prog 43 #[clV k, .int .i64 m] w fun e w' => e = .returned (.bool (majN k.n m)) ∧ Below w.heap.size w w' := by
  obtain ⟨primary, view, commit, A, n, c, sl⟩ := k
  simp only [clV]
  simp only at hn
  have hx := Lib.hid (Blk.new w 24 #[Value.int .i64 primary, Value.int .i64 view, Value.int .i64 commit, Value.slice A n c])
  have hb : Hid (Below w.heap.size w (w.alloc (.cells #[Value.int .i64 primary, Value.int .i64 view, Value.int .i64 commit, Value.slice A n c] 24))) := a1 w _
  obtain ⟨k0, k1, k2, k3⟩ := cells4 ((w.alloc (.cells #[Value.int .i64 primary, Value.int .i64 view, Value.int .i64 commit, Value.slice A n c] 24))) (w.heap.size) (Value.int .i64 primary) (Value.int .i64 view) (Value.int .i64 commit) (Value.slice A n c) (hx.out)
  go_enter Try.func43, Try.ntmps43
  go_wp2_with fail
  go_ret
  have hF : majN n m = decide ((n : Int) / 2 + 1 ≤ (m : Int)) := by unfold majN; rw [decide_eq_decide]; omega
  exact ⟨by rw [hF]; rfl, hb.out⟩
def hasP (k : Cm) : Bool := decide (0 ≤ k.primary) && decide (k.primary < k.n)
set_option maxRecDepth 100000 in
set_option maxHeartbeats 8000000 in
theorem hasPrimary_any (k : Cm) (w : World) :
    Calls Try.prog 46 #[clV k] w fun e w' => e = .returned (.bool (hasP k)) ∧ Below w.heap.size w w' := by
  obtain ⟨primary, view, commit, A, n, c, sl⟩ := k
  simp only [clV]
  have hx := Lib.hid (Blk.new w 24 #[Value.int .i64 primary, Value.int .i64 view, Value.int .i64 commit, Value.slice A n c])
  have hb : Hid (Below w.heap.size w (w.alloc (.cells #[Value.int .i64 primary, Value.int .i64 view, Value.int .i64 commit, Value.slice A n c] 24))) := a1 w _
  obtain ⟨k0, k1, k2, k3⟩ := cells4 ((w.alloc (.cells #[Value.int .i64 primary, Value.int .i64 view, Value.int .i64 commit, Value.slice A n c] 24))) (w.heap.size) (Value.int .i64 primary) (Value.int .i64 view) (Value.int .i64 commit) (Value.slice A n c) (hx.out)
  by_cases q : 0 ≤ primary
  · have hF : Hid (hasP ⟨primary, view, commit, A, n, c, sl⟩ = decide (primary < (n : Int))) := by show _ = _; unfold hasP; simp [q]
    have qd : decide (0 ≤ primary) = true := by simpa using q
    go_enter Try.func46, Try.ntmps46
    go_wp2_with fail
    go_ret
    exact ⟨by rw [hF.out]; rfl, hb.out⟩
  · have hF : Hid (hasP ⟨primary, view, commit, A, n, c, sl⟩ = false) := by show _ = _; unfold hasP; simp [q]
    have qd : decide (0 ≤ primary) = false := by simpa using q
    go_enter Try.func46, Try.ntmps46
    go_wp2_with fail
    go_ret
    exact ⟨by rw [hF.out]; rfl, hb.out⟩
set_option maxRecDepth 100000 in
set_option maxHeartbeats 8000000 in
theorem countUp_any (k : Cm) (w : World) {Q : Nat → Prop} (h : CmAt w Q k) (hn : k.n ≤ 7) :
    Calls Try.prog 44 #[clV k] w fun e w' => e = .returned (.int .i64 (countUp (k.servers.map Sm.val))) ∧ Below w.heap.size w w' := by
  have hl := Lib.hid h.len
  have hat := Lib.hid h.at_
  clear h
  obtain ⟨primary, view, commit, A, n, c, sl⟩ := k
  simp only [clV] at *
  have hx0 := Lib.hid (Blk.new w 24 #[Value.int .i64 primary, Value.int .i64 view, Value.int .i64 commit, Value.slice A n c])
  have hb0 : Hid (Below w.heap.size w (w.alloc (.cells #[Value.int .i64 primary, Value.int .i64 view, Value.int .i64 commit, Value.slice A n c] 24))) := a1 w _
  obtain ⟨k0, k1, k2, k3⟩ := cells4 ((w.alloc (.cells #[Value.int .i64 primary, Value.int .i64 view, Value.int .i64 commit, Value.slice A n c] 24))) (w.heap.size) (Value.int .i64 primary) (Value.int .i64 view) (Value.int .i64 commit) (Value.slice A n c) (hx0.out)
  go_enter Try.func44, Try.ntmps44
  go_wp2_with fail
  go_loopw [9, 3] (fun i v wr => ∃ (k m : Nat), k ≤ n ∧ m ≤ k ∧ i = .int .i64 k ∧ v = .int .i64 m ∧ Hid (m = countUp ((sl.take k).map Sm.val)) ∧ Hid (Below w.heap.size w wr)) (fun i _ _ => n - (intOf i).toNat)
  case atStart => exact ⟨0, 0, Nat.zero_le _, Nat.le_refl _, rfl, rfl, rfl, hb0.out⟩
  case round =>
    obtain ⟨k, m, hkn, hmk, rfl, rfl, hm, hb⟩ := hrel
    by_cases hlt : k < n
    · have hkl : k < sl.length := by have := hl.out; omega
      have hk0 : (0 : Int) ≤ k := by omega
      have hk1 : (k : Int) < n := by omega
      obtain ⟨ad, hA, -, e0, e1, e2⟩ := sv_cells (hat.out.below hb.out (Nat.le_refl _)) hlt
      have hst : Hid (countUp ((sl.take (k + 1)).map Sm.val) = m + if (sl[k]).up then 1 else 0) := by
        show _ = _
        rw [hm.out, List.take_succ_eq_append_getElem hkl]
        unfold countUp
        rw [List.map_append, List.countP_append, List.map_cons, List.map_nil, List.countP_cons, List.countP_nil]
        cases hu : sl[k].up <;> simp [Sm.val, hu]
      generalize sl[k] = s at *
      obtain ⟨up, sview, sA, sn, sc, slog⟩ := s
      simp only at e0 e1 e2 hst
      subst hA
      have hy := Lib.hid (Blk.new wr 47 #[Value.bool up, Value.int .i64 sview, Value.slice sA sn sc])
      obtain ⟨m0, m1, m2⟩ := cells3 ((wr.alloc (.cells #[Value.bool up, Value.int .i64 sview, Value.slice sA sn sc] 47))) (wr.heap.size) (Value.bool up) (Value.int .i64 sview) (Value.slice sA sn sc) (hy.out)
      have hb2 : Hid (Below w.heap.size w (wr.alloc (.cells #[Value.bool up, Value.int .i64 sview, Value.slice sA sn sc] 47))) := hb.out.alloc hb.out.size _
      cases up with
      | true =>
        go_wp2_with fail
        go_roundw
        case rel => exact ⟨k + 1, m + 1, by omega, by omega, by go_num, by go_num, hst.out.symm, hb2.out⟩
        case measure => simp [intOf]; omega
      | false =>
        go_wp2_with fail
        go_roundw
        case rel => exact ⟨k + 1, m, by omega, by omega, by go_num, by go_num, hst.out.symm, hb2.out⟩
        case measure => simp [intOf]; omega
    · have hF : Hid (countUp (sl.map Sm.val) = m) := by show _ = _; rw [hm.out, List.take_of_length_le (by have := hl.out; omega)]
      go_wp2_with fail
      go_ret
      exact ⟨by rw [hF.out]; rfl, hb.out⟩
end Go.Proofs.Ytiapeenfggjpnaa
