/- Invoices: currencies and times, walked. -/
import Derived.Test.YtbngclibfnnejaaDoorIA
import Derived.Test.YtbngclibfnnejaaDoorMb
import Derived.Test.YtbngclibfnnejaaDoorId
set_option linter.unusedVariables false
set_option linter.unusedSimpArgs false
namespace Go.Proofs.YtbngclibfnnejaaDoor
open Go.RowKit
def capl (c : Nat) : Bool := decide (65 ≤ c) && decide (c ≤ 90)
def curR (s : ByteArray) (k : Nat) : Bool := (s.data.toList.drop k).all fun c => capl c.toNat
theorem cur_rest (s : ByteArray) (h : s.size = 3) : curB s = curR s 0 := by unfold curB curR capl; simp [h]
theorem curR_step (s : ByteArray) (k : Nat) (h : k < s.size) : curR s k = (capl (s[k]'h).toNat && curR s (k + 1)) := by
  unfold curR
  rw [List.drop_eq_getElem_cons (show k < s.data.toList.length by simpa using h), List.all_cons]
  rfl
theorem curR_end (s : ByteArray) (k : Nat) (h : ¬ k < s.size) : curR s k = true := by
  unfold curR
  rw [List.drop_of_length_le (show s.data.toList.length ≤ k by simpa using h)]
  rfl
set_option maxRecDepth 100000 in
set_option maxHeartbeats 4000000 in
theorem cur_any (s : ByteArray) (w : World) : Calls Tryd.prog 28 #[.string s] w fun e w' => e = .returned (.bool (curB s)) ∧ Below w.heap.size w w' := by
  by_cases h3 : s.size = 3
  · have hnr := Lib.hid (cur_rest s h3)
    have h3d : ((s.size : Int) != 3) = false := by simp; omega
    have hit : ∀ k, Below w.heap.size w (w.iter s k) := fun k => (Below.refl _ w).alloc (Nat.le_refl _) _
    replace hit := Lib.hid hit
    have h33 : s.size ≤ 3 := by omega
    replace h3 := Lib.hid h3
    go_enter Tryd.func28, Tryd.ntmps28
    go_wp2_with fail
    go_loopw [4] (fun _ wr => ∃ k : Nat, k ≤ s.size ∧ wr = w.iter s k ∧ Hid (curB s = curR s k)) (fun _ wr => s.size - wr.iterPos w.heap.size)
    case atStart => exact ⟨0, Nat.zero_le _, rfl, hnr.out⟩
    case round =>
      obtain ⟨k, hk, rfl, hx⟩ := hrel
      by_cases hlt : k < s.size
      · obtain ⟨x1, x2⟩ := byte_lt (s[k]'hlt)
        have hst := Lib.hid (curR_step s k hlt)
        by_cases ha : (s[k]'hlt).toNat < 128
        · have hnx := fun ty => run_next_ascii (P := Tryd.prog) w s k ty hlt ha
          by_cases c1 : 65 ≤ (s[k]'hlt).toNat
          · have d1 : decide (((s[k]'hlt).toNat : Int) < 65) = false := by simp; omega
            by_cases c2 : (s[k]'hlt).toNat ≤ 90
            · have d2 : decide ((90 : Int) < ((s[k]'hlt).toNat : Int)) = false := by simp; omega
              have hn : Hid (curB s = curR s (k + 1)) := by show _ = _; rw [hx.out, hst.out]; simp [capl, c1, c2]
              go_wp2_with fail
              go_roundw
              case rel => exact ⟨k + 1, by omega, rfl, hn⟩
              case measure => simp; omega
            · have d2 : decide ((90 : Int) < ((s[k]'hlt).toNat : Int)) = true := by simp; omega
              have hn : Hid (curB s = false) := by show _ = _; rw [hx.out, hst.out]; simp [capl, c2]
              go_wp2_with fail
              go_ret
              exact ⟨by rw [hn.out]; rfl, hit.out _⟩
          · have d1 : decide (((s[k]'hlt).toNat : Int) < 65) = true := by simp; omega
            have hn : Hid (curB s = false) := by show _ = _; rw [hx.out, hst.out]; simp [capl, c1]
            go_wp2_with fail
            go_ret
            exact ⟨by rw [hn.out]; rfl, hit.out _⟩
        · have hnx := fun ty => run_next_any (P := Tryd.prog) w s k ty hlt
          have hde := (decode_high s k hlt (by omega)).1
          have hle := decode_le s k
          have hnh : Hid (curB s = false) := by
            show _ = _
            rw [hx.out, hst.out]
            have : ¬ (s[k]'hlt).toNat ≤ 90 := by omega
            simp [capl, this]
          generalize (Utf8.decode s k).1 = dr at *
          generalize (Utf8.decode s k).2 = dn at *
          have d1 : decide ((dr : Int) < 65) = false := by simp; omega
          have d2 : decide ((90 : Int) < (dr : Int)) = true := by simp; omega
          go_wp2_with fail
          go_ret
          exact ⟨by rw [hnh.out]; rfl, hit.out _⟩
      · have hn : Hid (curB s = true) := by show _ = _; rw [hx.out]; exact curR_end s k hlt
        have hnx := fun ty => run_next_end (P := Tryd.prog) w s k ty hlt
        go_wp2_with fail
        go_ret
        exact ⟨by rw [hn.out]; rfl, hit.out _⟩
  · have hn : Hid (curB s = false) := by show _ = _; simp [curB, h3]
    have h3d : ((s.size : Int) != 3) = true := by simp; omega
    go_enter Tryd.func28, Tryd.ntmps28
    go_wp2_with fail
    go_ret
    exact ⟨by rw [hn.out]; rfl, Below.refl _ _⟩
set_option maxRecDepth 100000 in
set_option maxHeartbeats 4000000 in
theorem inTime_any (A : Option Addr) (n c : Nat) (L : List Im) (t : Int) (w : World) (h : LAt ivC 9 w w.heap.size A n L) (hn : n ≤ 100000) : Calls Tryd.prog 29 #[.agg #[.slice A n c], .int .i64 t] w fun e w' => e = .returned (.bool (!(lateB (L.map Im.val) t))) ∧ Below w.heap.size w w' := by
  have hl := h.len
  have hx := Lib.hid (Blk.new w 95 #[Value.slice A n c])
  have hb : Hid (Below w.heap.size w (w.alloc (.cells #[Value.slice A n c] 95))) := a1 w _
  have k0 : ((w.alloc (.cells #[Value.slice A n c] 95))).cell? ⟨w.heap.size, 0, none⟩ = some (Value.slice A n c) := (hx.out).cell 0
  by_cases q1 : t < 0
  · have hF : Hid (lateB (L.map Im.val) t = true) := by show _ = _; unfold lateB; simp [q1]
    have d1 : decide (t < 0) = true := by simpa using q1
    go_enter Tryd.func29, Tryd.ntmps29
    go_wp2_with fail
    go_ret
    exact ⟨by rw [hF.out]; rfl, hb.out⟩
  have d1 : decide (t < 0) = false := by simpa using q1
  by_cases q2 : 268435456 < t
  · have hF : Hid (lateB (L.map Im.val) t = true) := by show _ = _; unfold lateB; simp [q2]
    have d2 : decide (268435456 < t) = true := by simpa using q2
    go_enter Tryd.func29, Tryd.ntmps29
    go_wp2_with fail
    go_ret
    exact ⟨by rw [hF.out]; rfl, hb.out⟩
  have d2 : decide (268435456 < t) = false := by simpa using q2
  by_cases q3 : n = 0
  · subst q3
    obtain rfl : L = [] := List.eq_nil_of_length_eq_zero hl
    rw [List.map_nil]
    have hF : Hid (lateB [] t = false) := by show _ = _; rw [late_nil, d1, d2]; rfl
    clear h
    replace q1 := Lib.hid q1
    replace q2 := Lib.hid q2
    go_enter Tryd.func29, Tryd.ntmps29
    go_wp2_with fail
    go_ret
    exact ⟨by rw [hF.out]; rfl, hb.out⟩
  obtain ⟨m, rfl⟩ : ∃ m, n = m + 1 := ⟨n - 1, by omega⟩
  have hm0 : (0 : Int) ≤ m := by omega
  have hm1 : (m : Int) < (m : Int) + 1 := by omega
  obtain ⟨ad, hA, -, e0, e1, e2, e3, e4, e5, e6, e7, e8⟩ := iv_cells (h.below hb.out (Nat.le_refl _)) (show m < m + 1 by omega)
  have hml : m < L.length := by omega
  have hF : Hid (lateB (L.map Im.val) t = decide (t < L[m].at_)) := by
    show _ = _
    rw [late_last (o := L[m].val) t (by rw [List.length_map, hl, Nat.add_sub_cancel, List.getElem?_map, List.getElem?_eq_getElem hml]; rfl), d1, d2]
    rfl
  generalize L[m].at_ = ta at *
  subst hA
  clear e0 e1 e2 e4 e5 e6 e7 e8 h hl
  replace q1 := Lib.hid q1
  replace q2 := Lib.hid q2
  replace q3 := Lib.hid q3
  by_cases q4 : t < ta
  · have d4 : decide (t < ta) = true := by simpa using q4
    have d5 : decide (ta ≤ t) = false := by simp; omega
    replace hF : Hid (lateB (L.map Im.val) t = true) := by rw [hF.out]; exact d4
    go_enter Tryd.func29, Tryd.ntmps29
    go_wp2_with fail
    go_ret
    exact ⟨by rw [hF.out]; rfl, hb.out⟩
  · have d4 : decide (t < ta) = false := by simpa using q4
    have d5 : decide (ta ≤ t) = true := by simp; omega
    replace hF : Hid (lateB (L.map Im.val) t = false) := by rw [hF.out]; exact d4
    go_enter Tryd.func29, Tryd.ntmps29
    go_wp2_with fail
    go_ret
    exact ⟨by rw [hF.out]; rfl, hb.out⟩
end Go.Proofs.YtbngclibfnnejaaDoor
