/- Authorization: Ends; tokens are checked; the law's small. -/
import Derived.Test.YtiggpgeldigknaaTok
set_option linter.unusedVariables false
set_option linter.unusedSimpArgs false
namespace Go.Proofs.Ytiggpgeldigknaa
open Go.RowKit
def endsT (token group id grp : ByteArray) : Bool := same id token || (!group.toList.isEmpty && same group grp)
theorem ret_i {a b : Int} (h : a = b) : Ending.returned (.int .i64 a) = .returned (.int .i64 b) := by rw [h]
set_option maxRecDepth 100000 in
theorem ends_any (token group : ByteArray) (t : Tk) (w : World) (h1 : token.size ≤ maxLen) (h2 : group.size ≤ maxLen) (h3 : TkOk t) :
    Calls Try.prog 24 #[.string token, .string group, tkV t] w fun e w' => e = .returned (.bool (endsT token group t.id t.group)) ∧ Below w.heap.size w w' := by
  unfold tkV
  obtain ⟨t0, t1, t2, t3, t4, t5⟩ := t
  obtain ⟨k1, k2, k3⟩ := h3
  simp only at k1 k2 k3
  go_enter Try.func24, Try.ntmps24
  go_wp2_with (go_at_call 67; refine (same_any _ _ _ (by assumption) (by assumption)).mono ?_; rintro e w1 ⟨rfl, m1, rfl⟩)
  all_goals
    go_ret
    exact ⟨ret_bool (by simp [endsT, *]), by first | exact below_drewN (a1 _ _) _ | exact below_drewN (below_drewN (a1 _ _) _) _⟩
set_option maxRecDepth 100000 in
theorem rends_any (token group : ByteArray) (t : Tk) (w : World) (h1 : token.size ≤ maxLen) (h2 : group.size ≤ maxLen) (h3 : TkOk t) :
    Calls Try.prog 25 #[.string token, .string group, tkV t] w fun e w' => e = .returned (.bool (endsT token group t.id t.group)) ∧ Below w.heap.size w w' := by
  unfold tkV
  obtain ⟨t0, t1, t2, t3, t4, t5⟩ := t
  obtain ⟨k1, k2, k3⟩ := h3
  simp only at k1 k2 k3
  have hT := Lib.hid (Blk.new w 33 #[.string t0, .string t1, .string t2, .int .i64 t3, .int .i64 t4, .int .i64 t5])
  have kz : Hid (∀ wz, Below (w.alloc (.cells #[.string t0, .string t1, .string t2, .int .i64 t3, .int .i64 t4, .int .i64 t5] 33)).heap.size (w.alloc (.cells #[.string t0, .string t1, .string t2, .int .i64 t3, .int .i64 t4, .int .i64 t5] 33)) wz → wz.cell? ⟨w.heap.size, 0, none⟩ = some (.string t0) ∧ wz.cell? ⟨w.heap.size, 1, none⟩ = some (.string t1) ∧ wz.cell? ⟨w.heap.size, 2, none⟩ = some (.string t2) ∧ wz.cell? ⟨w.heap.size, 3, none⟩ = some (.int .i64 t3) ∧ wz.cell? ⟨w.heap.size, 4, none⟩ = some (.int .i64 t4) ∧ wz.cell? ⟨w.heap.size, 5, none⟩ = some (.int .i64 t5)) := fun wz h => by
    have q0 := hT.out.below h (lt_of_heap hT.out)
    exact ⟨q0.cell 0, q0.cell 1, q0.cell 2, q0.cell 3, q0.cell 4, q0.cell 5⟩
  go_enter Try.func25, Try.ntmps25
  go_wp2_with fail
  refine (rsame_any _ _ _ (by assumption) (by assumption)).mono ?_; rintro e w1 ⟨rfl, hb1⟩
  obtain ⟨c0, c1, c2, c3, c4, c5⟩ := kz.out _ hb1
  replace hb1 := Lib.hid (below_a hb1)
  go_wp2_with (go_at_call 28; refine (rsame_any _ _ _ (by assumption) (by assumption)).mono ?_; rintro e w2 ⟨rfl, hb2⟩; replace hb2 := Lib.hid (hb1.out.trans (hb2.mono hb1.out.size)))
  all_goals
    go_ret
    exact ⟨ret_bool (by simp [endsT, *]), by first | exact hb2.out | exact hb1.out⟩
def emp (s : ByteArray) : Bool := s.toList.isEmpty
/-- the error of a token -/
def tvalid (t : Tk) : Int := if nameB t.id = false ∨ (t.group.toList.isEmpty = false ∧ nameB t.group = false) ∨ (t.contract.toList.isEmpty = false ∧ nameB t.contract = false) then 4
  else if t.kind < 1 ∨ 3 < t.kind ∨ t.status < 1 ∨ 3 < t.status ∨ t.expiry < -1 ∨ 268435456 < t.expiry then 2 else 0
set_option maxRecDepth 100000 in
set_option maxHeartbeats 2000000 in
theorem tvalid_any (t : Tk) (w : World) : Calls Try.prog 72 #[tkV t] w fun e w' => e = .returned (.int .i64 (tvalid t)) ∧ Below w.heap.size w w' := by
  unfold tkV
  obtain ⟨t0, t1, t2, t3, t4, t5⟩ := t
  have hT := Lib.hid (Blk.new w 33 #[.string t0, .string t1, .string t2, .int .i64 t3, .int .i64 t4, .int .i64 t5])
  have kz : Hid (∀ wz, Below (w.alloc (.cells #[.string t0, .string t1, .string t2, .int .i64 t3, .int .i64 t4, .int .i64 t5] 33)).heap.size (w.alloc (.cells #[.string t0, .string t1, .string t2, .int .i64 t3, .int .i64 t4, .int .i64 t5] 33)) wz → wz.cell? ⟨w.heap.size, 0, none⟩ = some (.string t0) ∧ wz.cell? ⟨w.heap.size, 1, none⟩ = some (.string t1) ∧ wz.cell? ⟨w.heap.size, 2, none⟩ = some (.string t2) ∧ wz.cell? ⟨w.heap.size, 3, none⟩ = some (.int .i64 t3) ∧ wz.cell? ⟨w.heap.size, 4, none⟩ = some (.int .i64 t4) ∧ wz.cell? ⟨w.heap.size, 5, none⟩ = some (.int .i64 t5)) := fun wz h => by
    have q0 := hT.out.below h (lt_of_heap hT.out)
    exact ⟨q0.cell 0, q0.cell 1, q0.cell 2, q0.cell 3, q0.cell 4, q0.cell 5⟩
  have hbz : Hid (Below (w.alloc (.cells #[.string t0, .string t1, .string t2, .int .i64 t3, .int .i64 t4, .int .i64 t5] 33)).heap.size (w.alloc (.cells #[.string t0, .string t1, .string t2, .int .i64 t3, .int .i64 t4, .int .i64 t5] 33)) (w.alloc (.cells #[.string t0, .string t1, .string t2, .int .i64 t3, .int .i64 t4, .int .i64 t5] 33))) := Below.refl _ _
  go_enter Try.func72, Try.ntmps72
  go_wp2_with (go_at_call 75; refine (name_any _ _).mono ?_; rintro e w1 ⟨rfl, hb1⟩; replace hbz := Lib.hid (hbz.out.trans (hb1.mono hbz.out.size)); clear hb1; obtain ⟨c0, c1, c2, c3, c4, c5⟩ := kz.out _ hbz.out)
  all_goals
    go_ret
    refine ⟨ret_i ?_, below_a hbz.out⟩
    clear hbz kz hT
    unfold tvalid
    first
      | (simp_all; done)
      | (simp_all; omega)
set_option maxRecDepth 100000 in
set_option maxHeartbeats 2000000 in
theorem rtvalid_any (t : Tk) (w : World) : Calls Try.prog 33 #[tkV t] w fun e w' => e = .returned (.int .i64 (tvalid t)) ∧ Below w.heap.size w w' := by
  unfold tkV
  obtain ⟨t0, t1, t2, t3, t4, t5⟩ := t
  have hT := Lib.hid (Blk.new w 33 #[.string t0, .string t1, .string t2, .int .i64 t3, .int .i64 t4, .int .i64 t5])
  have kz : Hid (∀ wz, Below (w.alloc (.cells #[.string t0, .string t1, .string t2, .int .i64 t3, .int .i64 t4, .int .i64 t5] 33)).heap.size (w.alloc (.cells #[.string t0, .string t1, .string t2, .int .i64 t3, .int .i64 t4, .int .i64 t5] 33)) wz → wz.cell? ⟨w.heap.size, 0, none⟩ = some (.string t0) ∧ wz.cell? ⟨w.heap.size, 1, none⟩ = some (.string t1) ∧ wz.cell? ⟨w.heap.size, 2, none⟩ = some (.string t2) ∧ wz.cell? ⟨w.heap.size, 3, none⟩ = some (.int .i64 t3) ∧ wz.cell? ⟨w.heap.size, 4, none⟩ = some (.int .i64 t4) ∧ wz.cell? ⟨w.heap.size, 5, none⟩ = some (.int .i64 t5)) := fun wz h => by
    have q0 := hT.out.below h (lt_of_heap hT.out)
    exact ⟨q0.cell 0, q0.cell 1, q0.cell 2, q0.cell 3, q0.cell 4, q0.cell 5⟩
  have hbz : Hid (Below (w.alloc (.cells #[.string t0, .string t1, .string t2, .int .i64 t3, .int .i64 t4, .int .i64 t5] 33)).heap.size (w.alloc (.cells #[.string t0, .string t1, .string t2, .int .i64 t3, .int .i64 t4, .int .i64 t5] 33)) (w.alloc (.cells #[.string t0, .string t1, .string t2, .int .i64 t3, .int .i64 t4, .int .i64 t5] 33))) := Below.refl _ _
  go_enter Try.func33, Try.ntmps33
  go_wp2_with (go_at_call 73; refine (rname_any _ _).mono ?_; rintro e w1 ⟨rfl, hb1⟩; replace hbz := Lib.hid (hbz.out.trans (hb1.mono hbz.out.size)); clear hb1; obtain ⟨c0, c1, c2, c3, c4, c5⟩ := kz.out _ hbz.out)
  all_goals
    go_ret
    refine ⟨ret_i ?_, below_a hbz.out⟩
    clear hbz kz hT
    unfold tvalid
    first
      | (simp_all; done)
      | (simp_all; omega)
end Go.Proofs.Ytiggpgeldigknaa
