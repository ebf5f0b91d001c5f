/- Orders: how they lie in memory; the tests on one and on two orders, walked. -/
import Derived.Test.YtpejfnfhbpckiaaId
import Derived.Test.YtpejfnfhbpckiaaMath
set_option linter.unusedVariables false
set_option linter.unusedSimpArgs false
namespace Go.Proofs.Ytpejfnfhbpckiaa
open Go.RowKit Go.Proofs.Ytpejfnfhbpckiaa.Ord
def oC (o : O) : List Value := [.int .i64 o.id, .int .i64 o.conn, .string o.st, .int .i64 o.fr, .int .i64 o.tt, .int .i64 o.state, .int .i64 o.notes]
def oV (o : O) : Value := .agg #[.int .i64 o.id, .int .i64 o.conn, .string o.st, .int .i64 o.fr, .int .i64 o.tt, .int .i64 o.state, .int .i64 o.notes]
theorem oC_len (o : O) : (oC o).length = 7 := rfl
abbrev OAt (w : World) (B : Nat) (A : Option Addr) (n : Nat) (l : List O) : Prop := LAt oC 7 w B A n l
theorem OAt.cell {w : World} {B : Nat} {A : Option Addr} {n : Nat} {l : List O} (h : OAt w B A n l) {k : Nat} (hk : k < n) : ∃ ad, A = some ad ∧ ad.block < B ∧
    w.cell? (ad.add (k * 7)) = some (.int .i64 (l[k]'(by rw [h.len]; exact hk)).id) ∧
    w.cell? ⟨(ad.add (k * 7)).block, (ad.add (k * 7)).off + 1, none⟩ = some (.int .i64 (l[k]'(by rw [h.len]; exact hk)).conn) ∧
    w.cell? ⟨(ad.add (k * 7)).block, (ad.add (k * 7)).off + 2, none⟩ = some (.string (l[k]'(by rw [h.len]; exact hk)).st) ∧
    w.cell? ⟨(ad.add (k * 7)).block, (ad.add (k * 7)).off + 3, none⟩ = some (.int .i64 (l[k]'(by rw [h.len]; exact hk)).fr) ∧
    w.cell? ⟨(ad.add (k * 7)).block, (ad.add (k * 7)).off + 4, none⟩ = some (.int .i64 (l[k]'(by rw [h.len]; exact hk)).tt) ∧
    w.cell? ⟨(ad.add (k * 7)).block, (ad.add (k * 7)).off + 5, none⟩ = some (.int .i64 (l[k]'(by rw [h.len]; exact hk)).state) ∧
    w.cell? ⟨(ad.add (k * 7)).block, (ad.add (k * 7)).off + 6, none⟩ = some (.int .i64 (l[k]'(by rw [h.len]; exact hk)).notes) := by
  obtain ⟨ad, hA, hb, hc⟩ := h.at_ hk
  refine ⟨ad, hA, hb, hc 0 _ rfl, ?_, ?_, ?_, ?_, ?_, ?_⟩
  · rw [← add_next ad (k * 7) 0]; exact hc 1 _ rfl
  · rw [← add_next ad (k * 7) 1]; exact hc 2 _ rfl
  · rw [← add_next ad (k * 7) 2]; exact hc 3 _ rfl
  · rw [← add_next ad (k * 7) 3]; exact hc 4 _ rfl
  · rw [← add_next ad (k * 7) 4]; exact hc 5 _ rfl
  · rw [← add_next ad (k * 7) 5]; exact hc 6 _ rfl
theorem str_eq (a b : ByteArray) : a.toList = b.toList ↔ a = b := by
  rw [ByteArray.toList_eq, ByteArray.toList_eq]
  exact ⟨fun h => Go.WideShapes.bytes_inj h, fun h => by rw [h]⟩
theorem in_eq (x a b : Int) : (decide (a ≤ x) && decide (x ≤ b)) = decide (a ≤ x ∧ x ≤ b) := by simp
set_option maxRecDepth 100000 in
set_option maxHeartbeats 1000000 in
theorem active_any (o : O) (w : World) : Calls Try.prog 24 #[oV o] w fun e w' => e = .returned (.bool (act o)) ∧ Below w.heap.size w w' := by
  obtain ⟨o0, o1, o2, o3, o4, o5, o6⟩ := o
  unfold oV
  go_enter Try.func24, Try.ntmps24
  go_wp2_with fail
  all_goals
    go_ret
    exact ⟨ret_bool (by first | (simp_all [act]; done) | (rw [Bool.eq_iff_iff]; simp_all [act]; done)), below_new (Below.refl _ _) _⟩
set_option maxRecDepth 100000 in
set_option maxHeartbeats 1000000 in
theorem ractive_any (o : O) (w : World) : Calls Try.prog 32 #[oV o] w fun e w' => e = .returned (.bool (act o)) ∧ Below w.heap.size w w' := by
  obtain ⟨o0, o1, o2, o3, o4, o5, o6⟩ := o
  unfold oV
  go_enter Try.func32, Try.ntmps32
  go_wp2_with fail
  all_goals
    go_ret
    exact ⟨ret_bool (by first | (simp_all [act]; done) | (rw [Bool.eq_iff_iff]; simp_all [act]; done)), below_new (Below.refl _ _) _⟩
set_option maxRecDepth 100000 in
set_option maxHeartbeats 1000000 in
theorem near_any (a b : O) (w : World) : Calls Try.prog 42 #[oV a, oV b] w fun e w' => e = .returned (.bool (near a b)) ∧ Below w.heap.size w w' := by
  obtain ⟨a0, a1, a2, a3, a4, a5, a6⟩ := a
  obtain ⟨b0, b1, b2, b3, b4, b5, b6⟩ := b
  unfold oV
  go_enter Try.func42, Try.ntmps42
  go_wp2_with fail
  all_goals
    go_ret
    exact ⟨ret_bool (by first | (simp_all [near, str_eq]; done) | (rw [Bool.eq_iff_iff]; simp_all [near, str_eq]; done)), below_new (below_new (Below.refl _ _) _) _⟩
set_option maxRecDepth 100000 in
set_option maxHeartbeats 1000000 in
theorem overlap_any (a b c d : Int) (w : World) : Calls Try.prog 43 #[.agg #[.int .i64 a, .int .i64 b], .agg #[.int .i64 c, .int .i64 d]] w fun e w' => e = .returned (.bool (decide (max a c < min b d))) ∧ Below w.heap.size w w' := by
  go_enter Try.func43, Try.ntmps43
  go_wp2_with fail
  all_goals
    go_ret
    exact ⟨ret_bool (by (simp; omega)), below_new (below_new (Below.refl _ _) _) _⟩
set_option maxRecDepth 100000 in
set_option maxHeartbeats 1000000 in
theorem vspan_any (f t : Int) (w : World) : Calls Try.prog 34 #[.agg #[.int .i64 f, .int .i64 t]] w fun e w' => e = .returned (.bool (okSpan f t)) ∧ Below w.heap.size w w' := by
  go_enter Try.func34, Try.ntmps34
  go_wp2_with fail
  all_goals
    go_ret
    exact ⟨ret_bool (by first | (simp_all [okSpan]; done) | (simp [okSpan]; omega)), below_new (Below.refl _ _) _⟩
set_option maxRecDepth 100000 in
set_option maxHeartbeats 1000000 in
theorem in_any (x a b : Int) (w : World) : Calls Try.prog 36 #[.int .i64 x, .int .i64 a, .int .i64 b] w fun e w' => e = .returned (.bool (decide (a ≤ x) && decide (x ≤ b))) ∧ Below w.heap.size w w' := by
  go_enter Try.func36, Try.ntmps36
  go_wp2_with fail
  all_goals
    go_ret
    exact ⟨ret_bool (by first | (simp_all; done) | (rw [in_eq]; simp_all; done) | (simp_all; omega)), Below.refl _ _⟩
theorem in_yes (x a b : Int) (w : World) (h1 : a ≤ x) (h2 : x ≤ b) : Calls Try.prog 36 #[.int .i64 x, .int .i64 a, .int .i64 b] w fun e w' => e = .returned (.bool true) ∧ Below w.heap.size w w' :=
  (in_any x a b w).mono fun e w' ⟨h, hb⟩ => ⟨by rw [h]; simp [h1, h2], hb⟩
theorem in_no (x a b : Int) (w : World) (h : ¬ (a ≤ x ∧ x ≤ b)) : Calls Try.prog 36 #[.int .i64 x, .int .i64 a, .int .i64 b] w fun e w' => e = .returned (.bool false) ∧ Below w.heap.size w w' :=
  (in_any x a b w).mono fun e w' ⟨h', hb⟩ => ⟨by rw [h', in_eq]; simp; omega, hb⟩
set_option maxRecDepth 100000 in
set_option maxHeartbeats 1000000 in
theorem rclash_any (a b : O) (w : World) : Calls Try.prog 38 #[oV a, oV b] w fun e w' => e = .returned (.bool (clash a b)) ∧ Below w.heap.size w w' := by
  obtain ⟨a0, a1, a2, a3, a4, a5, a6⟩ := a
  obtain ⟨b0, b1, b2, b3, b4, b5, b6⟩ := b
  unfold oV
  go_enter Try.func38, Try.ntmps38
  go_wp2_with fail
  all_goals
    go_ret
    exact ⟨ret_bool (by first | (simp_all [clash, near, lap, str_eq]; done) | (simp_all [clash, near, lap, str_eq]; omega)), below_new (below_new (Below.refl _ _) _) _⟩
end Go.Proofs.Ytpejfnfhbpckiaa
