/- Orders: the reference's Plan, walked. -/
import Derived.Test.YtpejfnfhbpckiaaOI
import Derived.Test.YtpejfnfhbpckiaaOK
import Derived.Deep.RegionWith
set_option linter.unusedVariables false
set_option linter.unusedSimpArgs false
namespace Go.Proofs.Ytpejfnfhbpckiaa
open Go.RowKit Go.Proofs.Ytpejfnfhbpckiaa.Ord
set_option maxRecDepth 100000 in
set_option maxHeartbeats 4000000 in
theorem rplan_bad (A : Option Addr) (l : List O) (n cap : Nat) (id f t er : Int) (w : World) (h : OAt w w.heap.size A n l) (hc : n ≤ cap) (hm : cap ≤ maxLen) (h1 : n ≤ 1000)
    (i : Nat) (hi : i < l.length) (hid : idx id 0 l = i) (hs : (l[i].state ≠ 1 ∧ l[i].state ≠ 2 ∧ er = 10) ∨ ((l[i].state = 1 ∨ l[i].state = 2) ∧ (f < 0 ∨ (0 ≤ f ∧ t ≤ f) ∨ (0 ≤ f ∧ f < t ∧ 268435456 < t)) ∧ er = 2)) :
    Calls Try.prog 29 #[.slice A n cap, .int .i64 id, .agg #[.int .i64 f, .int .i64 t]] w fun e w' => ∃ v, e = .returned (.tuple #[v, .int .i64 er]) ∧ OutV w w' l v := by
  have hn := Lib.hid h.len
  have hin : i < n := by have := hn.out; omega
  have hi0 : (0 : Int) ≤ i := by omega
  have hi1 : (i : Int) < n := by omega
  obtain ⟨x, hx⟩ : ∃ x, l[i] = x := ⟨_, rfl⟩
  rw [hx] at hs
  try rw [hx] at hbk
  try rw [hx] at hmv
  try rw [hx]
  obtain ⟨ad, rfl, hbl, hk⟩ := h.kept hi hx
  have h' := Lib.hid (h.more (a1 w (.cells #[.int .i64 f, .int .i64 t] 31)))
  have hS0 := Lib.hid (Blk.new w 31 #[.int .i64 f, .int .i64 t])
  replace hx := Lib.hid hx
  replace h := Lib.hid h
  replace hk := Lib.hid hk
  replace hid := Lib.hid hid
  obtain ⟨x0, x1, x2, x3, x4, x5, x6⟩ := x
  simp only at hk hs
  rcases hs with ⟨hs1, hs2, rfl⟩ | ⟨hs, hs3, rfl⟩
  · have d1 : (x5 != 1) = true := by simpa using hs1
    have d2 : (x5 != 2) = true := by simpa using hs2
    replace hs1 := Lib.hid hs1
    replace hs2 := Lib.hid hs2
    go_enter Try.func29, Try.ntmps29
    go_wp2_with fail
    refine (find_any (some ad) l n cap id _ h'.out (Nat.le_trans hc hm)).mono ?_; rintro e w1 ⟨rfl, hb1⟩
    rw [hid.out]
    have hbw1 : Hid (Below w.heap.size w w1) := below_a hb1
    obtain ⟨e0, e1, e2, e3, e4, e5, e6⟩ := hk.out _ hbw1.out
    have hSw := Lib.hid (hS0.out.below hb1 (by simp))
    obtain ⟨s0, s1⟩ := (show w1.cell? ⟨w.heap.size, 0, none⟩ = some (.int .i64 f) ∧ w1.cell? ⟨w.heap.size, 1, none⟩ = some (.int .i64 t) from ⟨hSw.out.cell 0, hSw.out.cell 1⟩)
    have hsz1 : w.heap.size < w1.heap.size := by have := hb1.size; simp at this; omega
    replace hb1 := Lib.hid hb1
    go_wp2_with fail
    go_ret2
    exact ⟨_, rfl, OutV.same h.out hc hm hbw1.out⟩
  · rcases hs with hs | hs
    all_goals subst hs
    all_goals rcases hs3 with hq | ⟨hq, hq2⟩ | ⟨hq, hq2, hq3⟩
    all_goals
      go_enter Try.func29, Try.ntmps29
      go_wp2_with fail
      refine (find_any (some ad) l n cap id _ h'.out (Nat.le_trans hc hm)).mono ?_; rintro e w1 ⟨rfl, hb1⟩
      rw [hid.out]
      have hbw1 : Hid (Below w.heap.size w w1) := below_a hb1
      obtain ⟨e0, e1, e2, e3, e4, e5, e6⟩ := hk.out _ hbw1.out
      have hSw := Lib.hid (hS0.out.below hb1 (by simp))
      obtain ⟨s0, s1⟩ := (show w1.cell? ⟨w.heap.size, 0, none⟩ = some (.int .i64 f) ∧ w1.cell? ⟨w.heap.size, 1, none⟩ = some (.int .i64 t) from ⟨hSw.out.cell 0, hSw.out.cell 1⟩)
      have hsz1 : w.heap.size < w1.heap.size := by have := hb1.size; simp at this; omega
      replace hb1 := Lib.hid hb1
      go_wp2_with fail
      go_ret2
      exact ⟨_, rfl, OutV.same h.out hc hm hbw1.out⟩
end Go.Proofs.Ytpejfnfhbpckiaa
