/- Orders: Plan, walked. -/
import Derived.Test.YtpejfnfhbpckiaaOG
set_option linter.unusedVariables false
set_option linter.unusedSimpArgs false
namespace Go.Proofs.Ytpejfnfhbpckiaa
open Go.RowKit Go.Proofs.Ytpejfnfhbpckiaa.Ord
set_option maxRecDepth 100000 in
set_option maxHeartbeats 1000000 in
theorem plan_none (A : Option Addr) (l : List O) (n cap : Nat) (id f t : Int) (w : World) (h : OAt w w.heap.size A n l) (hc : n ≤ cap) (hm : cap ≤ maxLen) (hid : idx id 0 l = -1) :
    Calls Try.prog 21 #[.slice A n cap, .int .i64 id, .agg #[.int .i64 f, .int .i64 t]] w fun e w' => ∃ v, e = .returned (.tuple #[v, .int .i64 8]) ∧ OutV w w' l v := by
  have h' := Lib.hid (h.more (a1 w (.cells #[.int .i64 f, .int .i64 t] 31)))
  replace h := Lib.hid h
  replace hid := Lib.hid hid
  go_enter Try.func21, Try.ntmps21
  go_wp2_with fail
  refine (indexO_any A l n cap id _ h'.out (Nat.le_trans hc hm)).mono ?_; rintro e w1 ⟨rfl, hb1⟩
  rw [hid.out]
  replace hb1 := Lib.hid hb1
  go_wp2_with fail
  go_ret2
  exact ⟨_, rfl, OutV.same h.out hc hm (below_a hb1.out)⟩
set_option maxRecDepth 100000 in
set_option maxHeartbeats 1000000 in
theorem rplan_none (A : Option Addr) (l : List O) (n cap : Nat) (id f t : Int) (w : World) (h : OAt w w.heap.size A n l) (hc : n ≤ cap) (hm : cap ≤ maxLen) (hid : idx id 0 l = -1) :
    Calls Try.prog 29 #[.slice A n cap, .int .i64 id, .agg #[.int .i64 f, .int .i64 t]] w fun e w' => ∃ v, e = .returned (.tuple #[v, .int .i64 8]) ∧ OutV w w' l v := by
  have h' := Lib.hid (h.more (a1 w (.cells #[.int .i64 f, .int .i64 t] 31)))
  replace h := Lib.hid h
  replace hid := Lib.hid hid
  go_enter Try.func29, Try.ntmps29
  go_wp2_with fail
  refine (find_any A l n cap id _ h'.out (Nat.le_trans hc hm)).mono ?_; rintro e w1 ⟨rfl, hb1⟩
  rw [hid.out]
  replace hb1 := Lib.hid hb1
  go_wp2_with fail
  go_ret2
  exact ⟨_, rfl, OutV.same h.out hc hm (below_a hb1.out)⟩
set_option maxRecDepth 100000 in
set_option maxHeartbeats 4000000 in
theorem plan_bad (A : Option Addr) (l : List O) (n cap : Nat) (id f t er : Int) (w : World) (h : OAt w w.heap.size A n l) (hc : n ≤ cap) (hm : cap ≤ maxLen) (h1 : n ≤ 1000)
    (i : Nat) (hi : i < l.length) (hid : idx id 0 l = i) (hw : (l[i].state ≠ 1 ∧ l[i].state ≠ 2 ∧ er = 10) ∨ ((l[i].state = 1 ∨ l[i].state = 2) ∧ (okSpan f t = false ∨ (okSpan f t = true ∧ f = t)) ∧ er = 2)) :
    Calls Try.prog 21 #[.slice A n cap, .int .i64 id, .agg #[.int .i64 f, .int .i64 t]] w fun e w' => ∃ v, e = .returned (.tuple #[v, .int .i64 er]) ∧ OutV w w' l v := by
  have hn := Lib.hid h.len
  have hin : i < n := by have := hn.out; omega
  have hi0 : (0 : Int) ≤ i := by omega
  have hi1 : (i : Int) < n := by omega
  obtain ⟨x, hx⟩ : ∃ x, l[i] = x := ⟨_, rfl⟩
  rw [hx] at hw
  obtain ⟨ad, rfl, hbl, hk⟩ := h.kept hi hx
  have h' := Lib.hid (h.more (a1 w (.cells #[.int .i64 f, .int .i64 t] 31)))
  have hS0 := Lib.hid (Blk.new w 31 #[.int .i64 f, .int .i64 t])
  replace hx := Lib.hid hx
  replace h := Lib.hid h
  replace hk := Lib.hid hk
  replace hid := Lib.hid hid
  obtain ⟨x0, x1, x2, x3, x4, x5, x6⟩ := x
  simp only at hk hw
  rcases hw with ⟨hs1, hs2, rfl⟩ | ⟨hs, hs3, rfl⟩
  · have d1 : (x5 != 1) = true := by simpa using hs1
    have d2 : (x5 != 2) = true := by simpa using hs2
    replace hs1 := Lib.hid hs1
    replace hs2 := Lib.hid hs2
    go_enter Try.func21, Try.ntmps21
    go_wp2_with fail
    refine (indexO_any (some ad) l n cap id _ h'.out (Nat.le_trans hc hm)).mono ?_; rintro e w1 ⟨rfl, hb1⟩
    rw [hid.out]
    have hbw1 : Hid (Below w.heap.size w w1) := below_a hb1
    obtain ⟨e0, e1, e2, e3, e4, e5, e6⟩ := hk.out _ hbw1.out
    have hSw := Lib.hid (hS0.out.below hb1 (by simp))
    obtain ⟨s0, s1⟩ := (show w1.cell? ⟨w.heap.size, 0, none⟩ = some (.int .i64 f) ∧ w1.cell? ⟨w.heap.size, 1, none⟩ = some (.int .i64 t) from ⟨hSw.out.cell 0, hSw.out.cell 1⟩)
    have hS1 := Lib.hid ((hS0.out.below hb1 (by simp)).alloc (.cells #[.int .i64 x0, .int .i64 x1, .string x2, .int .i64 x3, .int .i64 x4, .int .i64 x5, .int .i64 x6] 33))
    have hX1 := Lib.hid (Blk.new w1 33 #[.int .i64 x0, .int .i64 x1, .string x2, .int .i64 x3, .int .i64 x4, .int .i64 x5, .int .i64 x6])
    have hsz1 : w.heap.size < w1.heap.size := by have := hb1.size; simp at this; omega
    replace hb1 := Lib.hid hb1
    have hbW1 : Hid (Below w.heap.size w (w1.alloc (.cells #[.int .i64 x0, .int .i64 x1, .string x2, .int .i64 x3, .int .i64 x4, .int .i64 x5, .int .i64 x6] 33))) := below_new hbw1.out _
    have kz : Hid (∀ wz, Below (w1.alloc (.cells #[.int .i64 x0, .int .i64 x1, .string x2, .int .i64 x3, .int .i64 x4, .int .i64 x5, .int .i64 x6] 33)).heap.size (w1.alloc (.cells #[.int .i64 x0, .int .i64 x1, .string x2, .int .i64 x3, .int .i64 x4, .int .i64 x5, .int .i64 x6] 33)) wz → wz.cell? ⟨w.heap.size, 0, none⟩ = some (.int .i64 f) ∧ wz.cell? ⟨w.heap.size, 1, none⟩ = some (.int .i64 t) ∧ wz.cell? ⟨w1.heap.size, 0, none⟩ = some (.int .i64 x0) ∧ wz.cell? ⟨w1.heap.size, 1, none⟩ = some (.int .i64 x1) ∧ wz.cell? ⟨w1.heap.size, 2, none⟩ = some (.string x2) ∧ wz.cell? ⟨w1.heap.size, 3, none⟩ = some (.int .i64 x3) ∧ wz.cell? ⟨w1.heap.size, 4, none⟩ = some (.int .i64 x4) ∧ wz.cell? ⟨w1.heap.size, 5, none⟩ = some (.int .i64 x5) ∧ wz.cell? ⟨w1.heap.size, 6, none⟩ = some (.int .i64 x6) ∧ wz.frozen? ⟨w1.heap.size, 0, none⟩ = false ∧ wz.frozen? ⟨w1.heap.size, 1, none⟩ = false ∧ wz.frozen? ⟨w1.heap.size, 2, none⟩ = false ∧ wz.frozen? ⟨w1.heap.size, 3, none⟩ = false ∧ wz.frozen? ⟨w1.heap.size, 4, none⟩ = false ∧ wz.frozen? ⟨w1.heap.size, 5, none⟩ = false ∧ wz.frozen? ⟨w1.heap.size, 6, none⟩ = false) := fun wz h => by
      have q0 := hS1.out.below h (lt_of_heap hS1.out)
      have r0 := hX1.out.below h (lt_of_heap hX1.out)
      exact ⟨q0.cell 0, q0.cell 1, r0.cell 0, r0.cell 1, r0.cell 2, r0.cell 3, r0.cell 4, r0.cell 5, r0.cell 6, r0.frozen 0, r0.frozen 1, r0.frozen 2, r0.frozen 3, r0.frozen 4, r0.frozen 5, r0.frozen 6⟩
    go_wp2_with fail
    go_ret2
    exact ⟨_, rfl, OutV.same h.out hc hm hbW1.out⟩
  · rcases hs with hs | hs
    all_goals subst hs
    all_goals rcases hs3 with hsp | ⟨hsp, hft⟩
    · replace hsp := Lib.hid hsp
      go_enter Try.func21, Try.ntmps21
      go_wp2_with fail
      refine (indexO_any (some ad) l n cap id _ h'.out (Nat.le_trans hc hm)).mono ?_; rintro e w1 ⟨rfl, hb1⟩
      rw [hid.out]
      have hbw1 : Hid (Below w.heap.size w w1) := below_a hb1
      obtain ⟨e0, e1, e2, e3, e4, e5, e6⟩ := hk.out _ hbw1.out
      have hSw := Lib.hid (hS0.out.below hb1 (by simp))
      obtain ⟨s0, s1⟩ := (show w1.cell? ⟨w.heap.size, 0, none⟩ = some (.int .i64 f) ∧ w1.cell? ⟨w.heap.size, 1, none⟩ = some (.int .i64 t) from ⟨hSw.out.cell 0, hSw.out.cell 1⟩)
      have hS1 := Lib.hid ((hS0.out.below hb1 (by simp)).alloc (.cells #[.int .i64 x0, .int .i64 x1, .string x2, .int .i64 x3, .int .i64 x4, .int .i64 1, .int .i64 x6] 33))
      have hX1 := Lib.hid (Blk.new w1 33 #[.int .i64 x0, .int .i64 x1, .string x2, .int .i64 x3, .int .i64 x4, .int .i64 1, .int .i64 x6])
      have hsz1 : w.heap.size < w1.heap.size := by have := hb1.size; simp at this; omega
      replace hb1 := Lib.hid hb1
      have hbW1 : Hid (Below w.heap.size w (w1.alloc (.cells #[.int .i64 x0, .int .i64 x1, .string x2, .int .i64 x3, .int .i64 x4, .int .i64 1, .int .i64 x6] 33))) := below_new hbw1.out _
      have kz : Hid (∀ wz, Below (w1.alloc (.cells #[.int .i64 x0, .int .i64 x1, .string x2, .int .i64 x3, .int .i64 x4, .int .i64 1, .int .i64 x6] 33)).heap.size (w1.alloc (.cells #[.int .i64 x0, .int .i64 x1, .string x2, .int .i64 x3, .int .i64 x4, .int .i64 1, .int .i64 x6] 33)) wz → wz.cell? ⟨w.heap.size, 0, none⟩ = some (.int .i64 f) ∧ wz.cell? ⟨w.heap.size, 1, none⟩ = some (.int .i64 t) ∧ wz.cell? ⟨w1.heap.size, 0, none⟩ = some (.int .i64 x0) ∧ wz.cell? ⟨w1.heap.size, 1, none⟩ = some (.int .i64 x1) ∧ wz.cell? ⟨w1.heap.size, 2, none⟩ = some (.string x2) ∧ wz.cell? ⟨w1.heap.size, 3, none⟩ = some (.int .i64 x3) ∧ wz.cell? ⟨w1.heap.size, 4, none⟩ = some (.int .i64 x4) ∧ wz.cell? ⟨w1.heap.size, 5, none⟩ = some (.int .i64 1) ∧ wz.cell? ⟨w1.heap.size, 6, none⟩ = some (.int .i64 x6) ∧ wz.frozen? ⟨w1.heap.size, 0, none⟩ = false ∧ wz.frozen? ⟨w1.heap.size, 1, none⟩ = false ∧ wz.frozen? ⟨w1.heap.size, 2, none⟩ = false ∧ wz.frozen? ⟨w1.heap.size, 3, none⟩ = false ∧ wz.frozen? ⟨w1.heap.size, 4, none⟩ = false ∧ wz.frozen? ⟨w1.heap.size, 5, none⟩ = false ∧ wz.frozen? ⟨w1.heap.size, 6, none⟩ = false) := fun wz h => by
        have q0 := hS1.out.below h (lt_of_heap hS1.out)
        have r0 := hX1.out.below h (lt_of_heap hX1.out)
        exact ⟨q0.cell 0, q0.cell 1, r0.cell 0, r0.cell 1, r0.cell 2, r0.cell 3, r0.cell 4, r0.cell 5, r0.cell 6, r0.frozen 0, r0.frozen 1, r0.frozen 2, r0.frozen 3, r0.frozen 4, r0.frozen 5, r0.frozen 6⟩
      go_wp2_with fail
      refine (vspan_any f t _).mono ?_; rintro e w2 ⟨rfl, hb2⟩
      rw [hsp.out]
      obtain ⟨s0, s1, z0, z1, z2, z3, z4, z5, z6, q0, q1, q2, q3, q4, q5, q6⟩ := kz.out _ hb2
      have hX2 := Lib.hid (hX1.out.below hb2 (lt_of_heap hX1.out))
      replace hb2 : Hid (Below w.heap.size w w2) := hbW1.out.trans (hb2.mono hbW1.out.size)
      go_wp2_with fail
      go_ret2
      exact ⟨_, rfl, OutV.same h.out hc hm hb2.out⟩
    · have hftb : (f == t) = true := by simpa using hft
      replace hft := Lib.hid hft
      replace hsp := Lib.hid hsp
      go_enter Try.func21, Try.ntmps21
      go_wp2_with fail
      refine (indexO_any (some ad) l n cap id _ h'.out (Nat.le_trans hc hm)).mono ?_; rintro e w1 ⟨rfl, hb1⟩
      rw [hid.out]
      have hbw1 : Hid (Below w.heap.size w w1) := below_a hb1
      obtain ⟨e0, e1, e2, e3, e4, e5, e6⟩ := hk.out _ hbw1.out
      have hSw := Lib.hid (hS0.out.below hb1 (by simp))
      obtain ⟨s0, s1⟩ := (show w1.cell? ⟨w.heap.size, 0, none⟩ = some (.int .i64 f) ∧ w1.cell? ⟨w.heap.size, 1, none⟩ = some (.int .i64 t) from ⟨hSw.out.cell 0, hSw.out.cell 1⟩)
      have hS1 := Lib.hid ((hS0.out.below hb1 (by simp)).alloc (.cells #[.int .i64 x0, .int .i64 x1, .string x2, .int .i64 x3, .int .i64 x4, .int .i64 1, .int .i64 x6] 33))
      have hX1 := Lib.hid (Blk.new w1 33 #[.int .i64 x0, .int .i64 x1, .string x2, .int .i64 x3, .int .i64 x4, .int .i64 1, .int .i64 x6])
      have hsz1 : w.heap.size < w1.heap.size := by have := hb1.size; simp at this; omega
      replace hb1 := Lib.hid hb1
      have hbW1 : Hid (Below w.heap.size w (w1.alloc (.cells #[.int .i64 x0, .int .i64 x1, .string x2, .int .i64 x3, .int .i64 x4, .int .i64 1, .int .i64 x6] 33))) := below_new hbw1.out _
      have kz : Hid (∀ wz, Below (w1.alloc (.cells #[.int .i64 x0, .int .i64 x1, .string x2, .int .i64 x3, .int .i64 x4, .int .i64 1, .int .i64 x6] 33)).heap.size (w1.alloc (.cells #[.int .i64 x0, .int .i64 x1, .string x2, .int .i64 x3, .int .i64 x4, .int .i64 1, .int .i64 x6] 33)) wz → wz.cell? ⟨w.heap.size, 0, none⟩ = some (.int .i64 f) ∧ wz.cell? ⟨w.heap.size, 1, none⟩ = some (.int .i64 t) ∧ wz.cell? ⟨w1.heap.size, 0, none⟩ = some (.int .i64 x0) ∧ wz.cell? ⟨w1.heap.size, 1, none⟩ = some (.int .i64 x1) ∧ wz.cell? ⟨w1.heap.size, 2, none⟩ = some (.string x2) ∧ wz.cell? ⟨w1.heap.size, 3, none⟩ = some (.int .i64 x3) ∧ wz.cell? ⟨w1.heap.size, 4, none⟩ = some (.int .i64 x4) ∧ wz.cell? ⟨w1.heap.size, 5, none⟩ = some (.int .i64 1) ∧ wz.cell? ⟨w1.heap.size, 6, none⟩ = some (.int .i64 x6) ∧ wz.frozen? ⟨w1.heap.size, 0, none⟩ = false ∧ wz.frozen? ⟨w1.heap.size, 1, none⟩ = false ∧ wz.frozen? ⟨w1.heap.size, 2, none⟩ = false ∧ wz.frozen? ⟨w1.heap.size, 3, none⟩ = false ∧ wz.frozen? ⟨w1.heap.size, 4, none⟩ = false ∧ wz.frozen? ⟨w1.heap.size, 5, none⟩ = false ∧ wz.frozen? ⟨w1.heap.size, 6, none⟩ = false) := fun wz h => by
        have q0 := hS1.out.below h (lt_of_heap hS1.out)
        have r0 := hX1.out.below h (lt_of_heap hX1.out)
        exact ⟨q0.cell 0, q0.cell 1, r0.cell 0, r0.cell 1, r0.cell 2, r0.cell 3, r0.cell 4, r0.cell 5, r0.cell 6, r0.frozen 0, r0.frozen 1, r0.frozen 2, r0.frozen 3, r0.frozen 4, r0.frozen 5, r0.frozen 6⟩
      go_wp2_with fail
      refine (vspan_any f t _).mono ?_; rintro e w2 ⟨rfl, hb2⟩
      rw [hsp.out]
      obtain ⟨s0, s1, z0, z1, z2, z3, z4, z5, z6, q0, q1, q2, q3, q4, q5, q6⟩ := kz.out _ hb2
      have hX2 := Lib.hid (hX1.out.below hb2 (lt_of_heap hX1.out))
      replace hb2 : Hid (Below w.heap.size w w2) := hbW1.out.trans (hb2.mono hbW1.out.size)
      go_wp2_with fail
      go_ret2
      exact ⟨_, rfl, OutV.same h.out hc hm hb2.out⟩
    · replace hsp := Lib.hid hsp
      go_enter Try.func21, Try.ntmps21
      go_wp2_with fail
      refine (indexO_any (some ad) l n cap id _ h'.out (Nat.le_trans hc hm)).mono ?_; rintro e w1 ⟨rfl, hb1⟩
      rw [hid.out]
      have hbw1 : Hid (Below w.heap.size w w1) := below_a hb1
      obtain ⟨e0, e1, e2, e3, e4, e5, e6⟩ := hk.out _ hbw1.out
      have hSw := Lib.hid (hS0.out.below hb1 (by simp))
      obtain ⟨s0, s1⟩ := (show w1.cell? ⟨w.heap.size, 0, none⟩ = some (.int .i64 f) ∧ w1.cell? ⟨w.heap.size, 1, none⟩ = some (.int .i64 t) from ⟨hSw.out.cell 0, hSw.out.cell 1⟩)
      have hS1 := Lib.hid ((hS0.out.below hb1 (by simp)).alloc (.cells #[.int .i64 x0, .int .i64 x1, .string x2, .int .i64 x3, .int .i64 x4, .int .i64 2, .int .i64 x6] 33))
      have hX1 := Lib.hid (Blk.new w1 33 #[.int .i64 x0, .int .i64 x1, .string x2, .int .i64 x3, .int .i64 x4, .int .i64 2, .int .i64 x6])
      have hsz1 : w.heap.size < w1.heap.size := by have := hb1.size; simp at this; omega
      replace hb1 := Lib.hid hb1
      have hbW1 : Hid (Below w.heap.size w (w1.alloc (.cells #[.int .i64 x0, .int .i64 x1, .string x2, .int .i64 x3, .int .i64 x4, .int .i64 2, .int .i64 x6] 33))) := below_new hbw1.out _
      have kz : Hid (∀ wz, Below (w1.alloc (.cells #[.int .i64 x0, .int .i64 x1, .string x2, .int .i64 x3, .int .i64 x4, .int .i64 2, .int .i64 x6] 33)).heap.size (w1.alloc (.cells #[.int .i64 x0, .int .i64 x1, .string x2, .int .i64 x3, .int .i64 x4, .int .i64 2, .int .i64 x6] 33)) wz → wz.cell? ⟨w.heap.size, 0, none⟩ = some (.int .i64 f) ∧ wz.cell? ⟨w.heap.size, 1, none⟩ = some (.int .i64 t) ∧ wz.cell? ⟨w1.heap.size, 0, none⟩ = some (.int .i64 x0) ∧ wz.cell? ⟨w1.heap.size, 1, none⟩ = some (.int .i64 x1) ∧ wz.cell? ⟨w1.heap.size, 2, none⟩ = some (.string x2) ∧ wz.cell? ⟨w1.heap.size, 3, none⟩ = some (.int .i64 x3) ∧ wz.cell? ⟨w1.heap.size, 4, none⟩ = some (.int .i64 x4) ∧ wz.cell? ⟨w1.heap.size, 5, none⟩ = some (.int .i64 2) ∧ wz.cell? ⟨w1.heap.size, 6, none⟩ = some (.int .i64 x6) ∧ wz.frozen? ⟨w1.heap.size, 0, none⟩ = false ∧ wz.frozen? ⟨w1.heap.size, 1, none⟩ = false ∧ wz.frozen? ⟨w1.heap.size, 2, none⟩ = false ∧ wz.frozen? ⟨w1.heap.size, 3, none⟩ = false ∧ wz.frozen? ⟨w1.heap.size, 4, none⟩ = false ∧ wz.frozen? ⟨w1.heap.size, 5, none⟩ = false ∧ wz.frozen? ⟨w1.heap.size, 6, none⟩ = false) := fun wz h => by
        have q0 := hS1.out.below h (lt_of_heap hS1.out)
        have r0 := hX1.out.below h (lt_of_heap hX1.out)
        exact ⟨q0.cell 0, q0.cell 1, r0.cell 0, r0.cell 1, r0.cell 2, r0.cell 3, r0.cell 4, r0.cell 5, r0.cell 6, r0.frozen 0, r0.frozen 1, r0.frozen 2, r0.frozen 3, r0.frozen 4, r0.frozen 5, r0.frozen 6⟩
      go_wp2_with fail
      refine (vspan_any f t _).mono ?_; rintro e w2 ⟨rfl, hb2⟩
      rw [hsp.out]
      obtain ⟨s0, s1, z0, z1, z2, z3, z4, z5, z6, q0, q1, q2, q3, q4, q5, q6⟩ := kz.out _ hb2
      have hX2 := Lib.hid (hX1.out.below hb2 (lt_of_heap hX1.out))
      replace hb2 : Hid (Below w.heap.size w w2) := hbW1.out.trans (hb2.mono hbW1.out.size)
      go_wp2_with fail
      go_ret2
      exact ⟨_, rfl, OutV.same h.out hc hm hb2.out⟩
    · have hftb : (f == t) = true := by simpa using hft
      replace hft := Lib.hid hft
      replace hsp := Lib.hid hsp
      go_enter Try.func21, Try.ntmps21
      go_wp2_with fail
      refine (indexO_any (some ad) l n cap id _ h'.out (Nat.le_trans hc hm)).mono ?_; rintro e w1 ⟨rfl, hb1⟩
      rw [hid.out]
      have hbw1 : Hid (Below w.heap.size w w1) := below_a hb1
      obtain ⟨e0, e1, e2, e3, e4, e5, e6⟩ := hk.out _ hbw1.out
      have hSw := Lib.hid (hS0.out.below hb1 (by simp))
      obtain ⟨s0, s1⟩ := (show w1.cell? ⟨w.heap.size, 0, none⟩ = some (.int .i64 f) ∧ w1.cell? ⟨w.heap.size, 1, none⟩ = some (.int .i64 t) from ⟨hSw.out.cell 0, hSw.out.cell 1⟩)
      have hS1 := Lib.hid ((hS0.out.below hb1 (by simp)).alloc (.cells #[.int .i64 x0, .int .i64 x1, .string x2, .int .i64 x3, .int .i64 x4, .int .i64 2, .int .i64 x6] 33))
      have hX1 := Lib.hid (Blk.new w1 33 #[.int .i64 x0, .int .i64 x1, .string x2, .int .i64 x3, .int .i64 x4, .int .i64 2, .int .i64 x6])
      have hsz1 : w.heap.size < w1.heap.size := by have := hb1.size; simp at this; omega
      replace hb1 := Lib.hid hb1
      have hbW1 : Hid (Below w.heap.size w (w1.alloc (.cells #[.int .i64 x0, .int .i64 x1, .string x2, .int .i64 x3, .int .i64 x4, .int .i64 2, .int .i64 x6] 33))) := below_new hbw1.out _
      have kz : Hid (∀ wz, Below (w1.alloc (.cells #[.int .i64 x0, .int .i64 x1, .string x2, .int .i64 x3, .int .i64 x4, .int .i64 2, .int .i64 x6] 33)).heap.size (w1.alloc (.cells #[.int .i64 x0, .int .i64 x1, .string x2, .int .i64 x3, .int .i64 x4, .int .i64 2, .int .i64 x6] 33)) wz → wz.cell? ⟨w.heap.size, 0, none⟩ = some (.int .i64 f) ∧ wz.cell? ⟨w.heap.size, 1, none⟩ = some (.int .i64 t) ∧ wz.cell? ⟨w1.heap.size, 0, none⟩ = some (.int .i64 x0) ∧ wz.cell? ⟨w1.heap.size, 1, none⟩ = some (.int .i64 x1) ∧ wz.cell? ⟨w1.heap.size, 2, none⟩ = some (.string x2) ∧ wz.cell? ⟨w1.heap.size, 3, none⟩ = some (.int .i64 x3) ∧ wz.cell? ⟨w1.heap.size, 4, none⟩ = some (.int .i64 x4) ∧ wz.cell? ⟨w1.heap.size, 5, none⟩ = some (.int .i64 2) ∧ wz.cell? ⟨w1.heap.size, 6, none⟩ = some (.int .i64 x6) ∧ wz.frozen? ⟨w1.heap.size, 0, none⟩ = false ∧ wz.frozen? ⟨w1.heap.size, 1, none⟩ = false ∧ wz.frozen? ⟨w1.heap.size, 2, none⟩ = false ∧ wz.frozen? ⟨w1.heap.size, 3, none⟩ = false ∧ wz.frozen? ⟨w1.heap.size, 4, none⟩ = false ∧ wz.frozen? ⟨w1.heap.size, 5, none⟩ = false ∧ wz.frozen? ⟨w1.heap.size, 6, none⟩ = false) := fun wz h => by
        have q0 := hS1.out.below h (lt_of_heap hS1.out)
        have r0 := hX1.out.below h (lt_of_heap hX1.out)
        exact ⟨q0.cell 0, q0.cell 1, r0.cell 0, r0.cell 1, r0.cell 2, r0.cell 3, r0.cell 4, r0.cell 5, r0.cell 6, r0.frozen 0, r0.frozen 1, r0.frozen 2, r0.frozen 3, r0.frozen 4, r0.frozen 5, r0.frozen 6⟩
      go_wp2_with fail
      refine (vspan_any f t _).mono ?_; rintro e w2 ⟨rfl, hb2⟩
      rw [hsp.out]
      obtain ⟨s0, s1, z0, z1, z2, z3, z4, z5, z6, q0, q1, q2, q3, q4, q5, q6⟩ := kz.out _ hb2
      have hX2 := Lib.hid (hX1.out.below hb2 (lt_of_heap hX1.out))
      replace hb2 : Hid (Below w.heap.size w w2) := hbW1.out.trans (hb2.mono hbW1.out.size)
      go_wp2_with fail
      go_ret2
      exact ⟨_, rfl, OutV.same h.out hc hm hb2.out⟩
set_option maxRecDepth 100000 in
set_option maxHeartbeats 4000000 in
theorem plan_busy (A : Option Addr) (l : List O) (n cap : Nat) (id f t : Int) (w : World) (h : OAt w w.heap.size A n l) (hc : n ≤ cap) (hm : cap ≤ maxLen) (h1 : n ≤ 1000)
    (i : Nat) (hi : i < l.length) (hid : idx id 0 l = i) (hs : l[i].state = 1 ∨ l[i].state = 2) (hsp : okSpan f t = true) (hft : f ≠ t) (hbk : blk i (spanned l[i] f t) 0 l = true) :
    Calls Try.prog 21 #[.slice A n cap, .int .i64 id, .agg #[.int .i64 f, .int .i64 t]] w fun e w' => ∃ v, e = .returned (.tuple #[v, .int .i64 16]) ∧ OutV w w' l v := by
  have hn := Lib.hid h.len
  have hin : i < n := by have := hn.out; omega
  have hi0 : (0 : Int) ≤ i := by omega
  have hi1 : (i : Int) < n := by omega
  have hftb : (f == t) = false := by simpa using hft
  replace hft := Lib.hid hft
  obtain ⟨x, hx⟩ : ∃ x, l[i] = x := ⟨_, rfl⟩
  rw [hx] at hs hbk
  try rw [hx] at hno2
  try rw [hx]
  obtain ⟨ad, rfl, hbl, hk⟩ := h.kept hi hx
  have h' := Lib.hid (h.more (a1 w (.cells #[.int .i64 f, .int .i64 t] 31)))
  have hS0 := Lib.hid (Blk.new w 31 #[.int .i64 f, .int .i64 t])
  replace hx := Lib.hid hx
  replace h := Lib.hid h
  replace hk := Lib.hid hk
  replace hid := Lib.hid hid
  replace hsp := Lib.hid hsp
  try replace hno2 := Lib.hid hno2
  obtain ⟨x0, x1, x2, x3, x4, x5, x6⟩ := x
  simp only at hk hs
  try simp only at hno2
  have hbk' : blk i ⟨x0, x1, x2, f, t, x5, x6⟩ 0 l = _ := hbk
  replace hbk := Lib.hid hbk'
  clear hbk'
  rcases hs with hs | hs
  · subst hs
    go_enter Try.func21, Try.ntmps21
    go_wp2_with fail
    refine (indexO_any (some ad) l n cap id _ h'.out (Nat.le_trans hc hm)).mono ?_; rintro e w1 ⟨rfl, hb1⟩
    rw [hid.out]
    have hbw1 : Hid (Below w.heap.size w w1) := below_a hb1
    obtain ⟨e0, e1, e2, e3, e4, e5, e6⟩ := hk.out _ hbw1.out
    have hSw := Lib.hid (hS0.out.below hb1 (by simp))
    obtain ⟨s0, s1⟩ := (show w1.cell? ⟨w.heap.size, 0, none⟩ = some (.int .i64 f) ∧ w1.cell? ⟨w.heap.size, 1, none⟩ = some (.int .i64 t) from ⟨hSw.out.cell 0, hSw.out.cell 1⟩)
    have hS1 := Lib.hid ((hS0.out.below hb1 (by simp)).alloc (.cells #[.int .i64 x0, .int .i64 x1, .string x2, .int .i64 x3, .int .i64 x4, .int .i64 1, .int .i64 x6] 33))
    have hX1 := Lib.hid (Blk.new w1 33 #[.int .i64 x0, .int .i64 x1, .string x2, .int .i64 x3, .int .i64 x4, .int .i64 1, .int .i64 x6])
    have hsz1 : w.heap.size < w1.heap.size := by have := hb1.size; simp at this; omega
    replace hb1 := Lib.hid hb1
    have hbW1 : Hid (Below w.heap.size w (w1.alloc (.cells #[.int .i64 x0, .int .i64 x1, .string x2, .int .i64 x3, .int .i64 x4, .int .i64 1, .int .i64 x6] 33))) := below_new hbw1.out _
    have kz : Hid (∀ wz, Below (w1.alloc (.cells #[.int .i64 x0, .int .i64 x1, .string x2, .int .i64 x3, .int .i64 x4, .int .i64 1, .int .i64 x6] 33)).heap.size (w1.alloc (.cells #[.int .i64 x0, .int .i64 x1, .string x2, .int .i64 x3, .int .i64 x4, .int .i64 1, .int .i64 x6] 33)) wz → wz.cell? ⟨w.heap.size, 0, none⟩ = some (.int .i64 f) ∧ wz.cell? ⟨w.heap.size, 1, none⟩ = some (.int .i64 t) ∧ wz.cell? ⟨w1.heap.size, 0, none⟩ = some (.int .i64 x0) ∧ wz.cell? ⟨w1.heap.size, 1, none⟩ = some (.int .i64 x1) ∧ wz.cell? ⟨w1.heap.size, 2, none⟩ = some (.string x2) ∧ wz.cell? ⟨w1.heap.size, 3, none⟩ = some (.int .i64 x3) ∧ wz.cell? ⟨w1.heap.size, 4, none⟩ = some (.int .i64 x4) ∧ wz.cell? ⟨w1.heap.size, 5, none⟩ = some (.int .i64 1) ∧ wz.cell? ⟨w1.heap.size, 6, none⟩ = some (.int .i64 x6) ∧ wz.frozen? ⟨w1.heap.size, 0, none⟩ = false ∧ wz.frozen? ⟨w1.heap.size, 1, none⟩ = false ∧ wz.frozen? ⟨w1.heap.size, 2, none⟩ = false ∧ wz.frozen? ⟨w1.heap.size, 3, none⟩ = false ∧ wz.frozen? ⟨w1.heap.size, 4, none⟩ = false ∧ wz.frozen? ⟨w1.heap.size, 5, none⟩ = false ∧ wz.frozen? ⟨w1.heap.size, 6, none⟩ = false) := fun wz h => by
      have q0 := hS1.out.below h (lt_of_heap hS1.out)
      have r0 := hX1.out.below h (lt_of_heap hX1.out)
      exact ⟨q0.cell 0, q0.cell 1, r0.cell 0, r0.cell 1, r0.cell 2, r0.cell 3, r0.cell 4, r0.cell 5, r0.cell 6, r0.frozen 0, r0.frozen 1, r0.frozen 2, r0.frozen 3, r0.frozen 4, r0.frozen 5, r0.frozen 6⟩
    go_wp2_with fail
    refine (vspan_any f t _).mono ?_; rintro e w2 ⟨rfl, hb2⟩
    rw [hsp.out]
    obtain ⟨s0, s1, z0, z1, z2, z3, z4, z5, z6, q0, q1, q2, q3, q4, q5, q6⟩ := kz.out _ hb2
    have hX2 := Lib.hid (hX1.out.below hb2 (lt_of_heap hX1.out))
    replace hb2 : Hid (Below w.heap.size w w2) := hbW1.out.trans (hb2.mono hbW1.out.size)
    go_wp2_with fail
    clear s0 s1 z0 z1 z2 z3 z4 z5 z6 q0 q1 q2 q3 q4 q5 q6
    have hX3 : Hid (Blk ((w2.setCell ⟨w1.heap.size, 3, none⟩ (.int .i64 f)).setCell ⟨w1.heap.size, 4, none⟩ (.int .i64 t)) w1.heap.size 33 #[.int .i64 x0, .int .i64 x1, .string x2, .int .i64 f, .int .i64 t, .int .i64 1, .int .i64 x6]) := (hX2.out.set_ 3 (.int .i64 f)).set_ 4 (.int .i64 t)
    have hb3 : Hid (Below w.heap.size w ((w2.setCell ⟨w1.heap.size, 3, none⟩ (.int .i64 f)).setCell ⟨w1.heap.size, 4, none⟩ (.int .i64 t))) := below_set (below_set hb2.out (Nat.le_of_lt hsz1) _ _) (Nat.le_of_lt hsz1) _ _
    have hxS : Hid (oV ⟨x0, x1, x2, f, t, 1, x6⟩ = .agg #[.int .i64 x0, .int .i64 x1, .string x2, .int .i64 f, .int .i64 t, .int .i64 1, .int .i64 x6]) := rfl
    rw [← hxS.out]
    refine (blocked_any (some ad) l n cap i ⟨x0, x1, x2, f, t, 1, x6⟩ _ (h.out.more hb3.out) (Nat.le_trans hc hm)).mono ?_; rintro e w3 ⟨rfl, hb4⟩
    rw [hbk.out]
    have hX4 := Lib.hid (hX3.out.below hb4 (lt_of_heap hX3.out))
    replace hb4 : Hid (Below w.heap.size w w3) := hb3.out.trans (hb4.mono hb3.out.size)
    go_wp2_with fail
    go_ret2
    exact ⟨_, rfl, OutV.same h.out hc hm hb4.out⟩
  · subst hs
    go_enter Try.func21, Try.ntmps21
    go_wp2_with fail
    refine (indexO_any (some ad) l n cap id _ h'.out (Nat.le_trans hc hm)).mono ?_; rintro e w1 ⟨rfl, hb1⟩
    rw [hid.out]
    have hbw1 : Hid (Below w.heap.size w w1) := below_a hb1
    obtain ⟨e0, e1, e2, e3, e4, e5, e6⟩ := hk.out _ hbw1.out
    have hSw := Lib.hid (hS0.out.below hb1 (by simp))
    obtain ⟨s0, s1⟩ := (show w1.cell? ⟨w.heap.size, 0, none⟩ = some (.int .i64 f) ∧ w1.cell? ⟨w.heap.size, 1, none⟩ = some (.int .i64 t) from ⟨hSw.out.cell 0, hSw.out.cell 1⟩)
    have hS1 := Lib.hid ((hS0.out.below hb1 (by simp)).alloc (.cells #[.int .i64 x0, .int .i64 x1, .string x2, .int .i64 x3, .int .i64 x4, .int .i64 2, .int .i64 x6] 33))
    have hX1 := Lib.hid (Blk.new w1 33 #[.int .i64 x0, .int .i64 x1, .string x2, .int .i64 x3, .int .i64 x4, .int .i64 2, .int .i64 x6])
    have hsz1 : w.heap.size < w1.heap.size := by have := hb1.size; simp at this; omega
    replace hb1 := Lib.hid hb1
    have hbW1 : Hid (Below w.heap.size w (w1.alloc (.cells #[.int .i64 x0, .int .i64 x1, .string x2, .int .i64 x3, .int .i64 x4, .int .i64 2, .int .i64 x6] 33))) := below_new hbw1.out _
    have kz : Hid (∀ wz, Below (w1.alloc (.cells #[.int .i64 x0, .int .i64 x1, .string x2, .int .i64 x3, .int .i64 x4, .int .i64 2, .int .i64 x6] 33)).heap.size (w1.alloc (.cells #[.int .i64 x0, .int .i64 x1, .string x2, .int .i64 x3, .int .i64 x4, .int .i64 2, .int .i64 x6] 33)) wz → wz.cell? ⟨w.heap.size, 0, none⟩ = some (.int .i64 f) ∧ wz.cell? ⟨w.heap.size, 1, none⟩ = some (.int .i64 t) ∧ wz.cell? ⟨w1.heap.size, 0, none⟩ = some (.int .i64 x0) ∧ wz.cell? ⟨w1.heap.size, 1, none⟩ = some (.int .i64 x1) ∧ wz.cell? ⟨w1.heap.size, 2, none⟩ = some (.string x2) ∧ wz.cell? ⟨w1.heap.size, 3, none⟩ = some (.int .i64 x3) ∧ wz.cell? ⟨w1.heap.size, 4, none⟩ = some (.int .i64 x4) ∧ wz.cell? ⟨w1.heap.size, 5, none⟩ = some (.int .i64 2) ∧ wz.cell? ⟨w1.heap.size, 6, none⟩ = some (.int .i64 x6) ∧ wz.frozen? ⟨w1.heap.size, 0, none⟩ = false ∧ wz.frozen? ⟨w1.heap.size, 1, none⟩ = false ∧ wz.frozen? ⟨w1.heap.size, 2, none⟩ = false ∧ wz.frozen? ⟨w1.heap.size, 3, none⟩ = false ∧ wz.frozen? ⟨w1.heap.size, 4, none⟩ = false ∧ wz.frozen? ⟨w1.heap.size, 5, none⟩ = false ∧ wz.frozen? ⟨w1.heap.size, 6, none⟩ = false) := fun wz h => by
      have q0 := hS1.out.below h (lt_of_heap hS1.out)
      have r0 := hX1.out.below h (lt_of_heap hX1.out)
      exact ⟨q0.cell 0, q0.cell 1, r0.cell 0, r0.cell 1, r0.cell 2, r0.cell 3, r0.cell 4, r0.cell 5, r0.cell 6, r0.frozen 0, r0.frozen 1, r0.frozen 2, r0.frozen 3, r0.frozen 4, r0.frozen 5, r0.frozen 6⟩
    go_wp2_with fail
    refine (vspan_any f t _).mono ?_; rintro e w2 ⟨rfl, hb2⟩
    rw [hsp.out]
    obtain ⟨s0, s1, z0, z1, z2, z3, z4, z5, z6, q0, q1, q2, q3, q4, q5, q6⟩ := kz.out _ hb2
    have hX2 := Lib.hid (hX1.out.below hb2 (lt_of_heap hX1.out))
    replace hb2 : Hid (Below w.heap.size w w2) := hbW1.out.trans (hb2.mono hbW1.out.size)
    go_wp2_with fail
    clear s0 s1 z0 z1 z2 z3 z4 z5 z6 q0 q1 q2 q3 q4 q5 q6
    have hX3 : Hid (Blk ((w2.setCell ⟨w1.heap.size, 3, none⟩ (.int .i64 f)).setCell ⟨w1.heap.size, 4, none⟩ (.int .i64 t)) w1.heap.size 33 #[.int .i64 x0, .int .i64 x1, .string x2, .int .i64 f, .int .i64 t, .int .i64 2, .int .i64 x6]) := (hX2.out.set_ 3 (.int .i64 f)).set_ 4 (.int .i64 t)
    have hb3 : Hid (Below w.heap.size w ((w2.setCell ⟨w1.heap.size, 3, none⟩ (.int .i64 f)).setCell ⟨w1.heap.size, 4, none⟩ (.int .i64 t))) := below_set (below_set hb2.out (Nat.le_of_lt hsz1) _ _) (Nat.le_of_lt hsz1) _ _
    have hxS : Hid (oV ⟨x0, x1, x2, f, t, 2, x6⟩ = .agg #[.int .i64 x0, .int .i64 x1, .string x2, .int .i64 f, .int .i64 t, .int .i64 2, .int .i64 x6]) := rfl
    rw [← hxS.out]
    refine (blocked_any (some ad) l n cap i ⟨x0, x1, x2, f, t, 2, x6⟩ _ (h.out.more hb3.out) (Nat.le_trans hc hm)).mono ?_; rintro e w3 ⟨rfl, hb4⟩
    rw [hbk.out]
    have hX4 := Lib.hid (hX3.out.below hb4 (lt_of_heap hX3.out))
    replace hb4 : Hid (Below w.heap.size w w3) := hb3.out.trans (hb4.mono hb3.out.size)
    go_wp2_with fail
    go_ret2
    exact ⟨_, rfl, OutV.same h.out hc hm hb4.out⟩
set_option maxRecDepth 100000 in
set_option maxHeartbeats 4000000 in
theorem plan_ok (A : Option Addr) (l : List O) (n cap : Nat) (id f t : Int) (w : World) (h : OAt w w.heap.size A n l) (hc : n ≤ cap) (hm : cap ≤ maxLen) (h1 : n ≤ 1000) (hno : ∀ o ∈ l, 0 ≤ o.notes)
    (i : Nat) (hi : i < l.length) (hid : idx id 0 l = i) (hs : l[i].state = 1 ∨ l[i].state = 2) (hsp : okSpan f t = true) (hft : f ≠ t) (hbk : blk i (spanned l[i] f t) 0 l = false) :
    Calls Try.prog 21 #[.slice A n cap, .int .i64 id, .agg #[.int .i64 f, .int .i64 t]] w fun e w' => ∃ v, e = .returned (.tuple #[v, .int .i64 0]) ∧ OutV w w' (l.set i (planO l[i] f t)) v := by
  have hno2 := hno _ (List.getElem_mem hi)
  clear hno
  have hpl : Hid (∀ x, planO x f t = if x.state = 1 then enter (spanned x f t) 2 else spanned x f t) := fun x => rfl
  have hn := Lib.hid h.len
  have hin : i < n := by have := hn.out; omega
  have hi0 : (0 : Int) ≤ i := by omega
  have hi1 : (i : Int) < n := by omega
  have hftb : (f == t) = false := by simpa using hft
  replace hft := Lib.hid hft
  obtain ⟨x, hx⟩ : ∃ x, l[i] = x := ⟨_, rfl⟩
  rw [hx] at hs hbk
  try rw [hx] at hno2
  try rw [hx]
  obtain ⟨ad, rfl, hbl, hk⟩ := h.kept hi hx
  have h' := Lib.hid (h.more (a1 w (.cells #[.int .i64 f, .int .i64 t] 31)))
  have hS0 := Lib.hid (Blk.new w 31 #[.int .i64 f, .int .i64 t])
  replace hx := Lib.hid hx
  replace h := Lib.hid h
  replace hk := Lib.hid hk
  replace hid := Lib.hid hid
  replace hsp := Lib.hid hsp
  try replace hno2 := Lib.hid hno2
  obtain ⟨x0, x1, x2, x3, x4, x5, x6⟩ := x
  simp only at hk hs
  try simp only at hno2
  have hbk' : blk i ⟨x0, x1, x2, f, t, x5, x6⟩ 0 l = _ := hbk
  replace hbk := Lib.hid hbk'
  clear hbk'
  rcases hs with hs | hs
  · subst hs
    replace hpl : Hid (planO ⟨x0, x1, x2, x3, x4, 1, x6⟩ f t = enter ⟨x0, x1, x2, f, t, 1, x6⟩ 2) := by show _ = _; rw [hpl.out, if_pos rfl]; rfl
    go_enter Try.func21, Try.ntmps21
    go_wp2_with fail
    refine (indexO_any (some ad) l n cap id _ h'.out (Nat.le_trans hc hm)).mono ?_; rintro e w1 ⟨rfl, hb1⟩
    rw [hid.out]
    have hbw1 : Hid (Below w.heap.size w w1) := below_a hb1
    obtain ⟨e0, e1, e2, e3, e4, e5, e6⟩ := hk.out _ hbw1.out
    have hSw := Lib.hid (hS0.out.below hb1 (by simp))
    obtain ⟨s0, s1⟩ := (show w1.cell? ⟨w.heap.size, 0, none⟩ = some (.int .i64 f) ∧ w1.cell? ⟨w.heap.size, 1, none⟩ = some (.int .i64 t) from ⟨hSw.out.cell 0, hSw.out.cell 1⟩)
    have hS1 := Lib.hid ((hS0.out.below hb1 (by simp)).alloc (.cells #[.int .i64 x0, .int .i64 x1, .string x2, .int .i64 x3, .int .i64 x4, .int .i64 1, .int .i64 x6] 33))
    have hX1 := Lib.hid (Blk.new w1 33 #[.int .i64 x0, .int .i64 x1, .string x2, .int .i64 x3, .int .i64 x4, .int .i64 1, .int .i64 x6])
    have hsz1 : w.heap.size < w1.heap.size := by have := hb1.size; simp at this; omega
    replace hb1 := Lib.hid hb1
    have hbW1 : Hid (Below w.heap.size w (w1.alloc (.cells #[.int .i64 x0, .int .i64 x1, .string x2, .int .i64 x3, .int .i64 x4, .int .i64 1, .int .i64 x6] 33))) := below_new hbw1.out _
    have kz : Hid (∀ wz, Below (w1.alloc (.cells #[.int .i64 x0, .int .i64 x1, .string x2, .int .i64 x3, .int .i64 x4, .int .i64 1, .int .i64 x6] 33)).heap.size (w1.alloc (.cells #[.int .i64 x0, .int .i64 x1, .string x2, .int .i64 x3, .int .i64 x4, .int .i64 1, .int .i64 x6] 33)) wz → wz.cell? ⟨w.heap.size, 0, none⟩ = some (.int .i64 f) ∧ wz.cell? ⟨w.heap.size, 1, none⟩ = some (.int .i64 t) ∧ wz.cell? ⟨w1.heap.size, 0, none⟩ = some (.int .i64 x0) ∧ wz.cell? ⟨w1.heap.size, 1, none⟩ = some (.int .i64 x1) ∧ wz.cell? ⟨w1.heap.size, 2, none⟩ = some (.string x2) ∧ wz.cell? ⟨w1.heap.size, 3, none⟩ = some (.int .i64 x3) ∧ wz.cell? ⟨w1.heap.size, 4, none⟩ = some (.int .i64 x4) ∧ wz.cell? ⟨w1.heap.size, 5, none⟩ = some (.int .i64 1) ∧ wz.cell? ⟨w1.heap.size, 6, none⟩ = some (.int .i64 x6) ∧ wz.frozen? ⟨w1.heap.size, 0, none⟩ = false ∧ wz.frozen? ⟨w1.heap.size, 1, none⟩ = false ∧ wz.frozen? ⟨w1.heap.size, 2, none⟩ = false ∧ wz.frozen? ⟨w1.heap.size, 3, none⟩ = false ∧ wz.frozen? ⟨w1.heap.size, 4, none⟩ = false ∧ wz.frozen? ⟨w1.heap.size, 5, none⟩ = false ∧ wz.frozen? ⟨w1.heap.size, 6, none⟩ = false) := fun wz h => by
      have q0 := hS1.out.below h (lt_of_heap hS1.out)
      have r0 := hX1.out.below h (lt_of_heap hX1.out)
      exact ⟨q0.cell 0, q0.cell 1, r0.cell 0, r0.cell 1, r0.cell 2, r0.cell 3, r0.cell 4, r0.cell 5, r0.cell 6, r0.frozen 0, r0.frozen 1, r0.frozen 2, r0.frozen 3, r0.frozen 4, r0.frozen 5, r0.frozen 6⟩
    go_wp2_with fail
    refine (vspan_any f t _).mono ?_; rintro e w2 ⟨rfl, hb2⟩
    rw [hsp.out]
    obtain ⟨s0, s1, z0, z1, z2, z3, z4, z5, z6, q0, q1, q2, q3, q4, q5, q6⟩ := kz.out _ hb2
    have hX2 := Lib.hid (hX1.out.below hb2 (lt_of_heap hX1.out))
    replace hb2 : Hid (Below w.heap.size w w2) := hbW1.out.trans (hb2.mono hbW1.out.size)
    go_wp2_with fail
    clear s0 s1 z0 z1 z2 z3 z4 z5 z6 q0 q1 q2 q3 q4 q5 q6
    have hX3 : Hid (Blk ((w2.setCell ⟨w1.heap.size, 3, none⟩ (.int .i64 f)).setCell ⟨w1.heap.size, 4, none⟩ (.int .i64 t)) w1.heap.size 33 #[.int .i64 x0, .int .i64 x1, .string x2, .int .i64 f, .int .i64 t, .int .i64 1, .int .i64 x6]) := (hX2.out.set_ 3 (.int .i64 f)).set_ 4 (.int .i64 t)
    have hb3 : Hid (Below w.heap.size w ((w2.setCell ⟨w1.heap.size, 3, none⟩ (.int .i64 f)).setCell ⟨w1.heap.size, 4, none⟩ (.int .i64 t))) := below_set (below_set hb2.out (Nat.le_of_lt hsz1) _ _) (Nat.le_of_lt hsz1) _ _
    have hxS : Hid (oV ⟨x0, x1, x2, f, t, 1, x6⟩ = .agg #[.int .i64 x0, .int .i64 x1, .string x2, .int .i64 f, .int .i64 t, .int .i64 1, .int .i64 x6]) := rfl
    rw [← hxS.out]
    refine (blocked_any (some ad) l n cap i ⟨x0, x1, x2, f, t, 1, x6⟩ _ (h.out.more hb3.out) (Nat.le_trans hc hm)).mono ?_; rintro e w3 ⟨rfl, hb4⟩
    rw [hbk.out]
    have hX4 := Lib.hid (hX3.out.below hb4 (lt_of_heap hX3.out))
    replace hb4 : Hid (Below w.heap.size w w3) := hb3.out.trans (hb4.mono hb3.out.size)
    have ky : Hid (∀ wz, Below (w3).heap.size (w3) wz → wz.cell? ⟨w1.heap.size, 0, none⟩ = some (.int .i64 x0) ∧ wz.cell? ⟨w1.heap.size, 1, none⟩ = some (.int .i64 x1) ∧ wz.cell? ⟨w1.heap.size, 2, none⟩ = some (.string x2) ∧ wz.cell? ⟨w1.heap.size, 3, none⟩ = some (.int .i64 f) ∧ wz.cell? ⟨w1.heap.size, 4, none⟩ = some (.int .i64 t) ∧ wz.cell? ⟨w1.heap.size, 5, none⟩ = some (.int .i64 1) ∧ wz.cell? ⟨w1.heap.size, 6, none⟩ = some (.int .i64 x6) ∧ wz.frozen? ⟨w1.heap.size, 0, none⟩ = false ∧ wz.frozen? ⟨w1.heap.size, 1, none⟩ = false ∧ wz.frozen? ⟨w1.heap.size, 2, none⟩ = false ∧ wz.frozen? ⟨w1.heap.size, 3, none⟩ = false ∧ wz.frozen? ⟨w1.heap.size, 4, none⟩ = false ∧ wz.frozen? ⟨w1.heap.size, 5, none⟩ = false ∧ wz.frozen? ⟨w1.heap.size, 6, none⟩ = false) := fun wz h => by
      have r0 := hX4.out.below h (lt_of_heap hX4.out)
      exact ⟨r0.cell 0, r0.cell 1, r0.cell 2, r0.cell 3, r0.cell 4, r0.cell 5, r0.cell 6, r0.frozen 0, r0.frozen 1, r0.frozen 2, r0.frozen 3, r0.frozen 4, r0.frozen 5, r0.frozen 6⟩
    obtain ⟨z0, z1, z2, z3, z4, z5, z6, q0, q1, q2, q3, q4, q5, q6⟩ := ky.out _ (Below.refl _ _)
    go_wp2_with fail
    rw [← hxS.out]
    refine (enter_any ⟨x0, x1, x2, f, t, 1, x6⟩ 2 _ hno2.out).mono ?_; rintro e w4 ⟨rfl, hb5⟩
    clear z0 z1 z2 z3 z4 z5 z6 q0 q1 q2 q3 q4 q5 q6
    obtain ⟨z0, z1, z2, z3, z4, z5, z6, q0, q1, q2, q3, q4, q5, q6⟩ := ky.out _ hb5
    have hX5 := Lib.hid (hX4.out.below hb5 (lt_of_heap hX4.out))
    replace hb5 : Hid (Below w.heap.size w w4) := hb4.out.trans (hb5.mono hb4.out.size)
    generalize hye : enter ⟨x0, x1, x2, f, t, 1, x6⟩ 2 = y at *
    replace hye := Lib.hid hye
    have hyV : Hid (oV y = .agg #[.int .i64 y.id, .int .i64 y.conn, .string y.st, .int .i64 y.fr, .int .i64 y.tt, .int .i64 y.state, .int .i64 y.notes]) := rfl
    obtain ⟨y0, y1, y2, y3, y4, y5, y6⟩ := y
    rw [hyV.out]
    go_wp2_with fail
    have hX6 : Hid (Blk _ w1.heap.size 33 #[.int .i64 y0, .int .i64 y1, .string y2, .int .i64 y3, .int .i64 y4, .int .i64 y5, .int .i64 y6]) := ((((((hX5.out.set_ 0 (.int .i64 y0)).set_ 1 (.int .i64 y1)).set_ 2 (.string y2)).set_ 3 (.int .i64 y3)).set_ 4 (.int .i64 y4)).set_ 5 (.int .i64 y5)).set_ 6 (.int .i64 y6)
    have hb6 : Hid (Below w.heap.size w _) := below_set (below_set (below_set (below_set (below_set (below_set (below_set hb5.out (Nat.le_of_lt hsz1) 0 (.int .i64 y0)) (Nat.le_of_lt hsz1) 1 (.int .i64 y1)) (Nat.le_of_lt hsz1) 2 (.string y2)) (Nat.le_of_lt hsz1) 3 (.int .i64 y3)) (Nat.le_of_lt hsz1) 4 (.int .i64 y4)) (Nat.le_of_lt hsz1) 5 (.int .i64 y5)) (Nat.le_of_lt hsz1) 6 (.int .i64 y6)
    clear z0 z1 z2 z3 z4 z5 z6 q0 q1 q2 q3 q4 q5 q6
    refine (copied_any (some ad) l n cap _ (h.out.more hb6.out) h1).mono ?_; rintro e w5 ⟨rfl, ho5, hb7⟩
    have hX7 := Lib.hid (hX6.out.below hb7 (lt_of_heap hX6.out))
    have hsz6 := hb6.out.size
    replace hb7 : Hid (Below w.heap.size w w5) := hb6.out.trans (hb7.mono hb6.out.size)
    obtain ⟨G, hG⟩ : ∃ G, G = (((((((w4.setCell ⟨w1.heap.size, 0, none⟩ (.int .i64 y0)).setCell ⟨w1.heap.size, 1, none⟩ (.int .i64 y1)).setCell ⟨w1.heap.size, 2, none⟩ (.string y2)).setCell ⟨w1.heap.size, 3, none⟩ (.int .i64 y3)).setCell ⟨w1.heap.size, 4, none⟩ (.int .i64 y4)).setCell ⟨w1.heap.size, 5, none⟩ (.int .i64 y5)).setCell ⟨w1.heap.size, 6, none⟩ (.int .i64 y6)).heap.size := ⟨_, rfl⟩
    rw [show (((((((w4.setCell ⟨w1.heap.size, 0, none⟩ (.int .i64 y0)).setCell ⟨w1.heap.size, 1, none⟩ (.int .i64 y1)).setCell ⟨w1.heap.size, 2, none⟩ (.string y2)).setCell ⟨w1.heap.size, 3, none⟩ (.int .i64 y3)).setCell ⟨w1.heap.size, 4, none⟩ (.int .i64 y4)).setCell ⟨w1.heap.size, 5, none⟩ (.int .i64 y5)).setCell ⟨w1.heap.size, 6, none⟩ (.int .i64 y6)).heap.size = G from hG.symm] at ho5 ⊢
    replace hG := Lib.hid hG
    replace ho5 := Lib.hid ho5
    obtain ⟨z0, z1, z2, z3, z4, z5, z6⟩ := (show w5.cell? ⟨w1.heap.size, 0, none⟩ = some (.int .i64 y0) ∧ w5.cell? ⟨w1.heap.size, 1, none⟩ = some (.int .i64 y1) ∧ w5.cell? ⟨w1.heap.size, 2, none⟩ = some (.string y2) ∧ w5.cell? ⟨w1.heap.size, 3, none⟩ = some (.int .i64 y3) ∧ w5.cell? ⟨w1.heap.size, 4, none⟩ = some (.int .i64 y4) ∧ w5.cell? ⟨w1.heap.size, 5, none⟩ = some (.int .i64 y5) ∧ w5.cell? ⟨w1.heap.size, 6, none⟩ = some (.int .i64 y6) from ⟨hX7.out.cell 0, hX7.out.cell 1, hX7.out.cell 2, hX7.out.cell 3, hX7.out.cell 4, hX7.out.cell 5, hX7.out.cell 6⟩)
    obtain ⟨c0, c1, c2, c3, c4, c5, c6, f0, f1, f2, f3, f4, f5, f6⟩ := own_slots ho5.out hn.out hi hx.out
    simp only at c0 c1 c2 c3 c4 c5 c6
    go_wp2_with fail
    obtain ⟨p1, p2⟩ := ho5.out.store hn.out.symm hi ⟨y0, y1, y2, y3, y4, y5, y6⟩
    have hg := (ho5.out.grown_base hn.out.symm).1
    go_ret2
    exact ⟨_, rfl, by rw [hpl.out]; exact OutV.own p1 (below_grown hb7.out p2 (Nat.le_trans (by rw [hG.out]; exact hsz6) hg))⟩
  · subst hs
    replace hpl : Hid (planO ⟨x0, x1, x2, x3, x4, 2, x6⟩ f t = ⟨x0, x1, x2, f, t, 2, x6⟩) := by show _ = _; rw [hpl.out, if_neg (by simp)]; rfl
    go_enter Try.func21, Try.ntmps21
    go_wp2_with fail
    refine (indexO_any (some ad) l n cap id _ h'.out (Nat.le_trans hc hm)).mono ?_; rintro e w1 ⟨rfl, hb1⟩
    rw [hid.out]
    have hbw1 : Hid (Below w.heap.size w w1) := below_a hb1
    obtain ⟨e0, e1, e2, e3, e4, e5, e6⟩ := hk.out _ hbw1.out
    have hSw := Lib.hid (hS0.out.below hb1 (by simp))
    obtain ⟨s0, s1⟩ := (show w1.cell? ⟨w.heap.size, 0, none⟩ = some (.int .i64 f) ∧ w1.cell? ⟨w.heap.size, 1, none⟩ = some (.int .i64 t) from ⟨hSw.out.cell 0, hSw.out.cell 1⟩)
    have hS1 := Lib.hid ((hS0.out.below hb1 (by simp)).alloc (.cells #[.int .i64 x0, .int .i64 x1, .string x2, .int .i64 x3, .int .i64 x4, .int .i64 2, .int .i64 x6] 33))
    have hX1 := Lib.hid (Blk.new w1 33 #[.int .i64 x0, .int .i64 x1, .string x2, .int .i64 x3, .int .i64 x4, .int .i64 2, .int .i64 x6])
    have hsz1 : w.heap.size < w1.heap.size := by have := hb1.size; simp at this; omega
    replace hb1 := Lib.hid hb1
    have hbW1 : Hid (Below w.heap.size w (w1.alloc (.cells #[.int .i64 x0, .int .i64 x1, .string x2, .int .i64 x3, .int .i64 x4, .int .i64 2, .int .i64 x6] 33))) := below_new hbw1.out _
    have kz : Hid (∀ wz, Below (w1.alloc (.cells #[.int .i64 x0, .int .i64 x1, .string x2, .int .i64 x3, .int .i64 x4, .int .i64 2, .int .i64 x6] 33)).heap.size (w1.alloc (.cells #[.int .i64 x0, .int .i64 x1, .string x2, .int .i64 x3, .int .i64 x4, .int .i64 2, .int .i64 x6] 33)) wz → wz.cell? ⟨w.heap.size, 0, none⟩ = some (.int .i64 f) ∧ wz.cell? ⟨w.heap.size, 1, none⟩ = some (.int .i64 t) ∧ wz.cell? ⟨w1.heap.size, 0, none⟩ = some (.int .i64 x0) ∧ wz.cell? ⟨w1.heap.size, 1, none⟩ = some (.int .i64 x1) ∧ wz.cell? ⟨w1.heap.size, 2, none⟩ = some (.string x2) ∧ wz.cell? ⟨w1.heap.size, 3, none⟩ = some (.int .i64 x3) ∧ wz.cell? ⟨w1.heap.size, 4, none⟩ = some (.int .i64 x4) ∧ wz.cell? ⟨w1.heap.size, 5, none⟩ = some (.int .i64 2) ∧ wz.cell? ⟨w1.heap.size, 6, none⟩ = some (.int .i64 x6) ∧ wz.frozen? ⟨w1.heap.size, 0, none⟩ = false ∧ wz.frozen? ⟨w1.heap.size, 1, none⟩ = false ∧ wz.frozen? ⟨w1.heap.size, 2, none⟩ = false ∧ wz.frozen? ⟨w1.heap.size, 3, none⟩ = false ∧ wz.frozen? ⟨w1.heap.size, 4, none⟩ = false ∧ wz.frozen? ⟨w1.heap.size, 5, none⟩ = false ∧ wz.frozen? ⟨w1.heap.size, 6, none⟩ = false) := fun wz h => by
      have q0 := hS1.out.below h (lt_of_heap hS1.out)
      have r0 := hX1.out.below h (lt_of_heap hX1.out)
      exact ⟨q0.cell 0, q0.cell 1, r0.cell 0, r0.cell 1, r0.cell 2, r0.cell 3, r0.cell 4, r0.cell 5, r0.cell 6, r0.frozen 0, r0.frozen 1, r0.frozen 2, r0.frozen 3, r0.frozen 4, r0.frozen 5, r0.frozen 6⟩
    go_wp2_with fail
    refine (vspan_any f t _).mono ?_; rintro e w2 ⟨rfl, hb2⟩
    rw [hsp.out]
    obtain ⟨s0, s1, z0, z1, z2, z3, z4, z5, z6, q0, q1, q2, q3, q4, q5, q6⟩ := kz.out _ hb2
    have hX2 := Lib.hid (hX1.out.below hb2 (lt_of_heap hX1.out))
    replace hb2 : Hid (Below w.heap.size w w2) := hbW1.out.trans (hb2.mono hbW1.out.size)
    go_wp2_with fail
    clear s0 s1 z0 z1 z2 z3 z4 z5 z6 q0 q1 q2 q3 q4 q5 q6
    have hX3 : Hid (Blk ((w2.setCell ⟨w1.heap.size, 3, none⟩ (.int .i64 f)).setCell ⟨w1.heap.size, 4, none⟩ (.int .i64 t)) w1.heap.size 33 #[.int .i64 x0, .int .i64 x1, .string x2, .int .i64 f, .int .i64 t, .int .i64 2, .int .i64 x6]) := (hX2.out.set_ 3 (.int .i64 f)).set_ 4 (.int .i64 t)
    have hb3 : Hid (Below w.heap.size w ((w2.setCell ⟨w1.heap.size, 3, none⟩ (.int .i64 f)).setCell ⟨w1.heap.size, 4, none⟩ (.int .i64 t))) := below_set (below_set hb2.out (Nat.le_of_lt hsz1) _ _) (Nat.le_of_lt hsz1) _ _
    have hxS : Hid (oV ⟨x0, x1, x2, f, t, 2, x6⟩ = .agg #[.int .i64 x0, .int .i64 x1, .string x2, .int .i64 f, .int .i64 t, .int .i64 2, .int .i64 x6]) := rfl
    rw [← hxS.out]
    refine (blocked_any (some ad) l n cap i ⟨x0, x1, x2, f, t, 2, x6⟩ _ (h.out.more hb3.out) (Nat.le_trans hc hm)).mono ?_; rintro e w3 ⟨rfl, hb4⟩
    rw [hbk.out]
    have hX4 := Lib.hid (hX3.out.below hb4 (lt_of_heap hX3.out))
    replace hb4 : Hid (Below w.heap.size w w3) := hb3.out.trans (hb4.mono hb3.out.size)
    have ky : Hid (∀ wz, Below (w3).heap.size (w3) wz → wz.cell? ⟨w1.heap.size, 0, none⟩ = some (.int .i64 x0) ∧ wz.cell? ⟨w1.heap.size, 1, none⟩ = some (.int .i64 x1) ∧ wz.cell? ⟨w1.heap.size, 2, none⟩ = some (.string x2) ∧ wz.cell? ⟨w1.heap.size, 3, none⟩ = some (.int .i64 f) ∧ wz.cell? ⟨w1.heap.size, 4, none⟩ = some (.int .i64 t) ∧ wz.cell? ⟨w1.heap.size, 5, none⟩ = some (.int .i64 2) ∧ wz.cell? ⟨w1.heap.size, 6, none⟩ = some (.int .i64 x6) ∧ wz.frozen? ⟨w1.heap.size, 0, none⟩ = false ∧ wz.frozen? ⟨w1.heap.size, 1, none⟩ = false ∧ wz.frozen? ⟨w1.heap.size, 2, none⟩ = false ∧ wz.frozen? ⟨w1.heap.size, 3, none⟩ = false ∧ wz.frozen? ⟨w1.heap.size, 4, none⟩ = false ∧ wz.frozen? ⟨w1.heap.size, 5, none⟩ = false ∧ wz.frozen? ⟨w1.heap.size, 6, none⟩ = false) := fun wz h => by
      have r0 := hX4.out.below h (lt_of_heap hX4.out)
      exact ⟨r0.cell 0, r0.cell 1, r0.cell 2, r0.cell 3, r0.cell 4, r0.cell 5, r0.cell 6, r0.frozen 0, r0.frozen 1, r0.frozen 2, r0.frozen 3, r0.frozen 4, r0.frozen 5, r0.frozen 6⟩
    obtain ⟨z0, z1, z2, z3, z4, z5, z6, q0, q1, q2, q3, q4, q5, q6⟩ := ky.out _ (Below.refl _ _)
    go_wp2_with fail
    clear z0 z1 z2 z3 z4 z5 z6 q0 q1 q2 q3 q4 q5 q6
    refine (copied_any (some ad) l n cap _ (h.out.more hb4.out) h1).mono ?_; rintro e w5 ⟨rfl, ho5, hb7⟩
    have hX7 := Lib.hid (hX4.out.below hb7 (lt_of_heap hX4.out))
    have hb6 := hb4
    have hsz6 := hb6.out.size
    replace hb7 : Hid (Below w.heap.size w w5) := hb6.out.trans (hb7.mono hb6.out.size)
    obtain ⟨G, hG⟩ : ∃ G, G = w3.heap.size := ⟨_, rfl⟩
    rw [show w3.heap.size = G from hG.symm] at ho5 ⊢
    replace hG := Lib.hid hG
    replace ho5 := Lib.hid ho5
    obtain ⟨z0, z1, z2, z3, z4, z5, z6⟩ := (show w5.cell? ⟨w1.heap.size, 0, none⟩ = some (.int .i64 x0) ∧ w5.cell? ⟨w1.heap.size, 1, none⟩ = some (.int .i64 x1) ∧ w5.cell? ⟨w1.heap.size, 2, none⟩ = some (.string x2) ∧ w5.cell? ⟨w1.heap.size, 3, none⟩ = some (.int .i64 f) ∧ w5.cell? ⟨w1.heap.size, 4, none⟩ = some (.int .i64 t) ∧ w5.cell? ⟨w1.heap.size, 5, none⟩ = some (.int .i64 2) ∧ w5.cell? ⟨w1.heap.size, 6, none⟩ = some (.int .i64 x6) from ⟨hX7.out.cell 0, hX7.out.cell 1, hX7.out.cell 2, hX7.out.cell 3, hX7.out.cell 4, hX7.out.cell 5, hX7.out.cell 6⟩)
    obtain ⟨c0, c1, c2, c3, c4, c5, c6, f0, f1, f2, f3, f4, f5, f6⟩ := own_slots ho5.out hn.out hi hx.out
    simp only at c0 c1 c2 c3 c4 c5 c6
    go_wp2_with fail
    obtain ⟨p1, p2⟩ := ho5.out.store hn.out.symm hi ⟨x0, x1, x2, f, t, 2, x6⟩
    have hg := (ho5.out.grown_base hn.out.symm).1
    go_ret2
    exact ⟨_, rfl, by rw [hpl.out]; exact OutV.own p1 (below_grown hb7.out p2 (Nat.le_trans (by rw [hG.out]; exact hsz6) hg))⟩
theorem plan_any (A : Option Addr) (l : List O) (n cap : Nat) (id f t : Int) (w : World) (h : OAt w w.heap.size A n l) (hc : n ≤ cap) (hm : cap ≤ maxLen) (h1 : n ≤ 1000) (hno : ∀ o ∈ l, 0 ≤ o.notes) :
    Calls Try.prog 21 #[.slice A n cap, .int .i64 id, .agg #[.int .i64 f, .int .i64 t]] w fun e w' => ∃ v, e = .returned (.tuple #[v, .int .i64 (planF l id f t).2]) ∧ OutV w w' (planF l id f t).1 v := by
  rcases idx_bd id l 0 with ⟨hid, _⟩ | ⟨i, hi, hid, _⟩
  · have e : planF l id f t = (l, 8) := by
      unfold planF
      split
      · rfl
      · rw [if_pos (by rw [hid]; decide)]
    rw [e]
    exact plan_none A l n cap id f t w h hc hm hid
  · have hid' : idx id 0 l = i := by simpa using hid
    have e : planF l id f t = if l[i].state ≠ 1 ∧ l[i].state ≠ 2 then (l, 10) else if okSpan f t = false ∨ f = t then (l, 2) else if blk i (spanned l[i] f t) 0 l = true then (l, 16) else (l.set i (planO l[i] f t), 0) := by
      unfold planF
      rw [hid', Int.toNat_natCast, List.getElem?_eq_getElem hi]
      simp only
      rw [if_neg (by omega)]
    rw [e]
    by_cases h1' : l[i].state ≠ 1 ∧ l[i].state ≠ 2
    · rw [if_pos h1']
      exact plan_bad A l n cap id f t 10 w h hc hm h1 i hi hid' (.inl ⟨h1'.1, h1'.2, rfl⟩)
    · rw [if_neg h1']
      have hs : l[i].state = 1 ∨ l[i].state = 2 := by omega
      by_cases h2 : okSpan f t = false ∨ f = t
      · rw [if_pos h2]
        refine plan_bad A l n cap id f t 2 w h hc hm h1 i hi hid' (.inr ⟨hs, ?_, rfl⟩)
        cases hsp : okSpan f t with
        | false => exact .inl rfl
        | true => exact .inr ⟨rfl, h2.resolve_left (by rw [hsp]; simp)⟩
      · rw [if_neg h2]
        have hsp : okSpan f t = true := by
          cases hsp : okSpan f t with
          | false => exact absurd (.inl hsp) h2
          | true => rfl
        have hft : f ≠ t := fun g => h2 (.inr g)
        cases hbk : blk i (spanned l[i] f t) 0 l with
        | true => simpa using plan_busy A l n cap id f t w h hc hm h1 i hi hid' hs hsp hft hbk
        | false => simpa using plan_ok A l n cap id f t w h hc hm h1 hno i hi hid' hs hsp hft hbk
end Go.Proofs.Ytpejfnfhbpckiaa
