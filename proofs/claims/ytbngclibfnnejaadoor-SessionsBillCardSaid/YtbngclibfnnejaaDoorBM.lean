/- A session's uses, counted. -/
import Derived.Test.YtbngclibfnnejaaDoorBL
set_option linter.unusedVariables false
set_option linter.unusedSimpArgs false
namespace Go.Proofs.YtbngclibfnnejaaDoor
open Go.RowKit
def LastOk (l0 l1 l2 : Int) (kn : Bool) : Prop := kn = true → l0 = 0 ∧ l1 = 2 ∧ l2 = 1
theorem Ses.below {w w' : World} {gh eA cA b B : Nat} {cost rate start l0 l1 l2 S : Int} {kn : Bool} (h : Ses w gh eA cA b cost rate start l0 l1 l2 kn S) (hb : Below w.heap.size w w') : Ses w' gh eA cA b cost rate start l0 l1 l2 kn S := ⟨h.s.below hb h.s.lt, h.T.more hb, h.M.same (hb.block b h.M.lt)⟩
theorem GlobOk.below {B : Nat} {w w' : World} (h : GlobOk w) (hb : Below B w w') (h2 : 2 < B) : GlobOk w' := fun j v hj => (hb.cell (p := ⟨2, j, none⟩) h2).trans (h j v hj)
set_option maxRecDepth 100000 in
set_option maxHeartbeats 4000000 in
theorem count_any (B0 gh eA cA b gu N9 : Nat) (cost rate start : Int) (M : List Int) (w : World) (hg : GlobOk w) (hg2 : 2 < B0) (hs : Ses w gh eA cA b cost rate start 0 0 0 false 0) (hu : LAt usC 2 w B0 (some ⟨gu, 0, none⟩) N9 M) (hB : B0 ≤ gh ∧ B0 ≤ b ∧ gh ≠ b ∧ eA < B0 ∧ cA < B0) (hBw : B0 ≤ w.heap.size) (hN : N9 ≤ 3000) (hM : ∀ x ∈ M, 0 ≤ x ∧ x ≤ 1000000) (h0 : 0 ≤ start) (h1 : start + N9 ≤ 268435456) : Calls Tryd.prog 23 #[.pointer (some ⟨gh, 0, none⟩), .slice (some ⟨gu, 0, none⟩) N9 N9] w fun e w' => (∃ v, e = .returned v) ∧ (∃ l0 l1 l2 kn, Ses w' gh eA cA b cost rate start l0 l1 l2 kn M.sum ∧ LastOk l0 l1 l2 kn) ∧ Below B0 w w' := by
  have hl := Lib.hid hu.len
  have hano := Lib.hid (fun l0 l1 l2 kind mi en po kn w hs hT hk => add_no gh eA cA b cost rate start l0 l1 l2 kind mi en po 1 kn w hs hT hk (by decide))
  by_cases hN0 : N9 = 0
  · subst hN0
    obtain rfl : M = [] := List.eq_nil_of_length_eq_zero hl.out
    have hc := Lib.hid (hano.out 0 0 0 1 0 0 0 false w hs.s hs.T (by decide))
    replace hs := Lib.hid hs
    clear hu hg hM hano
    go_enter Tryd.func23, Tryd.ntmps23
    go_wp2_with fail
    refine hc.out.mono ?_; rintro e w1 ⟨⟨v, rfl⟩, hq⟩
    have hs1 := Lib.hid (Ses.below (B := B0) hs.out hq)
    have hb1 : Hid (Below B0 w w1) := hq.mono hBw
    clear hq hc hs
    go_wp2_with fail
    go_loopw [20] (fun i wr => i = .int .i64 0 ∧ wr = w1) (fun _ _ => 0)
    case atStart => exact ⟨rfl, rfl⟩
    case round =>
      obtain ⟨rfl, rfl⟩ := hrel
      go_wp2_with fail
      go_end0
      exact ⟨⟨_, rfl⟩, ⟨0, 0, 0, false, by simpa using hs1.out, fun h => by cases h⟩, hb1.out⟩
  · have d0 : decide ((0 : Int) < N9) = true := by simp; omega
    have d0' : decide (0 < N9) = true := by simp; omega
    obtain ⟨ad, hA, -, e0, -⟩ := us_cells hu (show 0 < N9 by omega)
    injection hA with hA
    subst hA
    rw [add_row, Nat.zero_mul] at e0
    generalize hx0 : M[0]'(by have := hl.out; omega) = x0 at e0
    have hc := hano.out 0 0 0 1 0 0 x0 false w hs.s hs.T (by decide)
    replace hc := Lib.hid hc
    replace hs := Lib.hid hs
    replace hu := Lib.hid hu
    replace hg := Lib.hid hg
    replace hN0 := Lib.hid hN0
    replace hx0 := Lib.hid hx0
    go_enter Tryd.func23, Tryd.ntmps23
    go_wp2_with fail
    refine hc.out.mono ?_; rintro e w1 ⟨⟨v, rfl⟩, hq⟩
    have hs1 := Lib.hid (Ses.below (B := B0) hs.out hq)
    have hb1 : Hid (Below B0 w w1) := hq.mono hBw
    clear hq hc
    go_wp2_with fail
    clear e0
    replace d0 := Lib.hid d0
    replace d0' := Lib.hid d0'
    clear hs
    go_loopw [20, 5] (fun i ev wr => ∃ (k : Nat) (E : Int), k ≤ N9 ∧ i = .int .i64 k ∧ ev = .int .i64 E ∧ 0 ≤ E ∧ E ≤ 1000000 * k ∧ Hid (∃ l0 l1 l2 kn, Ses wr gh eA cA b cost rate start l0 l1 l2 kn (M.take k).sum ∧ LastOk l0 l1 l2 kn ∧ (M.take k).sum = E) ∧ Hid (Below B0 w wr)) (fun i _ _ => N9 - (intOf i).toNat)
    case atStart => exact ⟨0, 0, Nat.zero_le _, rfl, rfl, by omega, by omega, ⟨0, 0, 0, false, by simpa using hs1.out, (fun h => by cases h), by simp⟩, hb1.out⟩
    case round =>
      clear hs1 hb1
      obtain ⟨k, E, hkn, rfl, rfl, hE0, hE1, hS, hb⟩ := hrel
      by_cases hlt : k < N9
      · have hkl : k < M.length := by have := hl.out; omega
        have hk0 : (0 : Int) ≤ k := by omega
        have hk1 : (k : Int) < N9 := by omega
        have hx := hM M[k] (List.getElem_mem hkl)
        have hsum : Hid ((M.take (k + 1)).sum = (M.take k).sum + M[k]) := by show _ = _; rw [List.take_succ_eq_append_getElem hkl, List.sum_append]; simp
        obtain ⟨ad, hA, -, e0, e1⟩ := us_cells (hu.out.below hb.out (Nat.le_refl _)) hlt
        injection hA with hA
        subst hA
        rw [add_row] at e0 e1
        generalize M[k] = x at *
        obtain ⟨l0, l1, l2, kn, hSe, hLO, hSE⟩ := hS.out
        have hlt9 : gh < wr.heap.size ∧ b < wr.heap.size := ⟨hSe.s.lt, hSe.M.lt⟩
        have hN := Lib.hid (Blk.new wr 78 #[Value.int .i64 x, Value.bool (x == 0)])
        have hbN := a1 wr (.cells #[Value.int .i64 x, Value.bool (x == 0)] 78)
        have hSe2 := Ses.below (B := B0) hSe hbN
        have hb2 : Hid (Below B0 w (wr.alloc (.cells #[Value.int .i64 x, Value.bool (x == 0)] 78))) := hb.out.trans (hbN.mono (by have := hb.out.size; omega))
        have n0 : ((wr.alloc (.cells #[Value.int .i64 x, Value.bool (x == 0)] 78))).cell? ⟨wr.heap.size, 0, none⟩ = some (Value.int .i64 x) := (hN.out).cell 0; have n1 : ((wr.alloc (.cells #[Value.int .i64 x, Value.bool (x == 0)] 78))).cell? ⟨wr.heap.size, 1, none⟩ = some (Value.bool (x == 0)) := (hN.out).cell 1
        replace hSe := Lib.hid hSe
        replace hS := Lib.hid hS
        by_cases hx0 : x = 0
        · subst hx0
          have hz := Lib.hid (add_zero_any gh 2 k E 0 0 (wr.alloc (.cells #[Value.int .i64 0, Value.bool true] 78)) (Int.le_refl _))
          have hN9 : Hid (Blk (wr.alloc (.cells #[Value.int .i64 0, Value.bool true] 78)) wr.heap.size 78 #[Value.int .i64 0, Value.bool true]) := hN.out
          have hno := Lib.hid (hano.out l0 l1 l2 4 k E 0 kn (wr.alloc (.cells #[Value.int .i64 0, Value.bool true] 78)) hSe2.s hSe2.T (by decide))
          have hSE2 : Hid ((M.take k).sum = E) := hSE
          have q0 := hN9.out.cell 0; have q1 := hN9.out.cell 1
          replace e1 : wr.cell? ⟨gu, k * 2 + 1, none⟩ = some (Value.bool true) := e1
          replace hSe2 := Lib.hid hSe2
          replace hLO := Lib.hid hLO
          clear hSE hbN hSe hS n0 n1 hN
          go_wp2_with fail
          refine hz.out.mono ?_; rintro e w2 ⟨⟨v2, rfl⟩, hw2⟩; subst w2
          clear hz
          go_wp2_with fail
          refine hno.out.mono ?_; rintro e w3 ⟨⟨v3, rfl⟩, hq3⟩
          have hN3 := hN9.out.below hq3 hN9.out.lt
          have d0 := hN3.cell 0
          have hSy3 := Lib.hid (Ses.below (B := B0) hSe2.out hq3)
          have hbW3 : Hid (Below B0 w w3) := hb2.out.trans (hq3.mono (Nat.le_trans hBw hb2.out.size))
          clear hq3 hN3 hno q0 q1 hSe2 hb2 hb
          go_wp2_with fail
          go_roundw
          case rel => exact ⟨k + 1, E, by omega, by go_num, by go_num, by omega, by omega, ⟨l0, l1, l2, kn, by rw [hsum.out, Int.add_zero]; exact hSy3.out, hLO.out, by rw [hsum.out, hSE2.out, Int.add_zero]⟩, hbW3.out⟩
          case measure => simp [intOf]; omega
        · have dx : (x == 0) = false := by simpa using hx0
          rw [dx] at e1 hN hb2 n1 hSe2 hbN
          rw [dx] at n0
          have hyes := Lib.hid (add_yes B0 gh eA cA b cost rate start l0 l1 l2 k E x x (M.take k).sum kn (wr.alloc (.cells #[Value.int .i64 x, Value.bool false] 78)) (hg.out.below hb2.out hg2) hSe2 hB (by have := hb2.out.size; omega) h0 (by omega) hk0 (by omega) (by omega) (by omega) (by omega) (by omega))
          replace hx0 := Lib.hid hx0
          have hSE2 : Hid ((M.take k).sum = E) := hSE
          clear hSE hbN hSe hS
          have hSe9 : Hid (gh < wr.heap.size ∧ b < wr.heap.size) := hlt9
          replace hSe2 := Lib.hid hSe2
          go_wp2_with fail
          refine hyes.out.mono ?_; rintro e w2 ⟨⟨v2, rfl⟩, hSy, hq, hsz2, hall⟩
          have hN2 : Hid (Blk w2 wr.heap.size 78 #[Value.int .i64 x, Value.bool false]) := (hall _ (by simp) (by have := hSe9.out.1; omega) (by have := hSe9.out.2; omega)).trans hN.out
          have hbW : Hid (Below B0 w w2) := hb2.out.trans hq
          have hno := Lib.hid (hano.out 0 2 1 3 k E x true w2 hSy.s hSy.T (by decide))
          have c0 := hN2.out.cell 0; have c1 := hN2.out.cell 1
          have hSy2 := Lib.hid hSy
          clear hq hall hsz2 hyes hSe2 hN hb hb2 n0 n1 hSy e0 e1
          go_wp2_with fail
          refine hno.out.mono ?_; rintro e w3 ⟨⟨v3, rfl⟩, hq3⟩
          have hN3 := hN2.out.below hq3 hN2.out.lt
          have d0 := hN3.cell 0
          have hSy3 := Lib.hid (Ses.below (B := B0) hSy2.out hq3)
          have hbW3 : Hid (Below B0 w w3) := hbW.out.trans (hq3.mono (by have := hbW.out.size; omega))
          clear hq3 hN3 hno c0 c1 hSy2
          go_wp2_with fail
          go_roundw
          case rel => exact ⟨k + 1, E + x, by omega, by go_num, by go_num, by omega, by omega, ⟨0, 2, 1, true, by rw [hsum.out]; exact hSy3.out, fun _ => ⟨rfl, rfl, rfl⟩, by rw [hsum.out, hSE2.out]⟩, hbW3.out⟩
          case measure => simp [intOf]; omega
      · obtain rfl : k = N9 := by omega
        obtain ⟨l0, l1, l2, kn, hSe, hLO, -⟩ := hS.out
        rw [List.take_of_length_le (by have := hl.out; omega)] at hSe
        replace hSe := Lib.hid hSe
        replace hLO := Lib.hid hLO
        go_wp2_with fail
        go_end0
        exact ⟨⟨_, rfl⟩, ⟨l0, l1, l2, kn, hSe.out, hLO.out⟩, hb.out⟩
end Go.Proofs.YtbngclibfnnejaaDoor
