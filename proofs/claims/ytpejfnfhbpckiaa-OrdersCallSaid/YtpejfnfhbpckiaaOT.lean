/- Orders: the law of a call, walked. -/
import Derived.Test.YtpejfnfhbpckiaaOX
import Derived.Test.YtpejfnfhbpckiaaOF
set_option linter.unusedVariables false
set_option linter.unusedSimpArgs false
namespace Go.Proofs.Ytpejfnfhbpckiaa
open Go.RowKit Go.Proofs.Ytpejfnfhbpckiaa.Ord
set_option maxRecDepth 100000 in
set_option maxHeartbeats 8000000 in
theorem lawCall (A : Option Addr) (l : List O) (n cap : Nat) (x : Opn) (w : World) (h : OAt w w.heap.size A n l) (hc : n ≤ cap) (hm : cap ≤ maxLen) (hst : x.st.size ≤ maxLen) :
    Calls Try.prog 5 #[.slice A n cap, opV x] w fun e w' => e = .returned (.bool true) ∧ Below w.heap.size w w' := by
  unfold maxLen at hst
  have hn := Lib.hid h.len
  have hxV : Hid (opV x = .agg #[.int .i64 x.kind, .string x.st, .int .i64 x.conn, .int .i64 x.id, .int .i64 x.fr, .int .i64 x.tt, .int .i64 x.now, .bool x.done]) := rfl
  rw [hxV.out]
  obtain ⟨p0, p1, p2, p3, p4, p5, p6, p7⟩ := x
  simp only at hst hxV
  have hbw := Lib.hid (a1 w (.cells #[.int .i64 p0, .string p1, .int .i64 p2, .int .i64 p3, .int .i64 p4, .int .i64 p5, .int .i64 p6, .bool p7] 35))
  have h' := Lib.hid (h.more hbw.out)
  have hP := Lib.hid (Blk.new w 35 #[.int .i64 p0, .string p1, .int .i64 p2, .int .i64 p3, .int .i64 p4, .int .i64 p5, .int .i64 p6, .bool p7])
  have kz : Hid (∀ wz, Below (w.alloc (.cells #[.int .i64 p0, .string p1, .int .i64 p2, .int .i64 p3, .int .i64 p4, .int .i64 p5, .int .i64 p6, .bool p7] 35)).heap.size (w.alloc (.cells #[.int .i64 p0, .string p1, .int .i64 p2, .int .i64 p3, .int .i64 p4, .int .i64 p5, .int .i64 p6, .bool p7] 35)) wz → wz.cell? ⟨w.heap.size, 0, none⟩ = some (.int .i64 p0) ∧ wz.cell? ⟨w.heap.size, 1, none⟩ = some (.string p1) ∧ wz.cell? ⟨w.heap.size, 2, none⟩ = some (.int .i64 p2) ∧ wz.cell? ⟨w.heap.size, 3, none⟩ = some (.int .i64 p3) ∧ wz.cell? ⟨w.heap.size, 4, none⟩ = some (.int .i64 p4) ∧ wz.cell? ⟨w.heap.size, 5, none⟩ = some (.int .i64 p5) ∧ wz.cell? ⟨w.heap.size, 6, none⟩ = some (.int .i64 p6) ∧ wz.cell? ⟨w.heap.size, 7, none⟩ = some (.bool p7)) := fun wz h => by
    have q0 := hP.out.below h (lt_of_heap hP.out)
    exact ⟨q0.cell 0, q0.cell 1, q0.cell 2, q0.cell 3, q0.cell 4, q0.cell 5, q0.cell 6, q0.cell 7⟩
  replace h := Lib.hid h
  cases hlong : longR 0 l with
  | true =>
    replace hlong := Lib.hid hlong
    go_enter Try.func5, Try.ntmps5
    go_wp2_with fail
    refine (longList_any A l n cap _ h'.out (Nat.le_trans hc hm)).mono ?_; rintro e w1 ⟨rfl, hb1⟩
    rw [hlong.out]
    obtain ⟨b0, b1, b2, b3, b4, b5, b6, b7⟩ := kz.out _ hb1
    replace hb1 := Lib.hid hb1
    go_wp2_with fail
    refine (example_any _).mono ?_; rintro e wx ⟨rfl, hbx⟩
    go_wp2_with fail
    go_ret
    exact ⟨rfl, hbw.out.trans ((hb1.out.trans (hbx.mono hb1.out.size)).mono hbw.out.size)⟩
  | false =>
    replace hlong := Lib.hid hlong
    by_cases h4 : 4096 < p1.size
    · have hd : decide ((4096 : Int) < p1.size) = true := by simp; omega
      go_enter Try.func5, Try.ntmps5
      go_wp2_with fail
      refine (longList_any A l n cap _ h'.out (Nat.le_trans hc hm)).mono ?_; rintro e w1 ⟨rfl, hb1⟩
      rw [hlong.out]
      obtain ⟨b0, b1, b2, b3, b4, b5, b6, b7⟩ := kz.out _ hb1
      replace hb1 := Lib.hid hb1
      go_wp2_with fail
      refine (example_any _).mono ?_; rintro e wx ⟨rfl, hbx⟩
      go_wp2_with fail
      go_ret
      exact ⟨rfl, hbw.out.trans ((hb1.out.trans (hbx.mono hb1.out.size)).mono hbw.out.size)⟩
    · have hd : decide ((4096 : Int) < p1.size) = false := by simp; omega
      by_cases hv : valid nameB l = 0
      · have vl := Lib.hid (vld_of hv)
        replace hv := Lib.hid hv
        obtain ⟨bk, hbk⟩ : ∃ bk, blocks l p1 p2 p6 = bk := ⟨_, rfl⟩
        replace hbk := Lib.hid hbk
        go_enter Try.func5, Try.ntmps5
        go_wp2_with fail
        refine (longList_any A l n cap _ h'.out (Nat.le_trans hc hm)).mono ?_; rintro e w1 ⟨rfl, hb1⟩
        rw [hlong.out]
        obtain ⟨b0, b1, b2, b3, b4, b5, b6, b7⟩ := kz.out _ hb1
        replace hb1 := Lib.hid hb1
        go_wp2_with fail
        refine (rvalid_any A l n cap _ (h'.out.more hb1.out) hc hm).mono ?_; rintro e w2 ⟨rfl, hb2⟩
        rw [hv.out]
        clear b0 b1 b2 b3 b4 b5 b6 b7
        replace hb2 := Lib.hid (hb1.out.trans (hb2.mono hb1.out.size))
        obtain ⟨b0, b1, b2, b3, b4, b5, b6, b7⟩ := kz.out _ hb2.out
        go_wp2_with fail
        rw [← hxV.out]
        refine (call_any A l n cap ⟨p0, p1, p2, p3, p4, p5, p6, p7⟩ _ (h'.out.more hb2.out) hc hm vl.out).mono ?_; rintro e w3 ⟨u1, rfl, o1⟩
        obtain ⟨A1, n1, c1, rfl, h1, q1, r1, hb3⟩ := o1
        clear b0 b1 b2 b3 b4 b5 b6 b7
        replace h1 := Lib.hid h1
        replace hb2 := Lib.hid (hb2.out.trans (hb3.mono hb2.out.size))
        clear hb3
        obtain ⟨b0, b1, b2, b3, b4, b5, b6, b7⟩ := kz.out _ hb2.out
        rw [hxV.out]
        go_wp2_with fail
        rw [← hxV.out]
        refine (want_any A l n cap ⟨p0, p1, p2, p3, p4, p5, p6, p7⟩ _ (h'.out.more hb2.out) hc hm vl.out).mono ?_; rintro e w4 ⟨u2, rfl, o2⟩
        obtain ⟨A2, n2, c2, rfl, h2, q2, r2, hb4⟩ := o2
        clear b0 b1 b2 b3 b4 b5 b6 b7
        obtain rfl : n1 = n2 := by have e1 := h1.out.len; have e2 := h2.len; omega
        have hE1 := Lib.hid (h1.out.more hb4)
        have hE2 := Lib.hid h2
        replace hb2 := Lib.hid (hb2.out.trans (hb4.mono hb2.out.size))
        clear hb4 h2 h1
        obtain ⟨b0, b1, b2, b3, b4, b5, b6, b7⟩ := kz.out _ hb2.out
        rw [hxV.out]
        generalize (callF l ⟨p0, p1, p2, p3, p4, p5, p6, p7⟩).1 = L at *
        generalize (callF l ⟨p0, p1, p2, p3, p4, p5, p6, p7⟩).2.1 = z1 at *
        generalize (callF l ⟨p0, p1, p2, p3, p4, p5, p6, p7⟩).2.2 = z2 at *
        go_wp2_with fail
        go_region_held3 (fun wz => wz.cell? ⟨w.heap.size, 1, none⟩ = some (.string p1) ∧ wz.cell? ⟨w.heap.size, 2, none⟩ = some (.int .i64 p2) ∧ wz.cell? ⟨w.heap.size, 6, none⟩ = some (.int .i64 p6))
          ((first | (refine ⟨(kz.out _ (by first | exact hb2.out | exact below_dr hb2.out)).2.1, (kz.out _ (by first | exact hb2.out | exact below_dr hb2.out)).2.2.1, (kz.out _ (by first | exact hb2.out | exact below_dr hb2.out)).2.2.2.2.2.2.1⟩)))
          ((first | (go_at_call 16; refine (equal_self A1 A2 L n1 c1 c2 _ (by first | exact hE1.out.drew | exact hE1.out) (by first | exact hE2.out.drew | exact hE2.out) (Nat.le_trans q1 r1)).mono ?_; rintro e wq ⟨rfl, hbq⟩; replace hb2 := Lib.hid (by first | exact hb2.out.trans (hbq.mono hb2.out.size) | exact (below_dr hb2.out).trans (hbq.mono (below_dr hb2.out).size)); clear hbq) | (go_at_call 12; refine (blocks_any A l n cap p1 p2 p6 _ (h'.out.more (by first | exact hb2.out | exact below_dr hb2.out)) (Nat.le_trans hc hm)).mono ?_; rintro e wq ⟨rfl, hbq⟩; rw [hbk.out]; replace hb2 := Lib.hid (by first | exact hb2.out.trans (hbq.mono hb2.out.size) | exact (below_dr hb2.out).trans (hbq.mono (below_dr hb2.out).size)); clear hbq) | (go_at_call 17; refine (rblocks_any A l n cap p1 p2 p6 _ (h'.out.more (by first | exact hb2.out | exact below_dr hb2.out)) (Nat.le_trans hc hm)).mono ?_; rintro e wq ⟨rfl, hbq⟩; rw [hbk.out]; replace hb2 := Lib.hid (by first | exact hb2.out.trans (hbq.mono hb2.out.size) | exact (below_dr hb2.out).trans (hbq.mono (below_dr hb2.out).size)); clear hbq) | (go_at_call 9; refine (example_any _).mono ?_; rintro e wq ⟨rfl, hbq⟩; replace hb2 := Lib.hid (by first | exact hb2.out.trans (hbq.mono hb2.out.size) | exact (below_dr hb2.out).trans (hbq.mono (below_dr hb2.out).size)); clear hbq)))
        all_goals
          go_wp2_with fail
          go_ret
          exact ⟨ret_bool (by simp), hbw.out.trans (Below.mono (by first | exact hb2.out | exact below_dr hb2.out) hbw.out.size)⟩
      · have hvd : (valid nameB l != 0) = true := by simpa using hv
        generalize hvv : valid nameB l = vv at *
        replace hvv := Lib.hid hvv
        replace hv := hvv
        go_enter Try.func5, Try.ntmps5
        go_wp2_with fail
        refine (longList_any A l n cap _ h'.out (Nat.le_trans hc hm)).mono ?_; rintro e w1 ⟨rfl, hb1⟩
        rw [hlong.out]
        obtain ⟨b0, b1, b2, b3, b4, b5, b6, b7⟩ := kz.out _ hb1
        replace hb1 := Lib.hid hb1
        go_wp2_with fail
        refine (rvalid_any A l n cap _ (h'.out.more hb1.out) hc hm).mono ?_; rintro e w2 ⟨rfl, hb2⟩
        rw [hv.out]
        replace hb2 := Lib.hid (hb1.out.trans (hb2.mono hb1.out.size))
        go_wp2_with fail
        refine (example_any _).mono ?_; rintro e wx ⟨rfl, hbx⟩
        go_wp2_with fail
        go_ret
        exact ⟨rfl, hbw.out.trans ((hb2.out.trans (hbx.mono hb2.out.size)).mono hbw.out.size)⟩
end Go.Proofs.Ytpejfnfhbpckiaa
