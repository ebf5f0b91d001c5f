/- Orders: the reference's Plan, walked: the connector is taken. -/
import Derived.Test.YtpejfnfhbpckiaaOV
set_option linter.unusedVariables false
set_option linter.unusedSimpArgs false
namespace Go.Proofs.Ytpejfnfhbpckiaa
open Go.RowKit Go.Proofs.Ytpejfnfhbpckiaa.Ord
set_option maxRecDepth 100000 in
set_option maxHeartbeats 8000000 in
theorem rplan_busy1 (A : Option Addr) (l : List O) (n cap : Nat) (id f t : Int) (w : World) (h : OAt w w.heap.size A n l) (hc : n ≤ cap) (hm : cap ≤ maxLen) (h1 : n ≤ 1000)
    (i : Nat) (hi : i < l.length) (hid : idx id 0 l = i) (hs : l[i].state = 1) (g1 : 0 ≤ f) (g2 : f < t) (g3 : t ≤ 268435456) (hbk : blk i (spanned l[i] f t) 0 l = true) :
    Calls Try.prog 29 #[.slice A n cap, .int .i64 id, .agg #[.int .i64 f, .int .i64 t]] w fun e w' => ∃ v, e = .returned (.tuple #[v, .int .i64 16]) ∧ OutV w w' l v := by
  have hn := Lib.hid h.len
  have hin : i < n := by have := hn.out; omega
  have hi0 : (0 : Int) ≤ i := by omega
  have hi1 : (i : Int) < n := by omega
  obtain ⟨x, hx⟩ : ∃ x, l[i] = x := ⟨_, rfl⟩
  rw [hx] at hs
  try rw [hx] at hbk
  try rw [hx] at hmv
  try rw [hx]
  obtain ⟨ad, rfl, hbl, hk⟩ := h.kept hi hx
  have h' := Lib.hid (h.more (a1 w (.cells #[.int .i64 f, .int .i64 t] 31)))
  have hS0 := Lib.hid (Blk.new w 31 #[.int .i64 f, .int .i64 t])
  replace hx := Lib.hid hx
  replace h := Lib.hid h
  replace hk := Lib.hid hk
  replace hid := Lib.hid hid
  obtain ⟨x0, x1, x2, x3, x4, x5, x6⟩ := x
  simp only at hk hs
  replace hbk : Hid (blk i ⟨x0, x1, x2, f, t, x5, x6⟩ 0 l = true) := hbk
  subst hs
  go_enter Try.func29, Try.ntmps29
  go_wp2_with fail
  refine (find_any (some ad) l n cap id _ h'.out (Nat.le_trans hc hm)).mono ?_; rintro e w1 ⟨rfl, hb1⟩
  rw [hid.out]
  have hbw1 : Hid (Below w.heap.size w w1) := below_a hb1
  obtain ⟨e0, e1, e2, e3, e4, e5, e6⟩ := hk.out _ hbw1.out
  have hSw := Lib.hid (hS0.out.below hb1 (by simp))
  obtain ⟨s0, s1⟩ := (show w1.cell? ⟨w.heap.size, 0, none⟩ = some (.int .i64 f) ∧ w1.cell? ⟨w.heap.size, 1, none⟩ = some (.int .i64 t) from ⟨hSw.out.cell 0, hSw.out.cell 1⟩)
  have hsz1 : w.heap.size < w1.heap.size := by have := hb1.size; simp at this; omega
  replace hb1 := Lib.hid hb1
  go_wp2_with fail
  have hbW1 : Hid (Below w.heap.size w (w1.alloc (.cells #[.int .i64 x0, .int .i64 x1, .string x2, .int .i64 f, .int .i64 t, .int .i64 1, .int .i64 x6] 33))) := below_new hbw1.out _
  have hX1 := Lib.hid (Blk.new w1 33 #[.int .i64 x0, .int .i64 x1, .string x2, .int .i64 f, .int .i64 t, .int .i64 1, .int .i64 x6])
  have hS1 := Lib.hid (hSw.out.alloc (.cells #[.int .i64 x0, .int .i64 x1, .string x2, .int .i64 f, .int .i64 t, .int .i64 1, .int .i64 x6] 33))
  have hxV : Hid (oV ⟨x0, x1, x2, f, t, 1, x6⟩ = .agg #[.int .i64 x0, .int .i64 x1, .string x2, .int .i64 f, .int .i64 t, .int .i64 1, .int .i64 x6]) := rfl
  have kz : Hid (∀ wz, Below (w1.alloc (.cells #[.int .i64 x0, .int .i64 x1, .string x2, .int .i64 f, .int .i64 t, .int .i64 1, .int .i64 x6] 33)).heap.size (w1.alloc (.cells #[.int .i64 x0, .int .i64 x1, .string x2, .int .i64 f, .int .i64 t, .int .i64 1, .int .i64 x6] 33)) wz → wz.cell? ⟨w1.heap.size, 0, none⟩ = some (.int .i64 x0) ∧ wz.cell? ⟨w1.heap.size, 1, none⟩ = some (.int .i64 x1) ∧ wz.cell? ⟨w1.heap.size, 2, none⟩ = some (.string x2) ∧ wz.cell? ⟨w1.heap.size, 3, none⟩ = some (.int .i64 f) ∧ wz.cell? ⟨w1.heap.size, 4, none⟩ = some (.int .i64 t) ∧ wz.cell? ⟨w1.heap.size, 5, none⟩ = some (.int .i64 1) ∧ wz.cell? ⟨w1.heap.size, 6, none⟩ = some (.int .i64 x6)) := fun wz h => by
    have q0 := hX1.out.below h (lt_of_heap hX1.out)
    exact ⟨q0.cell 0, q0.cell 1, q0.cell 2, q0.cell 3, q0.cell 4, q0.cell 5, q0.cell 6⟩
  have hat : Hid (OAt (w1.alloc (.cells #[.int .i64 x0, .int .i64 x1, .string x2, .int .i64 f, .int .i64 t, .int .i64 1, .int .i64 x6] 33)) (w1.alloc (.cells #[.int .i64 x0, .int .i64 x1, .string x2, .int .i64 f, .int .i64 t, .int .i64 1, .int .i64 x6] 33)).heap.size (some ad) n l) := h.out.more hbW1.out
  go_loopw [10] (fun u wr => ∃ j : Nat, j ≤ n ∧ u = .int .i64 j ∧ Hid (Below (w1.alloc (.cells #[.int .i64 x0, .int .i64 x1, .string x2, .int .i64 f, .int .i64 t, .int .i64 1, .int .i64 x6] 33)).heap.size (w1.alloc (.cells #[.int .i64 x0, .int .i64 x1, .string x2, .int .i64 f, .int .i64 t, .int .i64 1, .int .i64 x6] 33)) wr) ∧ Hid (blk i ⟨x0, x1, x2, f, t, 1, x6⟩ 0 l = blk i ⟨x0, x1, x2, f, t, 1, x6⟩ j (l.drop j))) (fun u _ => n - (intOf u).toNat)
  case atStart => exact ⟨0, Nat.zero_le _, rfl, Below.refl _ _, rfl⟩
  case round =>
    obtain ⟨j, hj, rfl, hbr, hx'⟩ := hrel
    clear e0 e1 e2 e3 e4 e5 e6 s0 s1
    obtain ⟨z0, z1, z2, z3, z4, z5, z6⟩ := kz.out _ hbr.out
    by_cases hjk : j < n
    · have hjl : j < l.length := by rw [hn.out]; exact hjk
      have hj0 : (0 : Int) ≤ j := by omega
      have hj1 : (j : Int) < n := by omega
      have hst := Lib.hid (blk_step i ⟨x0, x1, x2, f, t, 1, x6⟩ l j hjl)
      by_cases hji : (j : Int) = i
      · have hd : ((j : Int) != i) = false := by simpa using hji
        have hgo : Hid (blk i ⟨x0, x1, x2, f, t, 1, x6⟩ 0 l = blk i ⟨x0, x1, x2, f, t, 1, x6⟩ (j + 1) (l.drop (j + 1))) := by show _ = _; rw [hx'.out, hst.out]; simp [hji]
        replace hji := Lib.hid hji
        go_wp2_with fail
        go_quiet (fail)
        go_wp2_with fail
        go_roundw
        case rel => exact ⟨j + 1, by omega, by go_num, below_drewN hbr.out _, hgo.out⟩
        case measure => simp [intOf]; omega
      · have hd : ((j : Int) != i) = true := by simpa using hji
        have hgo : Hid ((act (l[j]'hjl) && clash (l[j]'hjl) ⟨x0, x1, x2, f, t, 1, x6⟩) = false → blk i ⟨x0, x1, x2, f, t, 1, x6⟩ 0 l = blk i ⟨x0, x1, x2, f, t, 1, x6⟩ (j + 1) (l.drop (j + 1))) := fun h => by rw [hx'.out, hst.out, Bool.and_assoc, h]; simp
        have hyes : Hid ((act (l[j]'hjl) && clash (l[j]'hjl) ⟨x0, x1, x2, f, t, 1, x6⟩) = true → blk i ⟨x0, x1, x2, f, t, 1, x6⟩ 0 l = true) := fun h => by rw [hx'.out, hst.out, Bool.and_assoc, h]; simp; exact .inl hji
        replace hji := Lib.hid hji
        have ky : Hid (∀ wz, Below (w1.alloc (.cells #[.int .i64 x0, .int .i64 x1, .string x2, .int .i64 f, .int .i64 t, .int .i64 1, .int .i64 x6] 33)).heap.size (w1.alloc (.cells #[.int .i64 x0, .int .i64 x1, .string x2, .int .i64 f, .int .i64 t, .int .i64 1, .int .i64 x6] 33)) wz → wz.cell? (ad.add (j * 7)) = some (.int .i64 (l[j]'hjl).id) ∧ wz.cell? ⟨(ad.add (j * 7)).block, (ad.add (j * 7)).off + 1, none⟩ = some (.int .i64 (l[j]'hjl).conn) ∧ wz.cell? ⟨(ad.add (j * 7)).block, (ad.add (j * 7)).off + 2, none⟩ = some (.string (l[j]'hjl).st) ∧ wz.cell? ⟨(ad.add (j * 7)).block, (ad.add (j * 7)).off + 3, none⟩ = some (.int .i64 (l[j]'hjl).fr) ∧ wz.cell? ⟨(ad.add (j * 7)).block, (ad.add (j * 7)).off + 4, none⟩ = some (.int .i64 (l[j]'hjl).tt) ∧ wz.cell? ⟨(ad.add (j * 7)).block, (ad.add (j * 7)).off + 5, none⟩ = some (.int .i64 (l[j]'hjl).state) ∧ wz.cell? ⟨(ad.add (j * 7)).block, (ad.add (j * 7)).off + 6, none⟩ = some (.int .i64 (l[j]'hjl).notes)) := fun wz hz => by
          obtain ⟨ad', hA, _, p0, p1, p2, p3, p4, p5, p6⟩ := OAt.cell (hat.out.below hz (Nat.le_refl _)) (k := j) (by omega)
          cases hA
          exact ⟨p0, p1, p2, p3, p4, p5, p6⟩
        have hyl : Hid (l[j]'hjl = l[j]'hjl) := rfl
        clear hst
        generalize (l[j]'hjl) = y at *
        obtain ⟨y0, y1, y2, y3, y4, y5, y6⟩ := y
        simp only at ky
        clear hyl
        have hyV : Hid (oV ⟨y0, y1, y2, y3, y4, y5, y6⟩ = .agg #[.int .i64 y0, .int .i64 y1, .string y2, .int .i64 y3, .int .i64 y4, .int .i64 y5, .int .i64 y6]) := rfl
        obtain ⟨d0, d1, d2, d3, d4, d5, d6⟩ := ky.out _ hbr.out
        have hbl' := lt_of_cell d0
        cases hay : act ⟨y0, y1, y2, y3, y4, y5, y6⟩ with
        | false =>
          have hgo2 := Lib.hid (hgo.out (by rw [hay]; rfl))
          replace hay := Lib.hid hay
          clear hgo hyes
          go_wp2_with fail
          first
            | (go_region_with ((first | ((try rw [← hyV.out]); go_at_call 32; (with_reducible refine (ractive_any ⟨y0, y1, y2, y3, y4, y5, y6⟩ _).mono ?_); rintro e wq ⟨rfl, hbq⟩; rw [hay.out]; replace hbr := Lib.hid (by first | exact hbr.out.trans (hbq.mono hbr.out.size) | exact (below_dr hbr.out).trans (hbq.mono (below_dr hbr.out).size)); clear hbq; obtain ⟨z0, z1, z2, z3, z4, z5, z6⟩ := kz.out _ hbr.out; obtain ⟨d0, d1, d2, d3, d4, d5, d6⟩ := ky.out _ hbr.out) | ((try rw [← hxV.out]); (try rw [← hyV.out]); go_at_call 38; (with_reducible refine (rclash_any ⟨x0, x1, x2, f, t, 1, x6⟩ ⟨y0, y1, y2, y3, y4, y5, y6⟩ _).mono ?_); rintro e wq ⟨rfl, hbq⟩; rw [hcl.out]; replace hbr := Lib.hid (by first | exact hbr.out.trans (hbq.mono hbr.out.size) | exact (below_dr hbr.out).trans (hbq.mono (below_dr hbr.out).size)); clear hbq; obtain ⟨z0, z1, z2, z3, z4, z5, z6⟩ := kz.out _ hbr.out; obtain ⟨d0, d1, d2, d3, d4, d5, d6⟩ := ky.out _ hbr.out))))
            | fail
          all_goals
            go_wp2_with fail
            go_roundw
            case rel => exact ⟨j + 1, by omega, by go_num, by first | exact hbr.out | exact below_dr hbr.out | exact below_drewN hbr.out _, hgo2.out⟩
            case measure => simp [intOf]; omega
        | true =>
          cases hcl : clash ⟨x0, x1, x2, f, t, 1, x6⟩ ⟨y0, y1, y2, y3, y4, y5, y6⟩
          all_goals
            have hcl' := hcl
            rw [clash_comm] at hcl'
            have hay' := Lib.hid hay
            replace hcl := Lib.hid hcl
            first
              | (have hgo2 := Lib.hid (hgo.out (by rw [hay'.out, hcl']; rfl)))
              | (have hyes2 := Lib.hid (hyes.out (by rw [hay'.out, hcl']; rfl)))
            clear hcl' hgo hyes hay
            have hay := hay'
            clear hay'
            go_wp2_with fail
            go_region_held3 (fun wz => wz.cell? ⟨w1.heap.size, 0, none⟩ = some (.int .i64 x0) ∧ wz.cell? ⟨w1.heap.size, 1, none⟩ = some (.int .i64 x1) ∧ wz.cell? ⟨w1.heap.size, 2, none⟩ = some (.string x2) ∧ wz.cell? ⟨w1.heap.size, 3, none⟩ = some (.int .i64 f) ∧ wz.cell? ⟨w1.heap.size, 4, none⟩ = some (.int .i64 t) ∧ wz.cell? ⟨w1.heap.size, 5, none⟩ = some (.int .i64 1) ∧ wz.cell? ⟨w1.heap.size, 6, none⟩ = some (.int .i64 x6) ∧ wz.cell? (ad.add (j * 7)) = some (.int .i64 y0) ∧ wz.cell? ⟨(ad.add (j * 7)).block, (ad.add (j * 7)).off + 1, none⟩ = some (.int .i64 y1) ∧ wz.cell? ⟨(ad.add (j * 7)).block, (ad.add (j * 7)).off + 2, none⟩ = some (.string y2) ∧ wz.cell? ⟨(ad.add (j * 7)).block, (ad.add (j * 7)).off + 3, none⟩ = some (.int .i64 y3) ∧ wz.cell? ⟨(ad.add (j * 7)).block, (ad.add (j * 7)).off + 4, none⟩ = some (.int .i64 y4) ∧ wz.cell? ⟨(ad.add (j * 7)).block, (ad.add (j * 7)).off + 5, none⟩ = some (.int .i64 y5) ∧ wz.cell? ⟨(ad.add (j * 7)).block, (ad.add (j * 7)).off + 6, none⟩ = some (.int .i64 y6))
              ((first | (refine ⟨(kz.out _ ?_).1, (kz.out _ ?_).2.1, (kz.out _ ?_).2.2.1, (kz.out _ ?_).2.2.2.1, (kz.out _ ?_).2.2.2.2.1, (kz.out _ ?_).2.2.2.2.2.1, (kz.out _ ?_).2.2.2.2.2.2, ky.out _ ?_⟩ <;> first | exact hbr.out | exact below_dr hbr.out)))
              ((first | ((try rw [← hyV.out]); go_at_call 32; (with_reducible refine (ractive_any ⟨y0, y1, y2, y3, y4, y5, y6⟩ _).mono ?_); rintro e wq ⟨rfl, hbq⟩; rw [hay.out]; replace hbr := Lib.hid (by first | exact hbr.out.trans (hbq.mono hbr.out.size) | exact (below_dr hbr.out).trans (hbq.mono (below_dr hbr.out).size)); clear hbq) | ((try rw [← hxV.out]); (try rw [← hyV.out]); go_at_call 38; (with_reducible refine (rclash_any ⟨x0, x1, x2, f, t, 1, x6⟩ ⟨y0, y1, y2, y3, y4, y5, y6⟩ _).mono ?_); rintro e wq ⟨rfl, hbq⟩; rw [hcl.out]; replace hbr := Lib.hid (by first | exact hbr.out.trans (hbq.mono hbr.out.size) | exact (below_dr hbr.out).trans (hbq.mono (below_dr hbr.out).size)); clear hbq)))
            all_goals
              go_wp2_with fail
              first
                | (go_roundw
                   case rel => exact ⟨j + 1, by omega, by go_num, by first | exact hbr.out | exact below_dr hbr.out | exact below_drewN hbr.out _, hgo2.out⟩
                   case measure => simp [intOf]; omega)
                | (go_ret2
                   exact ⟨_, rfl, OutV.same h.out hc hm (hbW1.out.trans (Below.mono (by first | exact hbr.out | exact below_dr hbr.out | exact below_drewN hbr.out _) hbW1.out.size))⟩)
    · have hnil : Hid (blk i ⟨x0, x1, x2, f, t, 1, x6⟩ 0 l = false) := by show _ = _; rw [hx'.out, List.drop_of_length_le (by rw [hn.out]; omega)]; rfl
      exact absurd (hbk.out.symm.trans hnil.out) (by simp)
end Go.Proofs.Ytpejfnfhbpckiaa
