/- Orders: blocked, index, check, Valid, walked. -/
import Derived.Test.YtpejfnfhbpckiaaOA
import Derived.Deep.RegionHeld3
import Derived.Deep.DeepCutAuto
set_option linter.unusedVariables false
set_option linter.unusedSimpArgs false
namespace Go.Proofs.Ytpejfnfhbpckiaa
open Go.RowKit Go.Proofs.Ytpejfnfhbpckiaa.Ord
theorem blk_step (but : Int) (o : O) (l : List O) (k : Nat) (h : k < l.length) : blk but o k (l.drop k) = ((decide ((k : Int) ≠ but) && act l[k] && clash l[k] o) || blk but o (k + 1) (l.drop (k + 1))) := by
  rw [List.drop_eq_getElem_cons h]; rfl
theorem idxO_step (id : Int) (l : List O) (k : Nat) (h : k < l.length) : idx id k (l.drop k) = if l[k].id = id then (k : Int) else idx id (k + 1) (l.drop (k + 1)) := by
  rw [List.drop_eq_getElem_cons h]; rfl
set_option maxRecDepth 100000 in
set_option maxHeartbeats 2000000 in
theorem blocked_any (A : Option Addr) (l : List O) (n cap : Nat) (but : Int) (o : O) (w : World) (h : OAt w w.heap.size A n l) (hm : n ≤ maxLen) :
    Calls Try.prog 35 #[.slice A n cap, .int .i64 but, oV o] w fun e w' => e = .returned (.bool (blk but o 0 l)) ∧ Below w.heap.size w w' := by
  unfold maxLen at hm
  have hn := Lib.hid h.len
  have hoV : Hid (oV o = .agg #[.int .i64 o.id, .int .i64 o.conn, .string o.st, .int .i64 o.fr, .int .i64 o.tt, .int .i64 o.state, .int .i64 o.notes]) := rfl
  rw [hoV.out]
  obtain ⟨o0, o1, o2, o3, o4, o5, o6⟩ := o
  replace hoV : Hid (oV ⟨o0, o1, o2, o3, o4, o5, o6⟩ = .agg #[.int .i64 o0, .int .i64 o1, .string o2, .int .i64 o3, .int .i64 o4, .int .i64 o5, .int .i64 o6]) := rfl
  replace h := Lib.hid h
  have hB := Lib.hid (Blk.new w 33 #[.int .i64 o0, .int .i64 o1, .string o2, .int .i64 o3, .int .i64 o4, .int .i64 o5, .int .i64 o6])
  go_enter Try.func35, Try.ntmps35
  go_wp2_with fail
  go_loopw [11] (fun i wr => ∃ k : Nat, k ≤ n ∧ i = .int .i64 k ∧ Hid (Below w.heap.size w wr) ∧ Hid (Blk wr w.heap.size 33 #[.int .i64 o0, .int .i64 o1, .string o2, .int .i64 o3, .int .i64 o4, .int .i64 o5, .int .i64 o6]) ∧ Hid (blk but ⟨o0, o1, o2, o3, o4, o5, o6⟩ 0 l = blk but ⟨o0, o1, o2, o3, o4, o5, o6⟩ k (l.drop k))) (fun i _ => n - (intOf i).toNat)
  case atStart => exact ⟨0, Nat.zero_le _, rfl, a1 _ _, hB.out, rfl⟩
  case round =>
    obtain ⟨k, hk, rfl, hb, hq, hx⟩ := hrel
    clear hB
    by_cases hlt : k < n
    · have hkl : k < l.length := by rw [hn.out]; exact hlt
      have hst := Lib.hid (blk_step but ⟨o0, o1, o2, o3, o4, o5, o6⟩ l k hkl)
      obtain ⟨ad, hA, hbl, e0, e1, e2, e3, e4, e5, e6⟩ := OAt.cell (h.out.below hb.out (Nat.le_refl _)) hlt
      subst hA
      generalize l[k] = x at *
      have hxV : Hid (oV x = .agg #[.int .i64 x.id, .int .i64 x.conn, .string x.st, .int .i64 x.fr, .int .i64 x.tt, .int .i64 x.state, .int .i64 x.notes]) := rfl
      obtain ⟨x0, x1, x2, x3, x4, x5, x6⟩ := x
      simp only at e0 e1 e2 e3 e4 e5 e6 hxV
      have hb0 : Hid (Below w.heap.size w (wr.alloc (.cells #[.int .i64 x0, .int .i64 x1, .string x2, .int .i64 x3, .int .i64 x4, .int .i64 x5, .int .i64 x6] 33))) := below_new hb.out _
      have hQ0 := Lib.hid (hq.out.alloc (.cells #[.int .i64 x0, .int .i64 x1, .string x2, .int .i64 x3, .int .i64 x4, .int .i64 x5, .int .i64 x6] 33))
      have hX0 := Lib.hid (Blk.new wr 33 #[.int .i64 x0, .int .i64 x1, .string x2, .int .i64 x3, .int .i64 x4, .int .i64 x5, .int .i64 x6])
      have kz : Hid (∀ wz, Below (wr.alloc (.cells #[.int .i64 x0, .int .i64 x1, .string x2, .int .i64 x3, .int .i64 x4, .int .i64 x5, .int .i64 x6] 33)).heap.size (wr.alloc (.cells #[.int .i64 x0, .int .i64 x1, .string x2, .int .i64 x3, .int .i64 x4, .int .i64 x5, .int .i64 x6] 33)) wz → wz.cell? ⟨w.heap.size, 0, none⟩ = some (.int .i64 o0) ∧ wz.cell? ⟨w.heap.size, 1, none⟩ = some (.int .i64 o1) ∧ wz.cell? ⟨w.heap.size, 2, none⟩ = some (.string o2) ∧ wz.cell? ⟨w.heap.size, 3, none⟩ = some (.int .i64 o3) ∧ wz.cell? ⟨w.heap.size, 4, none⟩ = some (.int .i64 o4) ∧ wz.cell? ⟨w.heap.size, 5, none⟩ = some (.int .i64 o5) ∧ wz.cell? ⟨w.heap.size, 6, none⟩ = some (.int .i64 o6) ∧ wz.cell? ⟨wr.heap.size, 0, none⟩ = some (.int .i64 x0) ∧ wz.cell? ⟨wr.heap.size, 1, none⟩ = some (.int .i64 x1) ∧ wz.cell? ⟨wr.heap.size, 2, none⟩ = some (.string x2) ∧ wz.cell? ⟨wr.heap.size, 3, none⟩ = some (.int .i64 x3) ∧ wz.cell? ⟨wr.heap.size, 4, none⟩ = some (.int .i64 x4) ∧ wz.cell? ⟨wr.heap.size, 5, none⟩ = some (.int .i64 x5) ∧ wz.cell? ⟨wr.heap.size, 6, none⟩ = some (.int .i64 x6)) := fun wz h => by
        have q0 := hQ0.out.below h (lt_of_heap hQ0.out)
        have q1 := hX0.out.below h (lt_of_heap hX0.out)
        exact ⟨q0.cell 0, q0.cell 1, q0.cell 2, q0.cell 3, q0.cell 4, q0.cell 5, q0.cell 6, q1.cell 0, q1.cell 1, q1.cell 2, q1.cell 3, q1.cell 4, q1.cell 5, q1.cell 6⟩
      have hgo : Hid ((decide ((k : Int) ≠ but) && act ⟨x0, x1, x2, x3, x4, x5, x6⟩ && clash ⟨x0, x1, x2, x3, x4, x5, x6⟩ ⟨o0, o1, o2, o3, o4, o5, o6⟩) = false → blk but ⟨o0, o1, o2, o3, o4, o5, o6⟩ 0 l = blk but ⟨o0, o1, o2, o3, o4, o5, o6⟩ (k + 1) (l.drop (k + 1))) := fun h => by rw [hx.out, hst.out, h]; rfl
      have hyes : Hid ((decide ((k : Int) ≠ but) && act ⟨x0, x1, x2, x3, x4, x5, x6⟩ && clash ⟨x0, x1, x2, x3, x4, x5, x6⟩ ⟨o0, o1, o2, o3, o4, o5, o6⟩) = true → blk but ⟨o0, o1, o2, o3, o4, o5, o6⟩ 0 l = true) := fun h => by rw [hx.out, hst.out, h]; rfl
      by_cases hbut : (k : Int) = but
      · have hd : ((k : Int) != but) = false := by simpa using hbut
        replace hbut := Lib.hid hbut
        have hbz := hb0
        have hqz := hQ0
        have hF := Lib.hid (hgo.out (by simp [hbut.out]))
        go_wp2_with fail
        go_roundw
        case rel => exact ⟨k + 1, by omega, by go_num, hbz.out, hqz, hF⟩
        case measure => simp [intOf]; omega
      · have hd : ((k : Int) != but) = true := by simpa using hbut
        replace hbut := Lib.hid hbut
        cases ha : act ⟨x0, x1, x2, x3, x4, x5, x6⟩ with
        | false =>
          have ha' := Lib.hid ha
          replace ha := ha'
          go_wp2_with fail
          rw [← hxV.out]
          refine (active_any _ _).mono ?_; rintro e w1 ⟨rfl, hb1⟩
          rw [ha.out]
          obtain ⟨c0, c1, c2, c3, c4, c5, c6, d0, d1, d2, d3, d4, d5, d6⟩ := kz.out _ hb1
          replace hb1 := Lib.hid hb1
          have hbz : Hid (Below w.heap.size w w1) := hb0.out.trans (hb1.out.mono hb0.out.size)
          have hqz : Hid (Blk w1 w.heap.size 33 #[.int .i64 o0, .int .i64 o1, .string o2, .int .i64 o3, .int .i64 o4, .int .i64 o5, .int .i64 o6]) := hQ0.out.below hb1.out (lt_of_heap hQ0.out)
          have hF := Lib.hid (hgo.out (by simp [ha.out]))
          go_wp2_with fail
          go_roundw
          case rel => exact ⟨k + 1, by omega, by go_num, hbz.out, hqz, hF⟩
          case measure => simp [intOf]; omega
        | true =>
          have ha' := Lib.hid ha
          replace ha := ha'
          cases hnr : near ⟨x0, x1, x2, x3, x4, x5, x6⟩ ⟨o0, o1, o2, o3, o4, o5, o6⟩ with
          | false =>
            replace hnr := Lib.hid hnr
            go_wp2_with fail
            rw [← hxV.out]
            refine (active_any _ _).mono ?_; rintro e w1 ⟨rfl, hb1⟩
            rw [ha.out]
            obtain ⟨c0, c1, c2, c3, c4, c5, c6, d0, d1, d2, d3, d4, d5, d6⟩ := kz.out _ hb1
            replace hb1 := Lib.hid hb1
            go_wp2_with fail
            rw [← hxV.out, ← hoV.out]
            refine (near_any _ _ _).mono ?_; rintro e w2 ⟨rfl, hb2⟩
            rw [hoV.out]
            rw [hnr.out]
            clear c0 c1 c2 c3 c4 c5 c6 d0 d1 d2 d3 d4 d5 d6
            replace hb2 := Lib.hid (hb1.out.trans (hb2.mono hb1.out.size))
            have hbz : Hid (Below w.heap.size w w2) := hb0.out.trans (hb2.out.mono hb0.out.size)
            have hqz : Hid (Blk w2 w.heap.size 33 #[.int .i64 o0, .int .i64 o1, .string o2, .int .i64 o3, .int .i64 o4, .int .i64 o5, .int .i64 o6]) := hQ0.out.below hb2.out (lt_of_heap hQ0.out)
            have hF := Lib.hid (hgo.out (by simp [clash, hnr.out]))
            go_wp2_with fail
            go_roundw
            case rel => exact ⟨k + 1, by omega, by go_num, hbz.out, hqz, hF⟩
            case measure => simp [intOf]; omega
          | true =>
            replace hnr := Lib.hid hnr
            cases hlp : lap ⟨x0, x1, x2, x3, x4, x5, x6⟩ ⟨o0, o1, o2, o3, o4, o5, o6⟩ with
            | false =>
              have hlp' : Hid (decide (max x3 o3 < min x4 o4) = false) := hlp
              replace hlp := Lib.hid hlp
              go_wp2_with fail
              rw [← hxV.out]
              refine (active_any _ _).mono ?_; rintro e w1 ⟨rfl, hb1⟩
              rw [ha.out]
              obtain ⟨c0, c1, c2, c3, c4, c5, c6, d0, d1, d2, d3, d4, d5, d6⟩ := kz.out _ hb1
              replace hb1 := Lib.hid hb1
              go_wp2_with fail
              rw [← hxV.out, ← hoV.out]
              refine (near_any _ _ _).mono ?_; rintro e w2 ⟨rfl, hb2⟩
              rw [hoV.out]
              rw [hnr.out]
              clear c0 c1 c2 c3 c4 c5 c6 d0 d1 d2 d3 d4 d5 d6
              replace hb2 := Lib.hid (hb1.out.trans (hb2.mono hb1.out.size))
              obtain ⟨c0, c1, c2, c3, c4, c5, c6, d0, d1, d2, d3, d4, d5, d6⟩ := kz.out _ hb2.out
              go_wp2_with fail
              refine (overlap_any x3 x4 o3 o4 _).mono ?_; rintro e w3 ⟨rfl, hb3⟩
              rw [hlp'.out]
              clear c0 c1 c2 c3 c4 c5 c6 d0 d1 d2 d3 d4 d5 d6
              replace hb3 := Lib.hid (hb2.out.trans (hb3.mono hb2.out.size))
              have hbz : Hid (Below w.heap.size w w3) := hb0.out.trans (hb3.out.mono hb0.out.size)
              have hqz : Hid (Blk w3 w.heap.size 33 #[.int .i64 o0, .int .i64 o1, .string o2, .int .i64 o3, .int .i64 o4, .int .i64 o5, .int .i64 o6]) := hQ0.out.below hb3.out (lt_of_heap hQ0.out)
              have hF := Lib.hid (hgo.out (by simp [clash, hlp.out]))
              go_wp2_with fail
              go_roundw
              case rel => exact ⟨k + 1, by omega, by go_num, hbz.out, hqz, hF⟩
              case measure => simp [intOf]; omega
            | true =>
              have hlp' : Hid (decide (max x3 o3 < min x4 o4) = true) := hlp
              replace hlp := Lib.hid hlp
              have hF := Lib.hid (hyes.out (by simp [hbut.out, ha.out, clash, hnr.out, hlp.out]))
              go_wp2_with fail
              rw [← hxV.out]
              refine (active_any _ _).mono ?_; rintro e w1 ⟨rfl, hb1⟩
              rw [ha.out]
              obtain ⟨c0, c1, c2, c3, c4, c5, c6, d0, d1, d2, d3, d4, d5, d6⟩ := kz.out _ hb1
              replace hb1 := Lib.hid hb1
              go_wp2_with fail
              rw [← hxV.out, ← hoV.out]
              refine (near_any _ _ _).mono ?_; rintro e w2 ⟨rfl, hb2⟩
              rw [hoV.out]
              rw [hnr.out]
              clear c0 c1 c2 c3 c4 c5 c6 d0 d1 d2 d3 d4 d5 d6
              replace hb2 := Lib.hid (hb1.out.trans (hb2.mono hb1.out.size))
              obtain ⟨c0, c1, c2, c3, c4, c5, c6, d0, d1, d2, d3, d4, d5, d6⟩ := kz.out _ hb2.out
              go_wp2_with fail
              refine (overlap_any x3 x4 o3 o4 _).mono ?_; rintro e w3 ⟨rfl, hb3⟩
              rw [hlp'.out]
              clear c0 c1 c2 c3 c4 c5 c6 d0 d1 d2 d3 d4 d5 d6
              replace hb3 := Lib.hid (hb2.out.trans (hb3.mono hb2.out.size))
              go_wp2_with fail
              go_ret
              exact ⟨ret_bool hF.out.symm, hb0.out.trans (hb3.out.mono hb0.out.size)⟩
    · have hF : Hid (blk but ⟨o0, o1, o2, o3, o4, o5, o6⟩ 0 l = false) := by show _ = _; rw [hx.out, List.drop_of_length_le (by rw [hn.out]; omega)]; rfl
      go_wp2_with fail
      go_ret
      exact ⟨ret_bool hF.out.symm, hb.out⟩
set_option maxRecDepth 100000 in
set_option maxHeartbeats 1000000 in
theorem indexO_any (A : Option Addr) (l : List O) (n cap : Nat) (id : Int) (w : World) (h : OAt w w.heap.size A n l) (hm : n ≤ maxLen) :
    Calls Try.prog 25 #[.slice A n cap, .int .i64 id] w fun e w' => e = .returned (.int .i64 (idx id 0 l)) ∧ Below w.heap.size w w' := by
  unfold maxLen at hm
  have hn := Lib.hid h.len
  replace h := Lib.hid h
  go_enter Try.func25, Try.ntmps25
  go_wp2_with fail
  go_loopw [9] (fun i wr => ∃ k : Nat, k ≤ n ∧ i = .int .i64 k ∧ Hid (Below w.heap.size w wr) ∧ Hid (idx id 0 l = idx id k (l.drop k))) (fun i _ => n - (intOf i).toNat)
  case atStart => exact ⟨0, Nat.zero_le _, rfl, Below.refl _ _, rfl⟩
  case round =>
    obtain ⟨k, hk, rfl, hb, hx⟩ := hrel
    by_cases hlt : k < n
    · have hkl : k < l.length := by rw [hn.out]; exact hlt
      have hst := Lib.hid (idxO_step id l k hkl)
      obtain ⟨ad, hA, hbl, e0, e1, e2, e3, e4, e5, e6⟩ := OAt.cell (h.out.below hb.out (Nat.le_refl _)) hlt
      subst hA
      generalize l[k] = x at *
      obtain ⟨x0, x1, x2, x3, x4, x5, x6⟩ := x
      simp only at e0 e1 e2 e3 e4 e5 e6
      have hb0 : Hid (Below w.heap.size w (wr.alloc (.cells #[.int .i64 x0, .int .i64 x1, .string x2, .int .i64 x3, .int .i64 x4, .int .i64 x5, .int .i64 x6] 33))) := below_new hb.out _
      by_cases he : x0 = id
      · have hF : Hid (idx id 0 l = k) := by show _ = _; rw [hx.out, hst.out, if_pos he]
        have hd : (x0 == id) = true := by simpa using he
        replace he := Lib.hid he
        go_wp2_with fail
        go_ret
        exact ⟨ret_int hF.out.symm, hb0.out⟩
      · have hF : Hid (idx id 0 l = idx id (k + 1) (l.drop (k + 1))) := by show _ = _; rw [hx.out, hst.out, if_neg he]
        have hd : (x0 == id) = false := by simpa using he
        replace he := Lib.hid he
        go_wp2_with fail
        go_roundw
        case rel => exact ⟨k + 1, by omega, by go_num, hb0.out, hF⟩
        case measure => simp [intOf]; omega
    · have hF : Hid (idx id 0 l = -1) := by show _ = _; rw [hx.out, List.drop_of_length_le (by rw [hn.out]; omega)]; rfl
      go_wp2_with fail
      go_ret
      exact ⟨ret_int hF.out.symm, hb.out⟩
end Go.Proofs.Ytpejfnfhbpckiaa
