/- Orders: Step, walked. -/
import Derived.Test.YtpejfnfhbpckiaaOG
set_option linter.unusedVariables false
set_option linter.unusedSimpArgs false
namespace Go.Proofs.Ytpejfnfhbpckiaa
open Go.RowKit Go.Proofs.Ytpejfnfhbpckiaa.Ord
/-- the first k orders at the time, the others as they were -/
def stepK (l : List O) (now : Int) (k : Nat) : List O := (l.take k).map (stepO now) ++ l.drop k
theorem stepK_len (l : List O) (now : Int) (k : Nat) : (stepK l now k).length = l.length := by simp [stepK]; omega
theorem stepK_zero (l : List O) (now : Int) : stepK l now 0 = l := by simp [stepK]
theorem stepK_end (l : List O) (now : Int) (k : Nat) (h : l.length ≤ k) : stepK l now k = stepF l now := by simp [stepK, stepF, List.take_of_length_le h, List.drop_of_length_le h]
theorem stepK_at (l : List O) (now : Int) (k : Nat) (h : k < l.length) : (stepK l now k)[k]'(by rw [stepK_len]; exact h) = l[k] := by
  unfold stepK
  rw [List.getElem_append_right (by simp; omega)]
  simp [Nat.min_eq_left (Nat.le_of_lt h)]
theorem stepK_next (l : List O) (now : Int) (k : Nat) (h : k < l.length) : stepK l now (k + 1) = (stepK l now k).set k (stepO now l[k]) := by
  unfold stepK
  rw [List.take_succ_eq_append_getElem h, List.map_append, List.set_append_right _ _ (by simp; omega)]
  simp [Nat.min_eq_left (Nat.le_of_lt h)]
  rw [List.drop_eq_getElem_cons h]
  rfl
theorem stepK_same (l : List O) (now : Int) (k : Nat) (h : k < l.length) (hs : stepO now l[k] = l[k]) : stepK l now (k + 1) = stepK l now k := by
  rw [stepK_next l now k h, hs, ← stepK_at l now k h, List.set_getElem_self]
set_option maxRecDepth 100000 in
set_option maxHeartbeats 4000000 in
theorem step_any (A : Option Addr) (l : List O) (n cap : Nat) (now : Int) (w : World) (h : OAt w w.heap.size A n l) (hm : n ≤ 1000) (hno : ∀ o ∈ l, 0 ≤ o.notes) :
    Calls Try.prog 19 #[.slice A n cap, .int .i64 now] w fun e w' => ∃ v, e = .returned v ∧ OutV w w' (stepF l now) v := by
  have hn := Lib.hid h.len
  replace hno := Lib.hid hno
  have hc := copied_any A l n cap w h hm
  replace hc := Lib.hid hc
  go_enter Try.func19, Try.ntmps19
  go_wp2_with fail
  refine hc.out.mono ?_; rintro e w0 ⟨rfl, ho0, hb0⟩
  obtain ⟨G, hG⟩ : ∃ G, G = w.heap.size := ⟨_, rfl⟩
  rw [← hG] at ho0 ⊢
  have hbG : Hid (w.heap.size ≤ G) := by show _ ≤ _; omega
  replace ho0 := Lib.hid ho0
  replace hb0 := Lib.hid hb0
  replace hG := Lib.hid hG
  go_wp2_with fail
  go_loopw [12] (fun i wr => ∃ k : Nat, k ≤ n ∧ i = .int .i64 k ∧ Hid (Below w.heap.size w wr) ∧ Hid (OOwn wr G (.slice (some ⟨G, 0, none⟩) n (n + 1)) (stepK l now k))) (fun i _ => n - (intOf i).toNat)
  case atStart => exact ⟨0, Nat.zero_le _, rfl, hb0.out, by rw [stepK_zero]; exact ho0.out⟩
  case round =>
    obtain ⟨k, hk, rfl, hb, ho⟩ := hrel
    clear hb0 ho0
    have hlen : Hid ((stepK l now k).length = n) := by show _ = _; rw [stepK_len, hn.out]
    by_cases hlt : k < n
    · have hkl : k < l.length := by rw [hn.out]; exact hlt
      have hkk : k < (stepK l now k).length := by rw [hlen.out]; exact hlt
      have hk0 : (0 : Int) ≤ k := by omega
      have hk1 : (k : Int) < n := by omega
      have hno2 := Lib.hid (hno.out _ (List.getElem_mem hkl))
      have hsame := stepK_same l now k hkl
      have hnext := stepK_next l now k hkl
      have hat := stepK_at l now k hkl
      obtain ⟨x, hx⟩ : ∃ x, l[k] = x := ⟨_, rfl⟩
      rw [hx] at hno2 hsame hnext hat
      replace hx := Lib.hid hx
      replace hsame := Lib.hid hsame
      replace hnext := Lib.hid hnext
      replace hat := Lib.hid hat
      have hxV : Hid (oV x = .agg #[.int .i64 x.id, .int .i64 x.conn, .string x.st, .int .i64 x.fr, .int .i64 x.tt, .int .i64 x.state, .int .i64 x.notes]) := rfl
      obtain ⟨c0, c1, c2, c3, c4, c5, c6, f0, f1, f2, f3, f4, f5, f6⟩ := own_slots ho.out hlen.out hkk hat.out
      obtain ⟨x0, x1, x2, x3, x4, x5, x6⟩ := x
      simp only at c0 c1 c2 c3 c4 c5 c6 hxV hno2
      have hb1 : Hid (Below w.heap.size w (wr.alloc (.cells #[.int .i64 x0, .int .i64 x1, .string x2, .int .i64 x3, .int .i64 x4, .int .i64 x5, .int .i64 x6] 33))) := below_new hb.out _
      have ho1 : Hid (OOwn (wr.alloc (.cells #[.int .i64 x0, .int .i64 x1, .string x2, .int .i64 x3, .int .i64 x4, .int .i64 x5, .int .i64 x6] 33)) G (.slice (some ⟨G, 0, none⟩) n (n + 1)) (stepK l now k)) := ho.out.alloc _
      have hX0 := Lib.hid (Blk.new wr 33 #[.int .i64 x0, .int .i64 x1, .string x2, .int .i64 x3, .int .i64 x4, .int .i64 x5, .int .i64 x6])
      have kz : Hid (∀ wz, Below (wr.alloc (.cells #[.int .i64 x0, .int .i64 x1, .string x2, .int .i64 x3, .int .i64 x4, .int .i64 x5, .int .i64 x6] 33)).heap.size (wr.alloc (.cells #[.int .i64 x0, .int .i64 x1, .string x2, .int .i64 x3, .int .i64 x4, .int .i64 x5, .int .i64 x6] 33)) wz → wz.cell? ⟨wr.heap.size, 0, none⟩ = some (.int .i64 x0) ∧ wz.cell? ⟨wr.heap.size, 1, none⟩ = some (.int .i64 x1) ∧ wz.cell? ⟨wr.heap.size, 2, none⟩ = some (.string x2) ∧ wz.cell? ⟨wr.heap.size, 3, none⟩ = some (.int .i64 x3) ∧ wz.cell? ⟨wr.heap.size, 4, none⟩ = some (.int .i64 x4) ∧ wz.cell? ⟨wr.heap.size, 5, none⟩ = some (.int .i64 x5) ∧ wz.cell? ⟨wr.heap.size, 6, none⟩ = some (.int .i64 x6)) := fun wz h => by
        have q0 := hX0.out.below h (lt_of_heap hX0.out)
        exact ⟨q0.cell 0, q0.cell 1, q0.cell 2, q0.cell 3, q0.cell 4, q0.cell 5, q0.cell 6⟩
      cases ha : act ⟨x0, x1, x2, x3, x4, x5, x6⟩ with
      | true =>
        have ha' := Lib.hid ha
        replace ha := ha'
        by_cases ht : x4 ≤ now
        · have hy : stepO now ⟨x0, x1, x2, x3, x4, x5, x6⟩ = enter ⟨x0, x1, x2, x3, x4, x5, x6⟩ 4 := by unfold stepO; rw [if_pos ⟨ha.out, ht⟩]
          go_wp2_with fail
          rw [← hxV.out]
          refine (active_any _ _).mono ?_; rintro e w1 ⟨rfl, hq⟩
          rw [ha.out]
          clear c0 c1 c2 c3 c4 c5 c6 f0 f1 f2 f3 f4 f5 f6
          have ho2 := Lib.hid (ho1.out.kept hq)
          have hb2 : Hid (Below w.heap.size w w1) := hb1.out.trans (hq.mono hb1.out.size)
          obtain ⟨b0, b1, b2, b3, b4, b5, b6⟩ := kz.out _ hq
          replace hq := Lib.hid hq
          have hy := Lib.hid hy
          go_wp2_with fail
          rw [← hxV.out]
          refine (enter_any ⟨x0, x1, x2, x3, x4, x5, x6⟩ 4 _ hno2.out).mono ?_; rintro e w2 ⟨rfl, hq2⟩
          clear b0 b1 b2 b3 b4 b5 b6
          have ho3 := Lib.hid (ho2.out.kept hq2)
          replace hb2 : Hid (Below w.heap.size w w2) := hb2.out.trans (hq2.mono hb2.out.size)
          generalize enter ⟨x0, x1, x2, x3, x4, x5, x6⟩ 4 = y at *
          have hyV : Hid (oV y = .agg #[.int .i64 y.id, .int .i64 y.conn, .string y.st, .int .i64 y.fr, .int .i64 y.tt, .int .i64 y.state, .int .i64 y.notes]) := rfl
          obtain ⟨y0, y1, y2, y3, y4, y5, y6⟩ := y
          rw [hyV.out]
          obtain ⟨c0, c1, c2, c3, c4, c5, c6, f0, f1, f2, f3, f4, f5, f6⟩ := own_slots ho3.out hlen.out hkk hat.out
          simp only at c0 c1 c2 c3 c4 c5 c6
          go_wp2_with fail
          obtain ⟨q1, q2⟩ := ho3.out.store hlen.out.symm hkk ⟨y0, y1, y2, y3, y4, y5, y6⟩
          go_roundw
          case rel => exact ⟨k + 1, by omega, by go_num, below_grown hb2.out q2 hbG.out, by rw [hnext.out, hy.out]; exact q1⟩
          case measure => simp [intOf]; omega
        · by_cases h5 : x5 = 2
          · subst h5
            by_cases hf : x3 ≤ now
            · have hy : stepO now ⟨x0, x1, x2, x3, x4, 2, x6⟩ = enter ⟨x0, x1, x2, x3, x4, 2, x6⟩ 3 := by unfold stepO; rw [if_neg (fun h => ht h.2), if_pos ⟨rfl, hf⟩]
              go_wp2_with fail
              rw [← hxV.out]
              refine (active_any _ _).mono ?_; rintro e w1 ⟨rfl, hq⟩
              rw [ha.out]
              clear c0 c1 c2 c3 c4 c5 c6 f0 f1 f2 f3 f4 f5 f6
              have ho2 := Lib.hid (ho1.out.kept hq)
              have hb2 : Hid (Below w.heap.size w w1) := hb1.out.trans (hq.mono hb1.out.size)
              obtain ⟨b0, b1, b2, b3, b4, b5, b6⟩ := kz.out _ hq
              replace hq := Lib.hid hq
              have hy := Lib.hid hy
              go_wp2_with fail
              rw [← hxV.out]
              refine (enter_any ⟨x0, x1, x2, x3, x4, 2, x6⟩ 3 _ hno2.out).mono ?_; rintro e w2 ⟨rfl, hq2⟩
              clear b0 b1 b2 b3 b4 b5 b6
              have ho3 := Lib.hid (ho2.out.kept hq2)
              replace hb2 : Hid (Below w.heap.size w w2) := hb2.out.trans (hq2.mono hb2.out.size)
              generalize enter ⟨x0, x1, x2, x3, x4, 2, x6⟩ 3 = y at *
              have hyV : Hid (oV y = .agg #[.int .i64 y.id, .int .i64 y.conn, .string y.st, .int .i64 y.fr, .int .i64 y.tt, .int .i64 y.state, .int .i64 y.notes]) := rfl
              obtain ⟨y0, y1, y2, y3, y4, y5, y6⟩ := y
              rw [hyV.out]
              obtain ⟨c0, c1, c2, c3, c4, c5, c6, f0, f1, f2, f3, f4, f5, f6⟩ := own_slots ho3.out hlen.out hkk hat.out
              simp only at c0 c1 c2 c3 c4 c5 c6
              go_wp2_with fail
              obtain ⟨q1, q2⟩ := ho3.out.store hlen.out.symm hkk ⟨y0, y1, y2, y3, y4, y5, y6⟩
              go_roundw
              case rel => exact ⟨k + 1, by omega, by go_num, below_grown hb2.out q2 hbG.out, by rw [hnext.out, hy.out]; exact q1⟩
              case measure => simp [intOf]; omega
            · have hy : stepO now ⟨x0, x1, x2, x3, x4, 2, x6⟩ = ⟨x0, x1, x2, x3, x4, 2, x6⟩ := by unfold stepO; rw [if_neg (fun h => ht h.2), if_neg (fun h => hf h.2)]
              go_wp2_with fail
              rw [← hxV.out]
              refine (active_any _ _).mono ?_; rintro e w1 ⟨rfl, hq⟩
              rw [ha.out]
              clear c0 c1 c2 c3 c4 c5 c6 f0 f1 f2 f3 f4 f5 f6
              have ho2 := Lib.hid (ho1.out.kept hq)
              have hb2 : Hid (Below w.heap.size w w1) := hb1.out.trans (hq.mono hb1.out.size)
              obtain ⟨b0, b1, b2, b3, b4, b5, b6⟩ := kz.out _ hq
              replace hq := Lib.hid hq
              have hy := Lib.hid (hsame.out hy)
              go_wp2_with fail
              go_roundw
              case rel => exact ⟨k + 1, by omega, by go_num, hb2.out, by rw [hy.out]; exact ho2.out⟩
              case measure => simp [intOf]; omega
          · have hy : stepO now ⟨x0, x1, x2, x3, x4, x5, x6⟩ = ⟨x0, x1, x2, x3, x4, x5, x6⟩ := by unfold stepO; rw [if_neg (fun h => ht h.2), if_neg (fun h => h5 h.1)]
            have h5d : (x5 == 2) = false := by simpa using h5
            replace h5 := Lib.hid h5
            go_wp2_with fail
            rw [← hxV.out]
            refine (active_any _ _).mono ?_; rintro e w1 ⟨rfl, hq⟩
            rw [ha.out]
            clear c0 c1 c2 c3 c4 c5 c6 f0 f1 f2 f3 f4 f5 f6
            have ho2 := Lib.hid (ho1.out.kept hq)
            have hb2 : Hid (Below w.heap.size w w1) := hb1.out.trans (hq.mono hb1.out.size)
            obtain ⟨b0, b1, b2, b3, b4, b5, b6⟩ := kz.out _ hq
            replace hq := Lib.hid hq
            have hy := Lib.hid (hsame.out hy)
            go_wp2_with fail
            go_roundw
            case rel => exact ⟨k + 1, by omega, by go_num, hb2.out, by rw [hy.out]; exact ho2.out⟩
            case measure => simp [intOf]; omega
      | false =>
        have h5 : x5 ≠ 2 := fun h => by rw [h] at ha; simp [act] at ha
        have ha' := Lib.hid ha
        replace ha := ha'
        have hy : stepO now ⟨x0, x1, x2, x3, x4, x5, x6⟩ = ⟨x0, x1, x2, x3, x4, x5, x6⟩ := by unfold stepO; rw [if_neg (fun h => by rw [ha.out] at h; cases h.1), if_neg (fun h => h5 h.1)]
        have h5d : (x5 == 2) = false := by simpa using h5
        replace h5 := Lib.hid h5
        go_wp2_with fail
        rw [← hxV.out]
        refine (active_any _ _).mono ?_; rintro e w1 ⟨rfl, hq⟩
        rw [ha.out]
        clear c0 c1 c2 c3 c4 c5 c6 f0 f1 f2 f3 f4 f5 f6
        have ho2 := Lib.hid (ho1.out.kept hq)
        have hb2 : Hid (Below w.heap.size w w1) := hb1.out.trans (hq.mono hb1.out.size)
        obtain ⟨b0, b1, b2, b3, b4, b5, b6⟩ := kz.out _ hq
        replace hq := Lib.hid hq
        have hy := Lib.hid (hsame.out hy)
        go_wp2_with fail
        go_roundw
        case rel => exact ⟨k + 1, by omega, by go_num, hb2.out, by rw [hy.out]; exact ho2.out⟩
        case measure => simp [intOf]; omega
    · have hF : Hid (stepK l now k = stepF l now) := stepK_end l now k (by rw [hn.out]; omega)
      go_wp2_with fail
      go_ret
      exact ⟨_, rfl, OutV.own (by rw [← hF.out]; exact ho.out) hb.out⟩
end Go.Proofs.Ytpejfnfhbpckiaa
