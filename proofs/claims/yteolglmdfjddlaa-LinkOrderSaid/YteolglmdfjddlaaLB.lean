/- Links: Valid of both, walked. -/
import Derived.Test.YteolglmdfjddlaaLA
set_option linter.unusedVariables false
set_option linter.unusedSimpArgs false
namespace Go.Proofs.Yteolglmdfjddlaa
open Go.RowKit
theorem firstE_step (f : Nat → Int) (n k : Nat) (hk : k < n) : firstE f (n - k) k = if f k = 0 then firstE f (n - (k + 1)) (k + 1) else f k := by
  rw [show n - k = (n - (k + 1)) + 1 by omega, firstE]
theorem firstE_end (f : Nat → Int) (n k : Nat) (hk : ¬ k < n) : firstE f (n - k) k = 0 := by
  rw [show n - k = 0 by omega, firstE]
theorem validL_head (v : Lv) (h : badHead v) : validL v = 2 := by unfold validL; rw [if_pos h]
theorem validL_l3 (v : Lv) (h : ¬ badHead v) (h2 : 256 < v.lose.length) : validL v = 3 := by unfold validL; rw [if_neg h, if_pos h2]
theorem validL_lose (v : Lv) (h : ¬ badHead v) (h2 : ¬ 256 < v.lose.length) (e : Int) (hf : firstE (loseE v.lose) v.lose.length 0 = e) (he : e ≠ 0) : validL v = e := by unfold validL; rw [if_neg h, if_neg h2, hf, if_neg he]
theorem validL_box (v : Lv) (h : ¬ badHead v) (h2 : ¬ 256 < v.lose.length) (hf : firstE (loseE v.lose) v.lose.length 0 = 0) : validL v = boxV v := by unfold validL; rw [if_neg h, if_neg h2, if_pos hf]
theorem boxV_3 (v : Lv) (h : 256 < v.box.length) : boxV v = 3 := by unfold boxV; rw [if_pos h]
theorem boxV_f (v : Lv) (h : ¬ 256 < v.box.length) : boxV v = firstE (boxE v) v.box.length 0 := by unfold boxV; rw [if_neg h]
theorem loseE_at (l : List Int) (k : Nat) (h : k < l.length) (m : Nat) (hm : 0 < k → k = m + 1) : loseE l k = if l[k] < 0 then 2 else if 0 < k ∧ l[k] ≤ l.getD m 0 then 1 else 0 := by
  unfold loseE
  have e : l.getD k 0 = l[k] := by simp [List.getD_eq_getElem?_getD, h]
  rw [e]
  by_cases h0 : 0 < k
  · have := hm h0; subst this; rfl
  · simp [h0]
theorem boxE_at (now delay count : Int) (cut : Bool) (lose : List Int) (L : List Pk) (k : Nat) (h : k < L.length) (m : Nat) (hm : 0 < k → k = m + 1) : boxE ⟨now, delay, cut, count, lose, L.map Pk.val⟩ k = if L[k].due ≤ now ∨ now + delay < L[k].due then 2 else if 0 < k ∧ L[k].due < (L.getD m ⟨0, none, 0, 0, []⟩).due then 1 else if 8198 < L[k].d.length then 3 else 0 := by
  have e : (L.map Pk.val).getD k (0, []) = L[k].val := by simp [List.getD_eq_getElem?_getD, h]
  have e2 : ∀ m, m < L.length → (L.map Pk.val).getD m (0, []) = (L.getD m ⟨0, none, 0, 0, []⟩).val := by
    intro m hm
    simp [List.getD_eq_getElem?_getD, hm]
  unfold boxE
  simp only [e]
  by_cases h0 : 0 < k
  · have := hm h0; subst this
    simp only [Nat.add_sub_cancel, e2 m (by omega)]
    rfl
  · simp only [h0, false_and, if_false]
    rfl
set_option maxRecDepth 100000 in
set_option maxHeartbeats 8000000 in
theorem rbox_any (l : Lk) (w : World) (h : LkOk w l) (h1 : l.lose.length ≤ 1000) (h2 : l.box.length ≤ 1000) (hnb : 0 ≤ l.now ∧ l.now ≤ 268435456 ∧ 1 ≤ l.delay ∧ l.delay ≤ 60) :
    Calls Try.prog 26 #[lkV l] w fun e w' => e = .returned (.int .i64 (boxV l.val)) ∧ Below w.heap.size w w' := by
  have hln := Lib.hid h.la.len
  have hbn := Lib.hid h.ba.len
  obtain ⟨now, delay, cut, count, lA, ln, lc, lose, bA, bn, bc, box⟩ := l
  simp only [lkV, Lk.val] at *
  have hln1 : ln ≤ 1000 := by have := hln.out; omega
  have hbn1 : bn ≤ 1000 := by have := hbn.out; omega
  replace h := Lib.hid h
  have px := Lib.hid (Blk.new w 25 #[Value.int .i64 now, Value.int .i64 delay, Value.bool cut, Value.int .i64 count, Value.slice lA ln lc, Value.slice bA bn bc])
  have hb0 := Lib.hid (a1 w (.cells #[Value.int .i64 now, Value.int .i64 delay, Value.bool cut, Value.int .i64 count, Value.slice lA ln lc, Value.slice bA bn bc] 25))
  obtain ⟨n1, n2, n3, n4⟩ := hnb
  obtain ⟨k0, k1, k2, k3, k4, k5⟩ := (show (w.alloc (.cells #[Value.int .i64 now, Value.int .i64 delay, Value.bool cut, Value.int .i64 count, Value.slice lA ln lc, Value.slice bA bn bc] 25)).cell? ⟨w.heap.size, 0, none⟩ = some (Value.int .i64 now) ∧ (w.alloc (.cells #[Value.int .i64 now, Value.int .i64 delay, Value.bool cut, Value.int .i64 count, Value.slice lA ln lc, Value.slice bA bn bc] 25)).cell? ⟨w.heap.size, 1, none⟩ = some (Value.int .i64 delay) ∧ (w.alloc (.cells #[Value.int .i64 now, Value.int .i64 delay, Value.bool cut, Value.int .i64 count, Value.slice lA ln lc, Value.slice bA bn bc] 25)).cell? ⟨w.heap.size, 2, none⟩ = some (Value.bool cut) ∧ (w.alloc (.cells #[Value.int .i64 now, Value.int .i64 delay, Value.bool cut, Value.int .i64 count, Value.slice lA ln lc, Value.slice bA bn bc] 25)).cell? ⟨w.heap.size, 3, none⟩ = some (Value.int .i64 count) ∧ (w.alloc (.cells #[Value.int .i64 now, Value.int .i64 delay, Value.bool cut, Value.int .i64 count, Value.slice lA ln lc, Value.slice bA bn bc] 25)).cell? ⟨w.heap.size, 4, none⟩ = some (Value.slice lA ln lc) ∧ (w.alloc (.cells #[Value.int .i64 now, Value.int .i64 delay, Value.bool cut, Value.int .i64 count, Value.slice lA ln lc, Value.slice bA bn bc] 25)).cell? ⟨w.heap.size, 5, none⟩ = some (Value.slice bA bn bc) from ⟨px.out.cell 0, px.out.cell 1, px.out.cell 2, px.out.cell 3, px.out.cell 4, px.out.cell 5⟩)
  by_cases hq : 256 < bn
  · have hqi : (256 : Int) < (bn : Int) := by omega
    have hF : Hid (boxV ⟨now, delay, cut, count, lose, box.map Pk.val⟩ = 3) := boxV_3 _ (by show 256 < (box.map Pk.val).length; rw [List.length_map, hbn.out]; exact hq)
    go_enter Try.func26, Try.ntmps26
    go_wp2_with fail
    go_ret
    exact ⟨by rw [hF.out]; rfl, hb0.out⟩
  have hqi : ¬ (256 : Int) < (bn : Int) := by omega
  have hfin : Hid (boxV ⟨now, delay, cut, count, lose, box.map Pk.val⟩ = firstE (boxE ⟨now, delay, cut, count, lose, box.map Pk.val⟩) (box.map Pk.val).length 0) := boxV_f _ (by show ¬ 256 < (box.map Pk.val).length; rw [List.length_map, hbn.out]; exact hq)
  go_enter Try.func26, Try.ntmps26
  go_wp2_with fail
  clear k0 k1 k2 k3 k4 k5
  go_loopw [3] (fun i wr => ∃ k : Nat, k ≤ bn ∧ i = .int .i64 k ∧ Hid (Blk wr w.heap.size 25 #[Value.int .i64 now, Value.int .i64 delay, Value.bool cut, Value.int .i64 count, Value.slice lA ln lc, Value.slice bA bn bc]) ∧ Hid (Below w.heap.size w wr) ∧ Hid (firstE (boxE ⟨now, delay, cut, count, lose, box.map Pk.val⟩) bn 0 = firstE (boxE ⟨now, delay, cut, count, lose, box.map Pk.val⟩) (bn - k) k)) (fun i _ => bn - (intOf i).toNat)
  case atStart => exact ⟨0, Nat.zero_le _, rfl, px.out, hb0.out, rfl⟩
  case round =>
    obtain ⟨k, hkn, rfl, hB, hb, hx⟩ := hrel
    by_cases hlt : k < bn
    · have hkl : k < box.length := by have := hbn.out; omega
      have hk0 : (0 : Int) ≤ k := by omega
      have hk1 : (k : Int) < bn := by omega
      have hst := Lib.hid (hx.out.trans (firstE_step (boxE ⟨now, delay, cut, count, lose, box.map Pk.val⟩) bn k hlt))
      obtain ⟨ad, hA, hbl, e0, e1⟩ := pk_cells (h.out.ba.below hb.out (Nat.le_refl _)) hlt
      (try simp only at hA e0 e1)
      rcases Nat.eq_zero_or_pos k with h0 | h0
      · have hE := Lib.hid (boxE_at now delay count cut lose box k hkl 0 (by omega))
        have hd0 : decide ((0 : Int) < (k : Int)) = false := by simp; omega
        have hd1 : ¬ (0 : Int) < (k : Int) := by omega
        have hd3 : ¬ 0 < k := by omega
        have hd4 : decide (0 < k) = false := by simp; omega
        have hd2 : Hid (¬ (0 < k)) := by show ¬ _; omega
        replace h0 := Lib.hid h0
        obtain ⟨u0, u1, u2, u3, u4, u5⟩ := (show wr.cell? ⟨w.heap.size, 0, none⟩ = some (Value.int .i64 now) ∧ wr.cell? ⟨w.heap.size, 1, none⟩ = some (Value.int .i64 delay) ∧ wr.cell? ⟨w.heap.size, 2, none⟩ = some (Value.bool cut) ∧ wr.cell? ⟨w.heap.size, 3, none⟩ = some (Value.int .i64 count) ∧ wr.cell? ⟨w.heap.size, 4, none⟩ = some (Value.slice lA ln lc) ∧ wr.cell? ⟨w.heap.size, 5, none⟩ = some (Value.slice bA bn bc) from ⟨hB.out.cell 0, hB.out.cell 1, hB.out.cell 2, hB.out.cell 3, hB.out.cell 4, hB.out.cell 5⟩)
        have hbdk := Lib.hid (h.out.bd _ (List.getElem_mem hkl))
        (try simp only at hbdk)
        generalize box[k] = p at *
        obtain ⟨due, pA, pn, pc, pd⟩ := p
        obtain rfl : pd.length = pn := hbdk.out.1.1.len
        (try simp only at e0 e1 hE)
        subst hA
        have hP := Lib.hid (Blk.new wr 29 #[Value.int .i64 due, Value.slice pA pd.length pc])
        have hB2 : Hid (Blk (wr.alloc (.cells #[Value.int .i64 due, Value.slice pA pd.length pc] 29)) w.heap.size 25 #[Value.int .i64 now, Value.int .i64 delay, Value.bool cut, Value.int .i64 count, Value.slice lA ln lc, Value.slice (some ad) bn bc]) := hB.out.alloc _
        have hb2 : Hid (Below w.heap.size w (wr.alloc (.cells #[Value.int .i64 due, Value.slice pA pd.length pc] 29))) := hb.out.alloc hb.out.size _
        obtain ⟨k0, k1, k2, k3, k4, k5⟩ := (show (wr.alloc (.cells #[Value.int .i64 due, Value.slice pA pd.length pc] 29)).cell? ⟨w.heap.size, 0, none⟩ = some (Value.int .i64 now) ∧ (wr.alloc (.cells #[Value.int .i64 due, Value.slice pA pd.length pc] 29)).cell? ⟨w.heap.size, 1, none⟩ = some (Value.int .i64 delay) ∧ (wr.alloc (.cells #[Value.int .i64 due, Value.slice pA pd.length pc] 29)).cell? ⟨w.heap.size, 2, none⟩ = some (Value.bool cut) ∧ (wr.alloc (.cells #[Value.int .i64 due, Value.slice pA pd.length pc] 29)).cell? ⟨w.heap.size, 3, none⟩ = some (Value.int .i64 count) ∧ (wr.alloc (.cells #[Value.int .i64 due, Value.slice pA pd.length pc] 29)).cell? ⟨w.heap.size, 4, none⟩ = some (Value.slice lA ln lc) ∧ (wr.alloc (.cells #[Value.int .i64 due, Value.slice pA pd.length pc] 29)).cell? ⟨w.heap.size, 5, none⟩ = some (Value.slice (some ad) bn bc) from ⟨hB2.out.cell 0, hB2.out.cell 1, hB2.out.cell 2, hB2.out.cell 3, hB2.out.cell 4, hB2.out.cell 5⟩)
        obtain ⟨p0, p1⟩ := (show (wr.alloc (.cells #[Value.int .i64 due, Value.slice pA pd.length pc] 29)).cell? ⟨wr.heap.size, 0, none⟩ = some (Value.int .i64 due) ∧ (wr.alloc (.cells #[Value.int .i64 due, Value.slice pA pd.length pc] 29)).cell? ⟨wr.heap.size, 1, none⟩ = some (Value.slice pA pd.length pc) from ⟨hP.out.cell 0, hP.out.cell 1⟩)

        by_cases q1 : due ≤ now
        · have q1d : decide (due ≤ now) = true := by simpa using q1
          have q1h := Lib.hid q1
          have hF : Hid (boxV ⟨now, delay, cut, count, lose, box.map Pk.val⟩ = 2) := by
            show _ = _
            rw [hfin.out]
            show firstE (boxE ⟨now, delay, cut, count, lose, box.map Pk.val⟩) (box.map Pk.val).length 0 = 2
            rw [List.length_map, hbn.out, hst.out, hE.out]
            simp [q1]
          go_wp2_with fail
          go_ret
          exact ⟨by rw [hF.out]; rfl, hb2.out⟩
        · have q1d : decide (due ≤ now) = false := by simpa using q1
          have q1h := Lib.hid q1
          by_cases q2 : now + delay < due
          · have q2d : decide (now + delay < due) = true := by simpa using q2
            have q2h := Lib.hid q2
            have hF : Hid (boxV ⟨now, delay, cut, count, lose, box.map Pk.val⟩ = 2) := by
              show _ = _
              rw [hfin.out]
              show firstE (boxE ⟨now, delay, cut, count, lose, box.map Pk.val⟩) (box.map Pk.val).length 0 = 2
              rw [List.length_map, hbn.out, hst.out, hE.out]
              simp [q1, q2]
            go_wp2_with fail
            go_ret
            exact ⟨by rw [hF.out]; rfl, hb2.out⟩
          · have q2d : decide (now + delay < due) = false := by simpa using q2
            have q2h := Lib.hid q2
            go_wp2_with fail
            go_quiet (fail)
            have hB3 : Hid (Blk ((wr.alloc (.cells #[Value.int .i64 due, Value.slice pA pd.length pc] 29)).drewN nq) w.heap.size 25 #[Value.int .i64 now, Value.int .i64 delay, Value.bool cut, Value.int .i64 count, Value.slice lA ln lc, Value.slice (some ad) bn bc]) := hB2.out
            obtain ⟨p0, p1⟩ := (show ((wr.alloc (.cells #[Value.int .i64 due, Value.slice pA pd.length pc] 29)).drewN nq).cell? ⟨wr.heap.size, 0, none⟩ = some (Value.int .i64 due) ∧ ((wr.alloc (.cells #[Value.int .i64 due, Value.slice pA pd.length pc] 29)).drewN nq).cell? ⟨wr.heap.size, 1, none⟩ = some (Value.slice pA pd.length pc) from ⟨hP.out.cell 0, hP.out.cell 1⟩)
            by_cases q4 : 8198 < pd.length
            · have q4i : (8198 : Int) < (pd.length : Int) := by omega
              have q4d : decide ((8198 : Int) < (pd.length : Int)) = true := by simpa using q4i
              have hF : Hid (boxV ⟨now, delay, cut, count, lose, box.map Pk.val⟩ = 3) := by
                show _ = _
                rw [hfin.out]
                show firstE (boxE ⟨now, delay, cut, count, lose, box.map Pk.val⟩) (box.map Pk.val).length 0 = 3
                rw [List.length_map, hbn.out, hst.out, hE.out, if_neg (show ¬ (due ≤ now ∨ now + delay < due) by have := q1h.out; have := q2h.out; omega), if_neg (show ¬ (0 < k ∧ due < (box.getD 0 ⟨0, none, 0, 0, []⟩).due) by have := hd2.out; omega)]
                simp [q4]
              go_wp2_with fail
              go_ret
              exact ⟨by rw [hF.out]; rfl, below_drewN hb2.out _⟩
            · have q4i : ¬ (8198 : Int) < (pd.length : Int) := by omega
              have q4d : decide ((8198 : Int) < (pd.length : Int)) = false := by simpa using q4i
              have hF : Hid (firstE (boxE ⟨now, delay, cut, count, lose, box.map Pk.val⟩) bn 0 = firstE (boxE ⟨now, delay, cut, count, lose, box.map Pk.val⟩) (bn - (k + 1)) (k + 1)) := by show _ = _; rw [hst.out, hE.out, if_neg (show ¬ (due ≤ now ∨ now + delay < due) by have := q1h.out; have := q2h.out; omega), if_neg (show ¬ (0 < k ∧ due < (box.getD 0 ⟨0, none, 0, 0, []⟩).due) by have := hd2.out; omega)]; simp [q4]
              go_wp2_with fail
              go_roundw
              case rel => exact ⟨k + 1, by omega, by go_num, hB3.out, below_drewN hb2.out _, hF.out⟩
              case measure => simp [intOf]; omega
      · have hm : Hid (k = k - 1 + 1) := by show _ = _; omega
        have hE := Lib.hid (boxE_at now delay count cut lose box k hkl (k - 1) (fun _ => hm.out))
        have hml : k - 1 < box.length := by omega
        have hm0 : (0 : Int) ≤ (k : Int) - 1 := by omega
        have hm1 : (k : Int) - 1 < (bn : Int) := by omega
        obtain ⟨ad', hA', -, d0, -⟩ := pk_cells (h.out.ba.below hb.out (Nat.le_refl _)) (show k - 1 < bn by omega)
        (try simp only at hA' d0)
        obtain rfl : ad = ad' := by rw [hA] at hA'; injection hA'
        rw [show box.getD (k - 1) ⟨0, none, 0, 0, []⟩ = box[k - 1] by simp [List.getD_eq_getElem?_getD, hml]] at hE
        generalize box[k - 1].due = dm at *
        have hd0 : decide ((0 : Int) < (k : Int)) = true := by simp; omega
        have hd1 : (0 : Int) < (k : Int) := by omega
        have hd3 : 0 < k := by omega
        have hd4 : decide (0 < k) = true := by simp; omega
        replace h0 := Lib.hid h0
        obtain ⟨u0, u1, u2, u3, u4, u5⟩ := (show wr.cell? ⟨w.heap.size, 0, none⟩ = some (Value.int .i64 now) ∧ wr.cell? ⟨w.heap.size, 1, none⟩ = some (Value.int .i64 delay) ∧ wr.cell? ⟨w.heap.size, 2, none⟩ = some (Value.bool cut) ∧ wr.cell? ⟨w.heap.size, 3, none⟩ = some (Value.int .i64 count) ∧ wr.cell? ⟨w.heap.size, 4, none⟩ = some (Value.slice lA ln lc) ∧ wr.cell? ⟨w.heap.size, 5, none⟩ = some (Value.slice bA bn bc) from ⟨hB.out.cell 0, hB.out.cell 1, hB.out.cell 2, hB.out.cell 3, hB.out.cell 4, hB.out.cell 5⟩)
        have hbdk := Lib.hid (h.out.bd _ (List.getElem_mem hkl))
        (try simp only at hbdk)
        generalize box[k] = p at *
        obtain ⟨due, pA, pn, pc, pd⟩ := p
        obtain rfl : pd.length = pn := hbdk.out.1.1.len
        (try simp only at e0 e1 hE)
        subst hA
        have hP := Lib.hid (Blk.new wr 29 #[Value.int .i64 due, Value.slice pA pd.length pc])
        have hB2 : Hid (Blk (wr.alloc (.cells #[Value.int .i64 due, Value.slice pA pd.length pc] 29)) w.heap.size 25 #[Value.int .i64 now, Value.int .i64 delay, Value.bool cut, Value.int .i64 count, Value.slice lA ln lc, Value.slice (some ad) bn bc]) := hB.out.alloc _
        have hb2 : Hid (Below w.heap.size w (wr.alloc (.cells #[Value.int .i64 due, Value.slice pA pd.length pc] 29))) := hb.out.alloc hb.out.size _
        obtain ⟨k0, k1, k2, k3, k4, k5⟩ := (show (wr.alloc (.cells #[Value.int .i64 due, Value.slice pA pd.length pc] 29)).cell? ⟨w.heap.size, 0, none⟩ = some (Value.int .i64 now) ∧ (wr.alloc (.cells #[Value.int .i64 due, Value.slice pA pd.length pc] 29)).cell? ⟨w.heap.size, 1, none⟩ = some (Value.int .i64 delay) ∧ (wr.alloc (.cells #[Value.int .i64 due, Value.slice pA pd.length pc] 29)).cell? ⟨w.heap.size, 2, none⟩ = some (Value.bool cut) ∧ (wr.alloc (.cells #[Value.int .i64 due, Value.slice pA pd.length pc] 29)).cell? ⟨w.heap.size, 3, none⟩ = some (Value.int .i64 count) ∧ (wr.alloc (.cells #[Value.int .i64 due, Value.slice pA pd.length pc] 29)).cell? ⟨w.heap.size, 4, none⟩ = some (Value.slice lA ln lc) ∧ (wr.alloc (.cells #[Value.int .i64 due, Value.slice pA pd.length pc] 29)).cell? ⟨w.heap.size, 5, none⟩ = some (Value.slice (some ad) bn bc) from ⟨hB2.out.cell 0, hB2.out.cell 1, hB2.out.cell 2, hB2.out.cell 3, hB2.out.cell 4, hB2.out.cell 5⟩)
        obtain ⟨p0, p1⟩ := (show (wr.alloc (.cells #[Value.int .i64 due, Value.slice pA pd.length pc] 29)).cell? ⟨wr.heap.size, 0, none⟩ = some (Value.int .i64 due) ∧ (wr.alloc (.cells #[Value.int .i64 due, Value.slice pA pd.length pc] 29)).cell? ⟨wr.heap.size, 1, none⟩ = some (Value.slice pA pd.length pc) from ⟨hP.out.cell 0, hP.out.cell 1⟩)
        have d0 := cell_alloc d0 (.cells #[Value.int .i64 due, Value.slice pA pd.length pc] 29)
        by_cases q1 : due ≤ now
        · have q1d : decide (due ≤ now) = true := by simpa using q1
          have q1h := Lib.hid q1
          have hF : Hid (boxV ⟨now, delay, cut, count, lose, box.map Pk.val⟩ = 2) := by
            show _ = _
            rw [hfin.out]
            show firstE (boxE ⟨now, delay, cut, count, lose, box.map Pk.val⟩) (box.map Pk.val).length 0 = 2
            rw [List.length_map, hbn.out, hst.out, hE.out]
            simp [q1]
          go_wp2_with fail
          go_ret
          exact ⟨by rw [hF.out]; rfl, hb2.out⟩
        · have q1d : decide (due ≤ now) = false := by simpa using q1
          have q1h := Lib.hid q1
          by_cases q2 : now + delay < due
          · have q2d : decide (now + delay < due) = true := by simpa using q2
            have q2h := Lib.hid q2
            have hF : Hid (boxV ⟨now, delay, cut, count, lose, box.map Pk.val⟩ = 2) := by
              show _ = _
              rw [hfin.out]
              show firstE (boxE ⟨now, delay, cut, count, lose, box.map Pk.val⟩) (box.map Pk.val).length 0 = 2
              rw [List.length_map, hbn.out, hst.out, hE.out]
              simp [q1, q2]
            go_wp2_with fail
            go_ret
            exact ⟨by rw [hF.out]; rfl, hb2.out⟩
          · have q2d : decide (now + delay < due) = false := by simpa using q2
            have q2h := Lib.hid q2
            by_cases q3 : due < dm
            · have q3d : decide (due < dm) = true := by simpa using q3
              have q3h := Lib.hid q3
              have hF : Hid (boxV ⟨now, delay, cut, count, lose, box.map Pk.val⟩ = 1) := by
                show _ = _
                rw [hfin.out]
                show firstE (boxE ⟨now, delay, cut, count, lose, box.map Pk.val⟩) (box.map Pk.val).length 0 = 1
                rw [List.length_map, hbn.out, hst.out, hE.out]
                simp [q1h.out, q2h.out, h0.out, q3h.out]
              go_wp2_with fail
              go_quiet (fail)
              go_wp2_with fail
              go_ret
              exact ⟨by rw [hF.out]; rfl, below_drewN hb2.out _⟩
            · have q3d : decide (due < dm) = false := by simpa using q3
              have q3h := Lib.hid q3
              go_wp2_with fail
              go_quiet (fail)
              have hB3 : Hid (Blk ((wr.alloc (.cells #[Value.int .i64 due, Value.slice pA pd.length pc] 29)).drewN nq) w.heap.size 25 #[Value.int .i64 now, Value.int .i64 delay, Value.bool cut, Value.int .i64 count, Value.slice lA ln lc, Value.slice (some ad) bn bc]) := hB2.out
              obtain ⟨p0, p1⟩ := (show ((wr.alloc (.cells #[Value.int .i64 due, Value.slice pA pd.length pc] 29)).drewN nq).cell? ⟨wr.heap.size, 0, none⟩ = some (Value.int .i64 due) ∧ ((wr.alloc (.cells #[Value.int .i64 due, Value.slice pA pd.length pc] 29)).drewN nq).cell? ⟨wr.heap.size, 1, none⟩ = some (Value.slice pA pd.length pc) from ⟨hP.out.cell 0, hP.out.cell 1⟩)
              by_cases q4 : 8198 < pd.length
              · have q4i : (8198 : Int) < (pd.length : Int) := by omega
                have q4d : decide ((8198 : Int) < (pd.length : Int)) = true := by simpa using q4i
                have hF : Hid (boxV ⟨now, delay, cut, count, lose, box.map Pk.val⟩ = 3) := by
                  show _ = _
                  rw [hfin.out]
                  show firstE (boxE ⟨now, delay, cut, count, lose, box.map Pk.val⟩) (box.map Pk.val).length 0 = 3
                  rw [List.length_map, hbn.out, hst.out, hE.out, if_neg (show ¬ (due ≤ now ∨ now + delay < due) by have := q1h.out; have := q2h.out; omega), if_neg (show ¬ (0 < k ∧ due < dm) by have := q3h.out; omega)]
                  simp [q4]
                go_wp2_with fail
                go_ret
                exact ⟨by rw [hF.out]; rfl, below_drewN hb2.out _⟩
              · have q4i : ¬ (8198 : Int) < (pd.length : Int) := by omega
                have q4d : decide ((8198 : Int) < (pd.length : Int)) = false := by simpa using q4i
                have hF : Hid (firstE (boxE ⟨now, delay, cut, count, lose, box.map Pk.val⟩) bn 0 = firstE (boxE ⟨now, delay, cut, count, lose, box.map Pk.val⟩) (bn - (k + 1)) (k + 1)) := by show _ = _; rw [hst.out, hE.out, if_neg (show ¬ (due ≤ now ∨ now + delay < due) by have := q1h.out; have := q2h.out; omega), if_neg (show ¬ (0 < k ∧ due < dm) by have := q3h.out; omega)]; simp [q4]
                go_wp2_with fail
                go_roundw
                case rel => exact ⟨k + 1, by omega, by go_num, hB3.out, below_drewN hb2.out _, hF.out⟩
                case measure => simp [intOf]; omega
    · obtain ⟨k0, k1, k2, k3, k4, k5⟩ := (show wr.cell? ⟨w.heap.size, 0, none⟩ = some (Value.int .i64 now) ∧ wr.cell? ⟨w.heap.size, 1, none⟩ = some (Value.int .i64 delay) ∧ wr.cell? ⟨w.heap.size, 2, none⟩ = some (Value.bool cut) ∧ wr.cell? ⟨w.heap.size, 3, none⟩ = some (Value.int .i64 count) ∧ wr.cell? ⟨w.heap.size, 4, none⟩ = some (Value.slice lA ln lc) ∧ wr.cell? ⟨w.heap.size, 5, none⟩ = some (Value.slice bA bn bc) from ⟨hB.out.cell 0, hB.out.cell 1, hB.out.cell 2, hB.out.cell 3, hB.out.cell 4, hB.out.cell 5⟩)
      have hF0 : Hid (firstE (boxE ⟨now, delay, cut, count, lose, box.map Pk.val⟩) bn 0 = 0) := by show _ = _; rw [hx.out]; exact firstE_end _ _ _ hlt
      have hF : Hid (boxV ⟨now, delay, cut, count, lose, box.map Pk.val⟩ = 0) := by
        show _ = _
        rw [hfin.out]
        show firstE (boxE ⟨now, delay, cut, count, lose, box.map Pk.val⟩) (box.map Pk.val).length 0 = 0
        rw [List.length_map, hbn.out]; exact hF0.out
      go_wp2_with fail
      go_ret
      exact ⟨by rw [hF.out]; rfl, hb.out⟩
set_option maxRecDepth 100000 in
set_option maxHeartbeats 8000000 in
theorem rvalid_any (l : Lk) (w : World) (h : LkOk w l) (h1 : l.lose.length ≤ 1000) (h2 : l.box.length ≤ 1000) :
    Calls Try.prog 10 #[lkV l] w fun e w' => e = .returned (.int .i64 (validL l.val)) ∧ Below w.heap.size w w' := by
  have hln := Lib.hid h.la.len
  have hbn := Lib.hid h.ba.len
  obtain ⟨now, delay, cut, count, lA, ln, lc, lose, bA, bn, bc, box⟩ := l
  simp only [lkV, Lk.val] at *
  have hln1 : ln ≤ 1000 := by have := hln.out; omega
  have hbn1 : bn ≤ 1000 := by have := hbn.out; omega
  replace h := Lib.hid h
  have px := Lib.hid (Blk.new w 25 #[Value.int .i64 now, Value.int .i64 delay, Value.bool cut, Value.int .i64 count, Value.slice lA ln lc, Value.slice bA bn bc])
  have hb0 := Lib.hid (a1 w (.cells #[Value.int .i64 now, Value.int .i64 delay, Value.bool cut, Value.int .i64 count, Value.slice lA ln lc, Value.slice bA bn bc] 25))
  obtain ⟨k0, k1, k2, k3, k4, k5⟩ := (show (w.alloc (.cells #[Value.int .i64 now, Value.int .i64 delay, Value.bool cut, Value.int .i64 count, Value.slice lA ln lc, Value.slice bA bn bc] 25)).cell? ⟨w.heap.size, 0, none⟩ = some (Value.int .i64 now) ∧ (w.alloc (.cells #[Value.int .i64 now, Value.int .i64 delay, Value.bool cut, Value.int .i64 count, Value.slice lA ln lc, Value.slice bA bn bc] 25)).cell? ⟨w.heap.size, 1, none⟩ = some (Value.int .i64 delay) ∧ (w.alloc (.cells #[Value.int .i64 now, Value.int .i64 delay, Value.bool cut, Value.int .i64 count, Value.slice lA ln lc, Value.slice bA bn bc] 25)).cell? ⟨w.heap.size, 2, none⟩ = some (Value.bool cut) ∧ (w.alloc (.cells #[Value.int .i64 now, Value.int .i64 delay, Value.bool cut, Value.int .i64 count, Value.slice lA ln lc, Value.slice bA bn bc] 25)).cell? ⟨w.heap.size, 3, none⟩ = some (Value.int .i64 count) ∧ (w.alloc (.cells #[Value.int .i64 now, Value.int .i64 delay, Value.bool cut, Value.int .i64 count, Value.slice lA ln lc, Value.slice bA bn bc] 25)).cell? ⟨w.heap.size, 4, none⟩ = some (Value.slice lA ln lc) ∧ (w.alloc (.cells #[Value.int .i64 now, Value.int .i64 delay, Value.bool cut, Value.int .i64 count, Value.slice lA ln lc, Value.slice bA bn bc] 25)).cell? ⟨w.heap.size, 5, none⟩ = some (Value.slice bA bn bc) from ⟨px.out.cell 0, px.out.cell 1, px.out.cell 2, px.out.cell 3, px.out.cell 4, px.out.cell 5⟩)
  by_cases q0 : now < 0
  · have q0d : decide (now < 0) = true := by simpa using q0
    have hF : Hid (validL ⟨now, delay, cut, count, lose, box.map Pk.val⟩ = 2) := validL_head _ (by unfold badHead; simp only; omega)
    go_enter Try.func10, Try.ntmps10
    go_wp2_with fail
    go_ret
    exact ⟨by rw [hF.out]; rfl, hb0.out⟩
  have q0d : decide (now < 0) = false := by simpa using q0
  by_cases q1 : 268435456 < now
  · have q1d : decide (268435456 < now) = true := by simpa using q1
    have hF : Hid (validL ⟨now, delay, cut, count, lose, box.map Pk.val⟩ = 2) := validL_head _ (by unfold badHead; simp only; omega)
    go_enter Try.func10, Try.ntmps10
    go_wp2_with fail
    go_ret
    exact ⟨by rw [hF.out]; rfl, hb0.out⟩
  have q1d : decide (268435456 < now) = false := by simpa using q1
  by_cases q2 : delay < 1
  · have q2d : decide (delay < 1) = true := by simpa using q2
    have hF : Hid (validL ⟨now, delay, cut, count, lose, box.map Pk.val⟩ = 2) := validL_head _ (by unfold badHead; simp only; omega)
    go_enter Try.func10, Try.ntmps10
    go_wp2_with fail
    go_ret
    exact ⟨by rw [hF.out]; rfl, hb0.out⟩
  have q2d : decide (delay < 1) = false := by simpa using q2
  by_cases q3 : 60 < delay
  · have q3d : decide (60 < delay) = true := by simpa using q3
    have hF : Hid (validL ⟨now, delay, cut, count, lose, box.map Pk.val⟩ = 2) := validL_head _ (by unfold badHead; simp only; omega)
    go_enter Try.func10, Try.ntmps10
    go_wp2_with fail
    go_ret
    exact ⟨by rw [hF.out]; rfl, hb0.out⟩
  have q3d : decide (60 < delay) = false := by simpa using q3
  by_cases q4 : count < 0
  · have q4d : decide (count < 0) = true := by simpa using q4
    have hF : Hid (validL ⟨now, delay, cut, count, lose, box.map Pk.val⟩ = 2) := validL_head _ (by unfold badHead; simp only; omega)
    go_enter Try.func10, Try.ntmps10
    go_wp2_with fail
    go_ret
    exact ⟨by rw [hF.out]; rfl, hb0.out⟩
  have q4d : decide (count < 0) = false := by simpa using q4
  by_cases q5 : 2147483647 < count
  · have q5d : decide (2147483647 < count) = true := by simpa using q5
    have hF : Hid (validL ⟨now, delay, cut, count, lose, box.map Pk.val⟩ = 2) := validL_head _ (by unfold badHead; simp only; omega)
    go_enter Try.func10, Try.ntmps10
    go_wp2_with fail
    go_ret
    exact ⟨by rw [hF.out]; rfl, hb0.out⟩
  have q5d : decide (2147483647 < count) = false := by simpa using q5
  have hnb : Hid (¬ badHead ⟨now, delay, cut, count, lose, box.map Pk.val⟩) := by show ¬ _; unfold badHead; simp only; omega
  have n1 : 0 ≤ now := by omega
  have n2 : now ≤ 268435456 := by omega
  have n3 : 1 ≤ delay := by omega
  have n4 : delay ≤ 60 := by omega
  by_cases hq : 256 < ln
  · have hqi : (256 : Int) < (ln : Int) := by omega
    have hF : Hid (validL ⟨now, delay, cut, count, lose, box.map Pk.val⟩ = 3) := validL_l3 _ hnb.out (by show 256 < lose.length; rw [hln.out]; exact hq)
    go_enter Try.func10, Try.ntmps10
    go_wp2_with fail
    go_ret
    exact ⟨by rw [hF.out]; rfl, hb0.out⟩
  have hqi : ¬ (256 : Int) < (ln : Int) := by omega
  have hl2 : Hid (¬ 256 < lose.length) := by show ¬ _; rw [hln.out]; exact hq
  go_enter Try.func10, Try.ntmps10
  go_wp2_with fail
  clear k0 k1 k2 k3 k4 k5
  go_loopw [3] (fun i wr => ∃ k : Nat, k ≤ ln ∧ i = .int .i64 k ∧ Hid (Blk wr w.heap.size 25 #[Value.int .i64 now, Value.int .i64 delay, Value.bool cut, Value.int .i64 count, Value.slice lA ln lc, Value.slice bA bn bc]) ∧ Hid (Below w.heap.size w wr) ∧ Hid (firstE (loseE lose) ln 0 = firstE (loseE lose) (ln - k) k)) (fun i _ => ln - (intOf i).toNat)
  case atStart => exact ⟨0, Nat.zero_le _, rfl, px.out, hb0.out, rfl⟩
  case round =>
    obtain ⟨k, hkn, rfl, hB, hb, hx⟩ := hrel
    by_cases hlt : k < ln
    · have hkl : k < lose.length := by have := hln.out; omega
      have hk0 : (0 : Int) ≤ k := by omega
      have hk1 : (k : Int) < ln := by omega
      have hst := Lib.hid (hx.out.trans (firstE_step (loseE lose) ln k hlt))
      obtain ⟨ad, hA, hbl, e0⟩ := i_cell (h.out.la.below hb.out (Nat.le_refl _)) hlt
      obtain ⟨k0, k1, k2, k3, k4, k5⟩ := (show wr.cell? ⟨w.heap.size, 0, none⟩ = some (Value.int .i64 now) ∧ wr.cell? ⟨w.heap.size, 1, none⟩ = some (Value.int .i64 delay) ∧ wr.cell? ⟨w.heap.size, 2, none⟩ = some (Value.bool cut) ∧ wr.cell? ⟨w.heap.size, 3, none⟩ = some (Value.int .i64 count) ∧ wr.cell? ⟨w.heap.size, 4, none⟩ = some (Value.slice lA ln lc) ∧ wr.cell? ⟨w.heap.size, 5, none⟩ = some (Value.slice bA bn bc) from ⟨hB.out.cell 0, hB.out.cell 1, hB.out.cell 2, hB.out.cell 3, hB.out.cell 4, hB.out.cell 5⟩)
      (try simp only at hA e0)
      rcases Nat.eq_zero_or_pos k with h0 | h0
      · have hE := Lib.hid (loseE_at lose k hkl 0 (by omega))
        generalize lose[k] = x at *
        have hd0 : decide ((0 : Int) < (k : Int)) = false := by simp; omega
        have hd1 : ¬ (0 : Int) < (k : Int) := by omega
        have hd3 : ¬ 0 < k := by omega
        have hd4 : decide (0 < k) = false := by simp; omega
        have hd2 : Hid (¬ (0 < k)) := by show ¬ _; omega
        replace h0 := Lib.hid h0
        subst hA
        by_cases q : x < 0
        · have qd : decide (x < 0) = true := by simpa using q
          have hF : Hid (validL ⟨now, delay, cut, count, lose, box.map Pk.val⟩ = 2) := validL_lose _ hnb.out hl2.out 2 (by show firstE (loseE lose) lose.length 0 = 2; rw [hln.out, hst.out, hE.out]; simp [q]) (by decide)
          go_wp2_with fail
          go_ret
          exact ⟨by rw [hF.out]; rfl, hb.out⟩
        · have qd : decide (x < 0) = false := by simpa using q
          have hF : Hid (firstE (loseE lose) ln 0 = firstE (loseE lose) (ln - (k + 1)) (k + 1)) := by show _ = _; rw [hst.out, hE.out]; simp [q, hd2.out]
          go_wp2_with fail
          go_quiet (fail)
          go_wp2_with fail
          go_roundw
          case rel => exact ⟨k + 1, by omega, by go_num, hB.out.drewN _, below_drewN hb.out _, hF.out⟩
          case measure => simp [intOf]; omega
      · have hm : Hid (k = k - 1 + 1) := by show _ = _; omega
        have hE := Lib.hid (loseE_at lose k hkl (k - 1) (fun _ => hm.out))
        have hml : k - 1 < lose.length := by omega
        have hm0 : (0 : Int) ≤ (k : Int) - 1 := by omega
        have hm1 : (k : Int) - 1 < (ln : Int) := by omega
        obtain ⟨ad', hA', -, e1⟩ := i_cell (h.out.la.below hb.out (Nat.le_refl _)) (show k - 1 < ln by omega)
        (try simp only at hA' e1)
        obtain rfl : ad = ad' := by rw [hA] at hA'; injection hA'
        rw [show lose.getD (k - 1) 0 = lose[k - 1] by simp [List.getD_eq_getElem?_getD, hml]] at hE
        generalize lose[k] = x at *
        generalize lose[k - 1] = y at *
        have hd0 : decide ((0 : Int) < (k : Int)) = true := by simp; omega
        have hd1 : (0 : Int) < (k : Int) := by omega
        have hd3 : 0 < k := by omega
        have hd4 : decide (0 < k) = true := by simp; omega
        replace h0 := Lib.hid h0
        subst hA
        by_cases q : x < 0
        · have qd : decide (x < 0) = true := by simpa using q
          have hF : Hid (validL ⟨now, delay, cut, count, lose, box.map Pk.val⟩ = 2) := validL_lose _ hnb.out hl2.out 2 (by show firstE (loseE lose) lose.length 0 = 2; rw [hln.out, hst.out, hE.out]; simp [q]) (by decide)
          go_wp2_with fail
          go_ret
          exact ⟨by rw [hF.out]; rfl, hb.out⟩
        · have qd : decide (x < 0) = false := by simpa using q
          by_cases q2 : x ≤ y
          · have q2d : decide (x ≤ y) = true := by simpa using q2
            have hF : Hid (validL ⟨now, delay, cut, count, lose, box.map Pk.val⟩ = 1) := validL_lose _ hnb.out hl2.out 1 (by show firstE (loseE lose) lose.length 0 = 1; rw [hln.out, hst.out, hE.out]; simp [q, q2, h0.out]) (by decide)
            go_wp2_with fail
            go_quiet (fail)
            go_wp2_with fail
            go_ret
            exact ⟨by rw [hF.out]; rfl, below_drewN hb.out _⟩
          · have q2d : decide (x ≤ y) = false := by simpa using q2
            have hF : Hid (firstE (loseE lose) ln 0 = firstE (loseE lose) (ln - (k + 1)) (k + 1)) := by show _ = _; rw [hst.out, hE.out]; simp [q, q2]
            go_wp2_with fail
            go_quiet (fail)
            go_wp2_with fail
            go_roundw
            case rel => exact ⟨k + 1, by omega, by go_num, hB.out.drewN _, below_drewN hb.out _, hF.out⟩
            case measure => simp [intOf]; omega
    · have hF0 : Hid (firstE (loseE lose) ln 0 = 0) := by show _ = _; rw [hx.out]; exact firstE_end _ _ _ hlt
      have hVB : Hid (validL ⟨now, delay, cut, count, lose, box.map Pk.val⟩ = boxV ⟨now, delay, cut, count, lose, box.map Pk.val⟩) := validL_box _ hnb.out hl2.out (by show firstE (loseE lose) lose.length 0 = 0; rw [hln.out]; exact hF0.out)
      obtain ⟨k0, k1, k2, k3, k4, k5⟩ := (show wr.cell? ⟨w.heap.size, 0, none⟩ = some (Value.int .i64 now) ∧ wr.cell? ⟨w.heap.size, 1, none⟩ = some (Value.int .i64 delay) ∧ wr.cell? ⟨w.heap.size, 2, none⟩ = some (Value.bool cut) ∧ wr.cell? ⟨w.heap.size, 3, none⟩ = some (Value.int .i64 count) ∧ wr.cell? ⟨w.heap.size, 4, none⟩ = some (Value.slice lA ln lc) ∧ wr.cell? ⟨w.heap.size, 5, none⟩ = some (Value.slice bA bn bc) from ⟨hB.out.cell 0, hB.out.cell 1, hB.out.cell 2, hB.out.cell 3, hB.out.cell 4, hB.out.cell 5⟩)
      have hc := Lib.hid (rbox_any ⟨now, delay, cut, count, lA, ln, lc, lose, bA, bn, bc, box⟩ wr (h.out.more hb.out) h1 h2 ⟨n1, n2, n3, n4⟩)
      simp only [lkV, Lk.val] at hc
      go_wp2_with fail
      refine hc.out.mono ?_; rintro e w2 ⟨rfl, hb2⟩
      go_wp2_with fail
      go_ret
      exact ⟨by rw [hVB.out]; rfl, hb.out.trans (hb2.mono hb.out.size)⟩
set_option maxRecDepth 100000 in
set_option maxHeartbeats 8000000 in
theorem valid_any (l : Lk) (w : World) (h : LkOk w l) (h1 : l.lose.length ≤ 1000) (h2 : l.box.length ≤ 1000) :
    Calls Try.prog 9 #[lkV l] w fun e w' => e = .returned (.int .i64 (validL l.val)) ∧ Below w.heap.size w w' := by
  have hln := Lib.hid h.la.len
  have hbn := Lib.hid h.ba.len
  obtain ⟨now, delay, cut, count, lA, ln, lc, lose, bA, bn, bc, box⟩ := l
  simp only [lkV, Lk.val] at *
  have hln1 : ln ≤ 1000 := by have := hln.out; omega
  have hbn1 : bn ≤ 1000 := by have := hbn.out; omega
  replace h := Lib.hid h
  have px := Lib.hid (Blk.new w 25 #[Value.int .i64 now, Value.int .i64 delay, Value.bool cut, Value.int .i64 count, Value.slice lA ln lc, Value.slice bA bn bc])
  have hb0 := Lib.hid (a1 w (.cells #[Value.int .i64 now, Value.int .i64 delay, Value.bool cut, Value.int .i64 count, Value.slice lA ln lc, Value.slice bA bn bc] 25))
  obtain ⟨k0, k1, k2, k3, k4, k5⟩ := (show (w.alloc (.cells #[Value.int .i64 now, Value.int .i64 delay, Value.bool cut, Value.int .i64 count, Value.slice lA ln lc, Value.slice bA bn bc] 25)).cell? ⟨w.heap.size, 0, none⟩ = some (Value.int .i64 now) ∧ (w.alloc (.cells #[Value.int .i64 now, Value.int .i64 delay, Value.bool cut, Value.int .i64 count, Value.slice lA ln lc, Value.slice bA bn bc] 25)).cell? ⟨w.heap.size, 1, none⟩ = some (Value.int .i64 delay) ∧ (w.alloc (.cells #[Value.int .i64 now, Value.int .i64 delay, Value.bool cut, Value.int .i64 count, Value.slice lA ln lc, Value.slice bA bn bc] 25)).cell? ⟨w.heap.size, 2, none⟩ = some (Value.bool cut) ∧ (w.alloc (.cells #[Value.int .i64 now, Value.int .i64 delay, Value.bool cut, Value.int .i64 count, Value.slice lA ln lc, Value.slice bA bn bc] 25)).cell? ⟨w.heap.size, 3, none⟩ = some (Value.int .i64 count) ∧ (w.alloc (.cells #[Value.int .i64 now, Value.int .i64 delay, Value.bool cut, Value.int .i64 count, Value.slice lA ln lc, Value.slice bA bn bc] 25)).cell? ⟨w.heap.size, 4, none⟩ = some (Value.slice lA ln lc) ∧ (w.alloc (.cells #[Value.int .i64 now, Value.int .i64 delay, Value.bool cut, Value.int .i64 count, Value.slice lA ln lc, Value.slice bA bn bc] 25)).cell? ⟨w.heap.size, 5, none⟩ = some (Value.slice bA bn bc) from ⟨px.out.cell 0, px.out.cell 1, px.out.cell 2, px.out.cell 3, px.out.cell 4, px.out.cell 5⟩)
  by_cases q0 : now < 0
  · have q0d : decide (now < 0) = true := by simpa using q0
    have hF : Hid (validL ⟨now, delay, cut, count, lose, box.map Pk.val⟩ = 2) := validL_head _ (by unfold badHead; simp only; omega)
    go_enter Try.func9, Try.ntmps9
    go_wp2_with fail
    go_ret
    exact ⟨by rw [hF.out]; rfl, hb0.out⟩
  have q0d : decide (now < 0) = false := by simpa using q0
  by_cases q1 : 268435456 < now
  · have q1d : decide (268435456 < now) = true := by simpa using q1
    have hF : Hid (validL ⟨now, delay, cut, count, lose, box.map Pk.val⟩ = 2) := validL_head _ (by unfold badHead; simp only; omega)
    go_enter Try.func9, Try.ntmps9
    go_wp2_with fail
    go_ret
    exact ⟨by rw [hF.out]; rfl, hb0.out⟩
  have q1d : decide (268435456 < now) = false := by simpa using q1
  by_cases q2 : delay < 1
  · have q2d : decide (delay < 1) = true := by simpa using q2
    have hF : Hid (validL ⟨now, delay, cut, count, lose, box.map Pk.val⟩ = 2) := validL_head _ (by unfold badHead; simp only; omega)
    go_enter Try.func9, Try.ntmps9
    go_wp2_with fail
    go_ret
    exact ⟨by rw [hF.out]; rfl, hb0.out⟩
  have q2d : decide (delay < 1) = false := by simpa using q2
  by_cases q3 : 60 < delay
  · have q3d : decide (60 < delay) = true := by simpa using q3
    have hF : Hid (validL ⟨now, delay, cut, count, lose, box.map Pk.val⟩ = 2) := validL_head _ (by unfold badHead; simp only; omega)
    go_enter Try.func9, Try.ntmps9
    go_wp2_with fail
    go_ret
    exact ⟨by rw [hF.out]; rfl, hb0.out⟩
  have q3d : decide (60 < delay) = false := by simpa using q3
  by_cases q4 : count < 0
  · have q4d : decide (count < 0) = true := by simpa using q4
    have hF : Hid (validL ⟨now, delay, cut, count, lose, box.map Pk.val⟩ = 2) := validL_head _ (by unfold badHead; simp only; omega)
    go_enter Try.func9, Try.ntmps9
    go_wp2_with fail
    go_ret
    exact ⟨by rw [hF.out]; rfl, hb0.out⟩
  have q4d : decide (count < 0) = false := by simpa using q4
  by_cases q5 : 2147483647 < count
  · have q5d : decide (2147483647 < count) = true := by simpa using q5
    have hF : Hid (validL ⟨now, delay, cut, count, lose, box.map Pk.val⟩ = 2) := validL_head _ (by unfold badHead; simp only; omega)
    go_enter Try.func9, Try.ntmps9
    go_wp2_with fail
    go_ret
    exact ⟨by rw [hF.out]; rfl, hb0.out⟩
  have q5d : decide (2147483647 < count) = false := by simpa using q5
  have hnb : Hid (¬ badHead ⟨now, delay, cut, count, lose, box.map Pk.val⟩) := by show ¬ _; unfold badHead; simp only; omega
  have n1 : 0 ≤ now := by omega
  have n2 : now ≤ 268435456 := by omega
  have n3 : 1 ≤ delay := by omega
  have n4 : delay ≤ 60 := by omega
  by_cases hq : 256 < ln
  · have hqi : (256 : Int) < (ln : Int) := by omega
    have hF : Hid (validL ⟨now, delay, cut, count, lose, box.map Pk.val⟩ = 3) := validL_l3 _ hnb.out (by show 256 < lose.length; rw [hln.out]; exact hq)
    go_enter Try.func9, Try.ntmps9
    go_wp2_with fail
    go_ret
    exact ⟨by rw [hF.out]; rfl, hb0.out⟩
  have hqi : ¬ (256 : Int) < (ln : Int) := by omega
  have hl2 : Hid (¬ 256 < lose.length) := by show ¬ _; rw [hln.out]; exact hq
  go_enter Try.func9, Try.ntmps9
  go_wp2_with fail
  clear k0 k1 k2 k3 k4 k5
  go_loopw [40] (fun i wr => ∃ k : Nat, k ≤ ln ∧ i = .int .i64 k ∧ Hid (Blk wr w.heap.size 25 #[Value.int .i64 now, Value.int .i64 delay, Value.bool cut, Value.int .i64 count, Value.slice lA ln lc, Value.slice bA bn bc]) ∧ Hid (Below w.heap.size w wr) ∧ Hid (firstE (loseE lose) ln 0 = firstE (loseE lose) (ln - k) k)) (fun i _ => ln - (intOf i).toNat)
  case atStart => exact ⟨0, Nat.zero_le _, rfl, px.out, hb0.out, rfl⟩
  case round =>
    obtain ⟨k, hkn, rfl, hB, hb, hx⟩ := hrel
    by_cases hlt : k < ln
    · have hkl : k < lose.length := by have := hln.out; omega
      have hk0 : (0 : Int) ≤ k := by omega
      have hk1 : (k : Int) < ln := by omega
      have hst := Lib.hid (hx.out.trans (firstE_step (loseE lose) ln k hlt))
      obtain ⟨ad, hA, hbl, e0⟩ := i_cell (h.out.la.below hb.out (Nat.le_refl _)) hlt
      obtain ⟨k0, k1, k2, k3, k4, k5⟩ := (show wr.cell? ⟨w.heap.size, 0, none⟩ = some (Value.int .i64 now) ∧ wr.cell? ⟨w.heap.size, 1, none⟩ = some (Value.int .i64 delay) ∧ wr.cell? ⟨w.heap.size, 2, none⟩ = some (Value.bool cut) ∧ wr.cell? ⟨w.heap.size, 3, none⟩ = some (Value.int .i64 count) ∧ wr.cell? ⟨w.heap.size, 4, none⟩ = some (Value.slice lA ln lc) ∧ wr.cell? ⟨w.heap.size, 5, none⟩ = some (Value.slice bA bn bc) from ⟨hB.out.cell 0, hB.out.cell 1, hB.out.cell 2, hB.out.cell 3, hB.out.cell 4, hB.out.cell 5⟩)
      (try simp only at hA e0)
      rcases Nat.eq_zero_or_pos k with h0 | h0
      · have hE := Lib.hid (loseE_at lose k hkl 0 (by omega))
        generalize lose[k] = x at *
        have hd0 : decide ((0 : Int) < (k : Int)) = false := by simp; omega
        have hd1 : ¬ (0 : Int) < (k : Int) := by omega
        have hd3 : ¬ 0 < k := by omega
        have hd4 : decide (0 < k) = false := by simp; omega
        have hd2 : Hid (¬ (0 < k)) := by show ¬ _; omega
        replace h0 := Lib.hid h0
        subst hA
        by_cases q : x < 0
        · have qd : decide (x < 0) = true := by simpa using q
          have hF : Hid (validL ⟨now, delay, cut, count, lose, box.map Pk.val⟩ = 2) := validL_lose _ hnb.out hl2.out 2 (by show firstE (loseE lose) lose.length 0 = 2; rw [hln.out, hst.out, hE.out]; simp [q]) (by decide)
          go_wp2_with fail
          go_ret
          exact ⟨by rw [hF.out]; rfl, hb.out⟩
        · have qd : decide (x < 0) = false := by simpa using q
          have hF : Hid (firstE (loseE lose) ln 0 = firstE (loseE lose) (ln - (k + 1)) (k + 1)) := by show _ = _; rw [hst.out, hE.out]; simp [q, hd2.out]
          go_wp2_with fail

          go_roundw
          case rel => exact ⟨k + 1, by omega, by go_num, hB.out, hb.out, hF.out⟩
          case measure => simp [intOf]; omega
      · have hm : Hid (k = k - 1 + 1) := by show _ = _; omega
        have hE := Lib.hid (loseE_at lose k hkl (k - 1) (fun _ => hm.out))
        have hml : k - 1 < lose.length := by omega
        have hm0 : (0 : Int) ≤ (k : Int) - 1 := by omega
        have hm1 : (k : Int) - 1 < (ln : Int) := by omega
        obtain ⟨ad', hA', -, e1⟩ := i_cell (h.out.la.below hb.out (Nat.le_refl _)) (show k - 1 < ln by omega)
        (try simp only at hA' e1)
        obtain rfl : ad = ad' := by rw [hA] at hA'; injection hA'
        rw [show lose.getD (k - 1) 0 = lose[k - 1] by simp [List.getD_eq_getElem?_getD, hml]] at hE
        generalize lose[k] = x at *
        generalize lose[k - 1] = y at *
        have hd0 : decide ((0 : Int) < (k : Int)) = true := by simp; omega
        have hd1 : (0 : Int) < (k : Int) := by omega
        have hd3 : 0 < k := by omega
        have hd4 : decide (0 < k) = true := by simp; omega
        replace h0 := Lib.hid h0
        subst hA
        by_cases q : x < 0
        · have qd : decide (x < 0) = true := by simpa using q
          have hF : Hid (validL ⟨now, delay, cut, count, lose, box.map Pk.val⟩ = 2) := validL_lose _ hnb.out hl2.out 2 (by show firstE (loseE lose) lose.length 0 = 2; rw [hln.out, hst.out, hE.out]; simp [q]) (by decide)
          go_wp2_with fail
          go_ret
          exact ⟨by rw [hF.out]; rfl, hb.out⟩
        · have qd : decide (x < 0) = false := by simpa using q
          by_cases q2 : x ≤ y
          · have q2d : decide (x ≤ y) = true := by simpa using q2
            have hF : Hid (validL ⟨now, delay, cut, count, lose, box.map Pk.val⟩ = 1) := validL_lose _ hnb.out hl2.out 1 (by show firstE (loseE lose) lose.length 0 = 1; rw [hln.out, hst.out, hE.out]; simp [q, q2, h0.out]) (by decide)
            go_wp2_with fail

            go_ret
            exact ⟨by rw [hF.out]; rfl, hb.out⟩
          · have q2d : decide (x ≤ y) = false := by simpa using q2
            have hF : Hid (firstE (loseE lose) ln 0 = firstE (loseE lose) (ln - (k + 1)) (k + 1)) := by show _ = _; rw [hst.out, hE.out]; simp [q, q2]
            go_wp2_with fail

            go_roundw
            case rel => exact ⟨k + 1, by omega, by go_num, hB.out, hb.out, hF.out⟩
            case measure => simp [intOf]; omega
    · have hF0 : Hid (firstE (loseE lose) ln 0 = 0) := by show _ = _; rw [hx.out]; exact firstE_end _ _ _ hlt
      have hVB : Hid (validL ⟨now, delay, cut, count, lose, box.map Pk.val⟩ = boxV ⟨now, delay, cut, count, lose, box.map Pk.val⟩) := validL_box _ hnb.out hl2.out (by show firstE (loseE lose) lose.length 0 = 0; rw [hln.out]; exact hF0.out)
      obtain ⟨k0, k1, k2, k3, k4, k5⟩ := (show wr.cell? ⟨w.heap.size, 0, none⟩ = some (Value.int .i64 now) ∧ wr.cell? ⟨w.heap.size, 1, none⟩ = some (Value.int .i64 delay) ∧ wr.cell? ⟨w.heap.size, 2, none⟩ = some (Value.bool cut) ∧ wr.cell? ⟨w.heap.size, 3, none⟩ = some (Value.int .i64 count) ∧ wr.cell? ⟨w.heap.size, 4, none⟩ = some (Value.slice lA ln lc) ∧ wr.cell? ⟨w.heap.size, 5, none⟩ = some (Value.slice bA bn bc) from ⟨hB.out.cell 0, hB.out.cell 1, hB.out.cell 2, hB.out.cell 3, hB.out.cell 4, hB.out.cell 5⟩)
      clear hx
      by_cases hq2 : 256 < bn
      · have hq2i : (256 : Int) < (bn : Int) := by omega
        have hF : Hid (validL ⟨now, delay, cut, count, lose, box.map Pk.val⟩ = 3) := hVB.out.trans (boxV_3 _ (by show 256 < (box.map Pk.val).length; rw [List.length_map, hbn.out]; exact hq2))
        go_wp2_with fail
        go_ret
        exact ⟨by rw [hF.out]; rfl, hb.out⟩
      have hq2i : ¬ (256 : Int) < (bn : Int) := by omega
      have hfin : Hid (validL ⟨now, delay, cut, count, lose, box.map Pk.val⟩ = firstE (boxE ⟨now, delay, cut, count, lose, box.map Pk.val⟩) (box.map Pk.val).length 0) := hVB.out.trans (boxV_f _ (by show ¬ 256 < (box.map Pk.val).length; rw [List.length_map, hbn.out]; exact hq2))
      go_wp2_with fail
      clear k0 k1 k2 k3 k4 k5
      go_loopw [67] (fun i wr => ∃ k : Nat, k ≤ bn ∧ i = .int .i64 k ∧ Hid (Blk wr w.heap.size 25 #[Value.int .i64 now, Value.int .i64 delay, Value.bool cut, Value.int .i64 count, Value.slice lA ln lc, Value.slice bA bn bc]) ∧ Hid (Below w.heap.size w wr) ∧ Hid (firstE (boxE ⟨now, delay, cut, count, lose, box.map Pk.val⟩) bn 0 = firstE (boxE ⟨now, delay, cut, count, lose, box.map Pk.val⟩) (bn - k) k)) (fun i _ => bn - (intOf i).toNat)
      case atStart => exact ⟨0, Nat.zero_le _, rfl, hB.out, hb.out, rfl⟩
      case round =>
        obtain ⟨k, hkn, rfl, hB, hb, hx⟩ := hrel
        by_cases hlt : k < bn
        · have hkl : k < box.length := by have := hbn.out; omega
          have hk0 : (0 : Int) ≤ k := by omega
          have hk1 : (k : Int) < bn := by omega
          have hst := Lib.hid (hx.out.trans (firstE_step (boxE ⟨now, delay, cut, count, lose, box.map Pk.val⟩) bn k hlt))
          obtain ⟨ad, hA, hbl, e0, e1⟩ := pk_cells (h.out.ba.below hb.out (Nat.le_refl _)) hlt
          (try simp only at hA e0 e1)
          rcases Nat.eq_zero_or_pos k with h0 | h0
          · have hE := Lib.hid (boxE_at now delay count cut lose box k hkl 0 (by omega))
            have hd0 : decide ((0 : Int) < (k : Int)) = false := by simp; omega
            have hd1 : ¬ (0 : Int) < (k : Int) := by omega
            have hd3 : ¬ 0 < k := by omega
            have hd4 : decide (0 < k) = false := by simp; omega
            have hd2 : Hid (¬ (0 < k)) := by show ¬ _; omega
            replace h0 := Lib.hid h0
            obtain ⟨u0, u1, u2, u3, u4, u5⟩ := (show wr.cell? ⟨w.heap.size, 0, none⟩ = some (Value.int .i64 now) ∧ wr.cell? ⟨w.heap.size, 1, none⟩ = some (Value.int .i64 delay) ∧ wr.cell? ⟨w.heap.size, 2, none⟩ = some (Value.bool cut) ∧ wr.cell? ⟨w.heap.size, 3, none⟩ = some (Value.int .i64 count) ∧ wr.cell? ⟨w.heap.size, 4, none⟩ = some (Value.slice lA ln lc) ∧ wr.cell? ⟨w.heap.size, 5, none⟩ = some (Value.slice bA bn bc) from ⟨hB.out.cell 0, hB.out.cell 1, hB.out.cell 2, hB.out.cell 3, hB.out.cell 4, hB.out.cell 5⟩)
            have hbdk := Lib.hid (h.out.bd _ (List.getElem_mem hkl))
            (try simp only at hbdk)
            generalize box[k] = p at *
            obtain ⟨due, pA, pn, pc, pd⟩ := p
            obtain rfl : pd.length = pn := hbdk.out.1.1.len
            (try simp only at e0 e1 hE)
            subst hA
            have hP := Lib.hid (Blk.new wr 29 #[Value.int .i64 due, Value.slice pA pd.length pc])
            have hB2 : Hid (Blk (wr.alloc (.cells #[Value.int .i64 due, Value.slice pA pd.length pc] 29)) w.heap.size 25 #[Value.int .i64 now, Value.int .i64 delay, Value.bool cut, Value.int .i64 count, Value.slice lA ln lc, Value.slice (some ad) bn bc]) := hB.out.alloc _
            have hb2 : Hid (Below w.heap.size w (wr.alloc (.cells #[Value.int .i64 due, Value.slice pA pd.length pc] 29))) := hb.out.alloc hb.out.size _
            obtain ⟨k0, k1, k2, k3, k4, k5⟩ := (show (wr.alloc (.cells #[Value.int .i64 due, Value.slice pA pd.length pc] 29)).cell? ⟨w.heap.size, 0, none⟩ = some (Value.int .i64 now) ∧ (wr.alloc (.cells #[Value.int .i64 due, Value.slice pA pd.length pc] 29)).cell? ⟨w.heap.size, 1, none⟩ = some (Value.int .i64 delay) ∧ (wr.alloc (.cells #[Value.int .i64 due, Value.slice pA pd.length pc] 29)).cell? ⟨w.heap.size, 2, none⟩ = some (Value.bool cut) ∧ (wr.alloc (.cells #[Value.int .i64 due, Value.slice pA pd.length pc] 29)).cell? ⟨w.heap.size, 3, none⟩ = some (Value.int .i64 count) ∧ (wr.alloc (.cells #[Value.int .i64 due, Value.slice pA pd.length pc] 29)).cell? ⟨w.heap.size, 4, none⟩ = some (Value.slice lA ln lc) ∧ (wr.alloc (.cells #[Value.int .i64 due, Value.slice pA pd.length pc] 29)).cell? ⟨w.heap.size, 5, none⟩ = some (Value.slice (some ad) bn bc) from ⟨hB2.out.cell 0, hB2.out.cell 1, hB2.out.cell 2, hB2.out.cell 3, hB2.out.cell 4, hB2.out.cell 5⟩)
            obtain ⟨p0, p1⟩ := (show (wr.alloc (.cells #[Value.int .i64 due, Value.slice pA pd.length pc] 29)).cell? ⟨wr.heap.size, 0, none⟩ = some (Value.int .i64 due) ∧ (wr.alloc (.cells #[Value.int .i64 due, Value.slice pA pd.length pc] 29)).cell? ⟨wr.heap.size, 1, none⟩ = some (Value.slice pA pd.length pc) from ⟨hP.out.cell 0, hP.out.cell 1⟩)

            by_cases q1 : due ≤ now
            · have q1d : decide (due ≤ now) = true := by simpa using q1
              have q1h := Lib.hid q1
              have hF : Hid (validL ⟨now, delay, cut, count, lose, box.map Pk.val⟩ = 2) := by
                show _ = _
                rw [hfin.out]
                show firstE (boxE ⟨now, delay, cut, count, lose, box.map Pk.val⟩) (box.map Pk.val).length 0 = 2
                rw [List.length_map, hbn.out, hst.out, hE.out]
                simp [q1]
              go_wp2_with fail
              go_ret
              exact ⟨by rw [hF.out]; rfl, hb2.out⟩
            · have q1d : decide (due ≤ now) = false := by simpa using q1
              have q1h := Lib.hid q1
              by_cases q2 : now + delay < due
              · have q2d : decide (now + delay < due) = true := by simpa using q2
                have q2h := Lib.hid q2
                have hF : Hid (validL ⟨now, delay, cut, count, lose, box.map Pk.val⟩ = 2) := by
                  show _ = _
                  rw [hfin.out]
                  show firstE (boxE ⟨now, delay, cut, count, lose, box.map Pk.val⟩) (box.map Pk.val).length 0 = 2
                  rw [List.length_map, hbn.out, hst.out, hE.out]
                  simp [q1, q2]
                go_wp2_with fail
                go_ret
                exact ⟨by rw [hF.out]; rfl, hb2.out⟩
              · have q2d : decide (now + delay < due) = false := by simpa using q2
                have q2h := Lib.hid q2
                go_wp2_with fail
                go_quiet (fail)
                have hB3 : Hid (Blk ((wr.alloc (.cells #[Value.int .i64 due, Value.slice pA pd.length pc] 29)).drewN nq) w.heap.size 25 #[Value.int .i64 now, Value.int .i64 delay, Value.bool cut, Value.int .i64 count, Value.slice lA ln lc, Value.slice (some ad) bn bc]) := hB2.out
                obtain ⟨p0, p1⟩ := (show ((wr.alloc (.cells #[Value.int .i64 due, Value.slice pA pd.length pc] 29)).drewN nq).cell? ⟨wr.heap.size, 0, none⟩ = some (Value.int .i64 due) ∧ ((wr.alloc (.cells #[Value.int .i64 due, Value.slice pA pd.length pc] 29)).drewN nq).cell? ⟨wr.heap.size, 1, none⟩ = some (Value.slice pA pd.length pc) from ⟨hP.out.cell 0, hP.out.cell 1⟩)
                by_cases q4 : 8198 < pd.length
                · have q4i : (8198 : Int) < (pd.length : Int) := by omega
                  have q4d : decide ((8198 : Int) < (pd.length : Int)) = true := by simpa using q4i
                  have hF : Hid (validL ⟨now, delay, cut, count, lose, box.map Pk.val⟩ = 3) := by
                    show _ = _
                    rw [hfin.out]
                    show firstE (boxE ⟨now, delay, cut, count, lose, box.map Pk.val⟩) (box.map Pk.val).length 0 = 3
                    rw [List.length_map, hbn.out, hst.out, hE.out, if_neg (show ¬ (due ≤ now ∨ now + delay < due) by have := q1h.out; have := q2h.out; omega), if_neg (show ¬ (0 < k ∧ due < (box.getD 0 ⟨0, none, 0, 0, []⟩).due) by have := hd2.out; omega)]
                    simp [q4]
                  go_wp2_with fail
                  go_ret
                  exact ⟨by rw [hF.out]; rfl, below_drewN hb2.out _⟩
                · have q4i : ¬ (8198 : Int) < (pd.length : Int) := by omega
                  have q4d : decide ((8198 : Int) < (pd.length : Int)) = false := by simpa using q4i
                  have hF : Hid (firstE (boxE ⟨now, delay, cut, count, lose, box.map Pk.val⟩) bn 0 = firstE (boxE ⟨now, delay, cut, count, lose, box.map Pk.val⟩) (bn - (k + 1)) (k + 1)) := by show _ = _; rw [hst.out, hE.out, if_neg (show ¬ (due ≤ now ∨ now + delay < due) by have := q1h.out; have := q2h.out; omega), if_neg (show ¬ (0 < k ∧ due < (box.getD 0 ⟨0, none, 0, 0, []⟩).due) by have := hd2.out; omega)]; simp [q4]
                  go_wp2_with fail
                  go_roundw
                  case rel => exact ⟨k + 1, by omega, by go_num, hB3.out, below_drewN hb2.out _, hF.out⟩
                  case measure => simp [intOf]; omega
          · have hm : Hid (k = k - 1 + 1) := by show _ = _; omega
            have hE := Lib.hid (boxE_at now delay count cut lose box k hkl (k - 1) (fun _ => hm.out))
            have hml : k - 1 < box.length := by omega
            have hm0 : (0 : Int) ≤ (k : Int) - 1 := by omega
            have hm1 : (k : Int) - 1 < (bn : Int) := by omega
            obtain ⟨ad', hA', -, d0, -⟩ := pk_cells (h.out.ba.below hb.out (Nat.le_refl _)) (show k - 1 < bn by omega)
            (try simp only at hA' d0)
            obtain rfl : ad = ad' := by rw [hA] at hA'; injection hA'
            rw [show box.getD (k - 1) ⟨0, none, 0, 0, []⟩ = box[k - 1] by simp [List.getD_eq_getElem?_getD, hml]] at hE
            generalize box[k - 1].due = dm at *
            have hd0 : decide ((0 : Int) < (k : Int)) = true := by simp; omega
            have hd1 : (0 : Int) < (k : Int) := by omega
            have hd3 : 0 < k := by omega
            have hd4 : decide (0 < k) = true := by simp; omega
            replace h0 := Lib.hid h0
            obtain ⟨u0, u1, u2, u3, u4, u5⟩ := (show wr.cell? ⟨w.heap.size, 0, none⟩ = some (Value.int .i64 now) ∧ wr.cell? ⟨w.heap.size, 1, none⟩ = some (Value.int .i64 delay) ∧ wr.cell? ⟨w.heap.size, 2, none⟩ = some (Value.bool cut) ∧ wr.cell? ⟨w.heap.size, 3, none⟩ = some (Value.int .i64 count) ∧ wr.cell? ⟨w.heap.size, 4, none⟩ = some (Value.slice lA ln lc) ∧ wr.cell? ⟨w.heap.size, 5, none⟩ = some (Value.slice bA bn bc) from ⟨hB.out.cell 0, hB.out.cell 1, hB.out.cell 2, hB.out.cell 3, hB.out.cell 4, hB.out.cell 5⟩)
            have hbdk := Lib.hid (h.out.bd _ (List.getElem_mem hkl))
            (try simp only at hbdk)
            generalize box[k] = p at *
            obtain ⟨due, pA, pn, pc, pd⟩ := p
            obtain rfl : pd.length = pn := hbdk.out.1.1.len
            (try simp only at e0 e1 hE)
            subst hA
            have hP := Lib.hid (Blk.new wr 29 #[Value.int .i64 due, Value.slice pA pd.length pc])
            have hB2 : Hid (Blk (wr.alloc (.cells #[Value.int .i64 due, Value.slice pA pd.length pc] 29)) w.heap.size 25 #[Value.int .i64 now, Value.int .i64 delay, Value.bool cut, Value.int .i64 count, Value.slice lA ln lc, Value.slice (some ad) bn bc]) := hB.out.alloc _
            have hb2 : Hid (Below w.heap.size w (wr.alloc (.cells #[Value.int .i64 due, Value.slice pA pd.length pc] 29))) := hb.out.alloc hb.out.size _
            obtain ⟨k0, k1, k2, k3, k4, k5⟩ := (show (wr.alloc (.cells #[Value.int .i64 due, Value.slice pA pd.length pc] 29)).cell? ⟨w.heap.size, 0, none⟩ = some (Value.int .i64 now) ∧ (wr.alloc (.cells #[Value.int .i64 due, Value.slice pA pd.length pc] 29)).cell? ⟨w.heap.size, 1, none⟩ = some (Value.int .i64 delay) ∧ (wr.alloc (.cells #[Value.int .i64 due, Value.slice pA pd.length pc] 29)).cell? ⟨w.heap.size, 2, none⟩ = some (Value.bool cut) ∧ (wr.alloc (.cells #[Value.int .i64 due, Value.slice pA pd.length pc] 29)).cell? ⟨w.heap.size, 3, none⟩ = some (Value.int .i64 count) ∧ (wr.alloc (.cells #[Value.int .i64 due, Value.slice pA pd.length pc] 29)).cell? ⟨w.heap.size, 4, none⟩ = some (Value.slice lA ln lc) ∧ (wr.alloc (.cells #[Value.int .i64 due, Value.slice pA pd.length pc] 29)).cell? ⟨w.heap.size, 5, none⟩ = some (Value.slice (some ad) bn bc) from ⟨hB2.out.cell 0, hB2.out.cell 1, hB2.out.cell 2, hB2.out.cell 3, hB2.out.cell 4, hB2.out.cell 5⟩)
            obtain ⟨p0, p1⟩ := (show (wr.alloc (.cells #[Value.int .i64 due, Value.slice pA pd.length pc] 29)).cell? ⟨wr.heap.size, 0, none⟩ = some (Value.int .i64 due) ∧ (wr.alloc (.cells #[Value.int .i64 due, Value.slice pA pd.length pc] 29)).cell? ⟨wr.heap.size, 1, none⟩ = some (Value.slice pA pd.length pc) from ⟨hP.out.cell 0, hP.out.cell 1⟩)
            have d0 := cell_alloc d0 (.cells #[Value.int .i64 due, Value.slice pA pd.length pc] 29)
            by_cases q1 : due ≤ now
            · have q1d : decide (due ≤ now) = true := by simpa using q1
              have q1h := Lib.hid q1
              have hF : Hid (validL ⟨now, delay, cut, count, lose, box.map Pk.val⟩ = 2) := by
                show _ = _
                rw [hfin.out]
                show firstE (boxE ⟨now, delay, cut, count, lose, box.map Pk.val⟩) (box.map Pk.val).length 0 = 2
                rw [List.length_map, hbn.out, hst.out, hE.out]
                simp [q1]
              go_wp2_with fail
              go_ret
              exact ⟨by rw [hF.out]; rfl, hb2.out⟩
            · have q1d : decide (due ≤ now) = false := by simpa using q1
              have q1h := Lib.hid q1
              by_cases q2 : now + delay < due
              · have q2d : decide (now + delay < due) = true := by simpa using q2
                have q2h := Lib.hid q2
                have hF : Hid (validL ⟨now, delay, cut, count, lose, box.map Pk.val⟩ = 2) := by
                  show _ = _
                  rw [hfin.out]
                  show firstE (boxE ⟨now, delay, cut, count, lose, box.map Pk.val⟩) (box.map Pk.val).length 0 = 2
                  rw [List.length_map, hbn.out, hst.out, hE.out]
                  simp [q1, q2]
                go_wp2_with fail
                go_ret
                exact ⟨by rw [hF.out]; rfl, hb2.out⟩
              · have q2d : decide (now + delay < due) = false := by simpa using q2
                have q2h := Lib.hid q2
                by_cases q3 : due < dm
                · have q3d : decide (due < dm) = true := by simpa using q3
                  have q3h := Lib.hid q3
                  have hF : Hid (validL ⟨now, delay, cut, count, lose, box.map Pk.val⟩ = 1) := by
                    show _ = _
                    rw [hfin.out]
                    show firstE (boxE ⟨now, delay, cut, count, lose, box.map Pk.val⟩) (box.map Pk.val).length 0 = 1
                    rw [List.length_map, hbn.out, hst.out, hE.out]
                    simp [q1h.out, q2h.out, h0.out, q3h.out]
                  go_wp2_with fail
                  go_quiet (fail)
                  go_wp2_with fail
                  go_ret
                  exact ⟨by rw [hF.out]; rfl, below_drewN hb2.out _⟩
                · have q3d : decide (due < dm) = false := by simpa using q3
                  have q3h := Lib.hid q3
                  go_wp2_with fail
                  go_quiet (fail)
                  have hB3 : Hid (Blk ((wr.alloc (.cells #[Value.int .i64 due, Value.slice pA pd.length pc] 29)).drewN nq) w.heap.size 25 #[Value.int .i64 now, Value.int .i64 delay, Value.bool cut, Value.int .i64 count, Value.slice lA ln lc, Value.slice (some ad) bn bc]) := hB2.out
                  obtain ⟨p0, p1⟩ := (show ((wr.alloc (.cells #[Value.int .i64 due, Value.slice pA pd.length pc] 29)).drewN nq).cell? ⟨wr.heap.size, 0, none⟩ = some (Value.int .i64 due) ∧ ((wr.alloc (.cells #[Value.int .i64 due, Value.slice pA pd.length pc] 29)).drewN nq).cell? ⟨wr.heap.size, 1, none⟩ = some (Value.slice pA pd.length pc) from ⟨hP.out.cell 0, hP.out.cell 1⟩)
                  by_cases q4 : 8198 < pd.length
                  · have q4i : (8198 : Int) < (pd.length : Int) := by omega
                    have q4d : decide ((8198 : Int) < (pd.length : Int)) = true := by simpa using q4i
                    have hF : Hid (validL ⟨now, delay, cut, count, lose, box.map Pk.val⟩ = 3) := by
                      show _ = _
                      rw [hfin.out]
                      show firstE (boxE ⟨now, delay, cut, count, lose, box.map Pk.val⟩) (box.map Pk.val).length 0 = 3
                      rw [List.length_map, hbn.out, hst.out, hE.out, if_neg (show ¬ (due ≤ now ∨ now + delay < due) by have := q1h.out; have := q2h.out; omega), if_neg (show ¬ (0 < k ∧ due < dm) by have := q3h.out; omega)]
                      simp [q4]
                    go_wp2_with fail
                    go_ret
                    exact ⟨by rw [hF.out]; rfl, below_drewN hb2.out _⟩
                  · have q4i : ¬ (8198 : Int) < (pd.length : Int) := by omega
                    have q4d : decide ((8198 : Int) < (pd.length : Int)) = false := by simpa using q4i
                    have hF : Hid (firstE (boxE ⟨now, delay, cut, count, lose, box.map Pk.val⟩) bn 0 = firstE (boxE ⟨now, delay, cut, count, lose, box.map Pk.val⟩) (bn - (k + 1)) (k + 1)) := by show _ = _; rw [hst.out, hE.out, if_neg (show ¬ (due ≤ now ∨ now + delay < due) by have := q1h.out; have := q2h.out; omega), if_neg (show ¬ (0 < k ∧ due < dm) by have := q3h.out; omega)]; simp [q4]
                    go_wp2_with fail
                    go_roundw
                    case rel => exact ⟨k + 1, by omega, by go_num, hB3.out, below_drewN hb2.out _, hF.out⟩
                    case measure => simp [intOf]; omega
        · have hF0 : Hid (firstE (boxE ⟨now, delay, cut, count, lose, box.map Pk.val⟩) bn 0 = 0) := by show _ = _; rw [hx.out]; exact firstE_end _ _ _ hlt
          have hF : Hid (validL ⟨now, delay, cut, count, lose, box.map Pk.val⟩ = 0) := by
            show _ = _
            rw [hfin.out]
            show firstE (boxE ⟨now, delay, cut, count, lose, box.map Pk.val⟩) (box.map Pk.val).length 0 = 0
            rw [List.length_map, hbn.out]; exact hF0.out
          go_wp2_with fail
          go_ret
          exact ⟨by rw [hF.out]; rfl, hb.out⟩
end Go.Proofs.Yteolglmdfjddlaa
