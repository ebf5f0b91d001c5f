/- Series: Energy, walked: the program's. -/
import Derived.Test.YtljagdfgfgpdbaaF
set_option linter.unusedVariables false
namespace Go.Proofs.Ytljagdfgfgpdbaa
open Go.RowKit
def enerF (l : List Ser.Step) (F T : Int) : Int × Int :=
  if Ser.valid l ≠ 0 then (0, Ser.valid l) else if isSpan F T = false then (0, 2) else
    if Ser.ener F T l / 1048576 < -8796093022208 ∨ 8796093022207 < Ser.ener F T l / 1048576 then (0, 20) else (Ser.ener F T l, 0)
theorem and_mask (v : Int) (h1 : -2305843009213693952 ≤ v) (h2 : v ≤ 2305843009213693952) : bits .and .i64 v 1048575 = v % 1048576 := by
  show IntKind.i64.wrap ((BitVec.ofInt 64 v &&& BitVec.ofInt 64 1048575).toNat : Int) = _
  rw [BitVec.toNat_and]
  have e : (BitVec.ofInt 64 1048575).toNat = 2 ^ 20 - 1 := by decide
  rw [e, Nat.and_two_pow_sub_one_eq_mod]
  have e2 : ((BitVec.ofInt 64 v).toNat : Int) = v % 18446744073709551616 := by rw [BitVec.toNat_ofInt]; omega
  rw [IntKind.wrap_i64]
  omega
theorem prod_hi (v d : Int) (v1 : -1099511627776 ≤ v) (v2 : v ≤ 1099511627776) (d1 : 0 ≤ d) (d2 : d ≤ 268435456) : -281474976710656 ≤ v / 1048576 * d ∧ v / 1048576 * d ≤ 281474976710656 := by
  have a1 : -1048576 ≤ v / 1048576 := by omega
  have a2 : v / 1048576 ≤ 1048576 := by omega
  generalize v / 1048576 = q at *
  constructor
  · have h1 : -1048576 * d ≤ q * d := Int.mul_le_mul_of_nonneg_right a1 d1
    omega
  · have h1 : q * d ≤ 1048576 * d := Int.mul_le_mul_of_nonneg_right a2 d1
    omega
theorem prod_lo (v d : Int) (d1 : 0 ≤ d) (d2 : d ≤ 268435456) : 0 ≤ v % 1048576 * d ∧ v % 1048576 * d ≤ 281474976710656 := by
  have a1 : 0 ≤ v % 1048576 := by omega
  have a2 : v % 1048576 ≤ 1048576 := by omega
  generalize v % 1048576 = q at *
  constructor
  · exact Int.mul_nonneg a1 d1
  · have h1 : q * d ≤ 1048576 * d := Int.mul_le_mul_of_nonneg_right a2 d1
    omega
theorem hilo_step (F T : Int) (l : List Ser.Step) (k : Nat) (h : k < l.length) (d : Int) (hd : Ser.dur F T l[k] (l.drop (k + 1)) = d) (H L : Int) (hH : Ser.hi F T l = H + Ser.hi F T (l.drop k)) (hL : Ser.lo F T l = L + Ser.lo F T (l.drop k)) :
    Ser.hi F T l = (H + (l[k]).2 / 1048576 * d) + Ser.hi F T (l.drop (k + 1)) ∧ Ser.lo F T l = (L + (l[k]).2 % 1048576 * d) + Ser.lo F T (l.drop (k + 1)) := by
  rw [List.drop_eq_getElem_cons h] at hH hL
  simp only [Ser.hi, Ser.lo] at hH hL
  rw [hd] at hH hL
  constructor <;> omega
theorem dur_last (F T : Int) (l : List Ser.Step) (k : Nat) (h : k < l.length) (hk : l.length ≤ k + 1) : Ser.dur F T l[k] (l.drop (k + 1)) = if T ≤ max (l[k]).1 F then 0 else T - max (l[k]).1 F := by
  rw [List.drop_of_length_le (by omega)]; simp only [Ser.dur]
theorem dur_next (F T : Int) (l : List Ser.Step) (k : Nat) (h0 : k < l.length) (t : Int) (ht : (l[k]).1 = t) (h : k + 1 < l.length) (t2 : Int) (h2 : (l[k + 1]).1 = t2) : Ser.dur F T l[k] (l.drop (k + 1)) = if min T t2 ≤ max t F then 0 else min T t2 - max t F := by
  rw [List.drop_eq_getElem_cons h]; simp only [Ser.dur, ht, h2]
theorem wrap_id (n : Int) (h1 : -9223372036854775808 ≤ n) (h2 : n ≤ 9223372036854775807) : wrap64 n = n := IntWalk.wrap64_in n ⟨h1, h2⟩
theorem alloc_grow {w wr : World} {B : Nat} (h : Below B w wr) (hB : B ≤ w.heap.size) (o : Obj) : Below B w (wr.alloc o) := h.alloc (Nat.le_trans hB h.size) o
set_option maxRecDepth 100000 in
set_option maxHeartbeats 8000000 in
theorem energy_any (A : Option Addr) (l : List Ser.Step) (n c : Nat) (F T : Int) (w : World) (ha : SAt w w.heap.size A n l) (h1 : n ≤ c) (m1 : c ≤ maxLen) :
    Calls Try.prog 21 #[.slice A n c, .agg #[.int .i64 F, .int .i64 T]] w fun e w' => e = .returned (.tuple #[.int .i64 (enerF l F T).1, .int .i64 (enerF l F T).2]) ∧ Below w.heap.size w w' := by
  have la := Lib.hid ha.len
  have mn : n ≤ maxLen := Nat.le_trans h1 m1
  generalize hW0 : w.alloc (.cells #[.int .i64 F, .int .i64 T] 31) = W0
  have hw0 : Below w.heap.size w W0 := by rw [← hW0]; exact (Below.refl _ _).alloc (Nat.le_refl _) _
  have hs0 : W0.heap.size = w.heap.size + 1 := by rw [← hW0]; simp
  have z0 : W0.cell? ⟨w.heap.size, 0, none⟩ = some (.int .i64 F) := by rw [← hW0]; simp
  have z1 : W0.cell? ⟨w.heap.size, 1, none⟩ = some (.int .i64 T) := by rw [← hW0]; simp
  replace hW0 := Lib.hid hW0
  have ha0 := Lib.hid (ha.more hw0)
  replace ha := Lib.hid ha
  replace hw0 := Lib.hid hw0
  replace hs0 := Lib.hid hs0
  replace z0 := Lib.hid z0
  replace z1 := Lib.hid z1
  generalize hG : w.heap.size = G at *
  replace hG := Lib.hid hG
  have kz : ∀ wr, Below W0.heap.size W0 wr → wr.cell? ⟨G, 0, none⟩ = some (.int .i64 F) ∧ wr.cell? ⟨G, 1, none⟩ = some (.int .i64 T) := fun wr h =>
    ⟨by rw [h.cell (by rw [hs0.out]; simp)]; exact z0.out, by rw [h.cell (by rw [hs0.out]; simp)]; exact z1.out⟩
  replace kz := Lib.hid kz
  have fin : ∀ wr, Below W0.heap.size W0 wr → Below G w wr := fun wr h => hw0.out.trans (h.mono (by rw [hs0.out]; omega))
  replace fin := Lib.hid fin
  by_cases hv : Ser.valid l = 0
  · obtain ⟨pa, l1⟩ := Ser.valid_asc hv
    by_cases hsp : isSpan F T = true
    · have hF : Hid (enerF l F T = if Ser.ener F T l / 1048576 < -8796093022208 ∨ 8796093022207 < Ser.ener F T l / 1048576 then (0, 20) else (Ser.ener F T l, 0)) := by show _ = _; rw [enerF, hv, hsp]; rfl
      obtain ⟨sp1, sp2, sp3⟩ : 0 ≤ F ∧ F ≤ T ∧ T ≤ 268435456 := by simp [isSpan] at hsp; omega
      have hrng : ∀ (l : List Ser.Step) (p : Int), -1 ≤ p → Ser.Asc p l → ∀ s ∈ l, 0 ≤ s.1 ∧ s.1 ≤ 268435456 ∧ -1099511627776 ≤ s.2 ∧ s.2 ≤ 1099511627776 := by
        intro l
        induction l with
        | nil => intro _ _ _ s hs; simp at hs
        | cons x r ih => intro p hp h s hs; exact (List.mem_cons.1 hs).elim (fun e => by rw [e]; exact ⟨by have := h.1; omega, h.2.1, h.2.2.1, h.2.2.2.1⟩) (fun h' => ih _ (by have := h.1; omega) h.2.2.2.2 s h')
      have hr := Lib.hid (hrng l (-1) (by omega) pa)
      clear hrng
      replace hv := Lib.hid hv
      replace hsp := Lib.hid hsp
      replace pa := Lib.hid pa
      have l1' : n ≤ 512 := by have := la.out; omega
      go_enter Try.func21, Try.ntmps21
      go_wp2_with fail
      simp only [hG.out, hW0.out]
      refine (valid_any A l n c _ ha0.out mn).mono ?_
      rintro e w1 ⟨rfl, hb1⟩
      rw [hv.out]
      obtain ⟨y0, y1⟩ := kz.out _ hb1
      have hs1 := hb1.size
      replace hb1 := Lib.hid hb1
      go_wp2_with fail
      refine (isSpan_any F T _).mono ?_
      rintro e w2 ⟨rfl, hb2⟩
      rw [hsp.out]
      clear y0 y1
      replace hb2 := Lib.hid (hb1.out.trans (hb2.mono hs1))
      clear hb1 hs1
      go_wp2_with fail
      go_loopw [7, 8, 23] (fun hh ll i wr => ∃ (k : Nat) (H L : Int), k ≤ n ∧ i = .int .i64 k ∧ hh = .int .i64 H ∧ ll = .int .i64 L ∧ -(281474976710656 * k) ≤ H ∧ H ≤ 281474976710656 * k ∧ 0 ≤ L ∧ L ≤ 281474976710656 * k ∧
          Ser.hi F T l = H + Ser.hi F T (l.drop k) ∧ Ser.lo F T l = L + Ser.lo F T (l.drop k) ∧ Below W0.heap.size W0 wr) (fun _ _ i _ => n - (intOf i).toNat)
      case atStart => exact ⟨0, 0, 0, Nat.zero_le _, rfl, rfl, rfl, by omega, by omega, by omega, by omega, by simp, by simp, hb2.out⟩
      case round =>
        obtain ⟨k, H, L, hk, rfl, rfl, rfl, H1, H2, L1, L2, hH, hL, hb⟩ := hrel
        clear hb2
        obtain ⟨y0, y1⟩ := kz.out _ hb
        have har := ha0.out.more hb
        replace hb := Lib.hid hb
        by_cases hlt : k < n
        · have hkl : k < l.length := by have := la.out; omega
          have hstep := Lib.hid (fun d hd => hilo_step F T l k hkl d hd H L hH hL)
          clear hH hL
          obtain ⟨ad, hA, hblk, c0, c1⟩ := har.at_ hlt
          subst hA
          obtain ⟨r1, r2, v1, v2⟩ := hr.out l[k] (List.getElem_mem hkl)
          have hlast := Lib.hid (dur_last F T l k hkl)
          have hnext := Lib.hid (dur_next F T l k hkl (l[k]).1 rfl)
          generalize hW2 : wr.alloc (.cells #[.int .i64 (l[k]).1, .int .i64 (l[k]).2] 29) = W2
          have hbn : Below W0.heap.size W0 W2 := by rw [← hW2]; exact alloc_grow hb.out (Nat.le_refl _) _
          obtain ⟨yn0, yn1⟩ := kz.out _ hbn
          have hc2 := Lib.hid (fun h : k + 1 < n => (ha0.out.more hbn).at_ h)
          replace hbn := Lib.hid hbn
          subst hW2
          replace har := Lib.hid har
          generalize (l[k]).1 = t at *
          generalize (l[k]).2 = v at *
          have hbits := and_mask v (by omega) (by omega)
          by_cases hkn : k + 1 < n
          · obtain ⟨_, hA2, _, d0, _⟩ := hc2.out hkn
            cases hA2
            obtain ⟨rr1, rr2, _, _⟩ := hr.out (l[k + 1]'(by have := la.out; omega)) (List.getElem_mem _)
            have HT2 : Hid ((l[k + 1]'(by have := la.out; omega)).1 = (l[k + 1]'(by have := la.out; omega)).1) := rfl
            generalize hT2 : (l[k + 1]'(by have := la.out; omega)).1 = t2 at d0 rr1 rr2
            replace HT2 : Hid ((l[k + 1]'(by have := la.out; omega)).1 = t2) := hT2
            clear hT2
            rcases (show T < t2 ∨ t2 = T ∨ t2 < T by omega) with hm | hm | hm
            · skip
              rcases (show t < F ∨ t = F ∨ F < t by omega) with hf | hf | hf
              · skip
                by_cases hz : T ≤ F
                · have hd : Hid (Ser.dur F T l[k] (l.drop (k + 1)) = 0) := by show _ = _; rw [hnext.out (by have := la.out; omega) _ HT2.out]; exact if_pos (by omega)
                  have hs := Lib.hid (hstep.out 0 hd.out)
                  go_wp2_with fail
                  go_quiet (fail)
                  go_wp2_with fail
                  go_roundw
                  case rel => exact ⟨k + 1, H, L, by omega, by go_num, rfl, rfl, by omega, by omega, by omega, by omega, by have := hs.out.1; simpa using this, by have := hs.out.2; simpa using this, (below_drewN hbn.out _)⟩
                  case measure => simp [intOf]; omega
                · have hd : Hid (Ser.dur F T l[k] (l.drop (k + 1)) = T - F) := by show _ = _; rw [hnext.out (by have := la.out; omega) _ HT2.out, if_neg (by omega)]; omega
                  have hs := Lib.hid (hstep.out (T - F) hd.out)
                  obtain ⟨q1, q2⟩ := prod_hi v (T - F) v1 v2 (by omega) (by omega)
                  obtain ⟨q3, q4⟩ := prod_lo v (T - F) (by omega) (by omega)
                  have e1 : Hid (wrap64 (v / 1048576 * (T - F)) = v / 1048576 * (T - F)) := wrap_id _ (by omega) (by omega)
                  have e2 : Hid (wrap64 (v % 1048576 * (T - F)) = v % 1048576 * (T - F)) := wrap_id _ (by omega) (by omega)
                  have e3 : Hid (wrap64 (H + v / 1048576 * (T - F)) = H + v / 1048576 * (T - F)) := wrap_id _ (by omega) (by omega)
                  have e4 : Hid (wrap64 (L + v % 1048576 * (T - F)) = L + v % 1048576 * (T - F)) := wrap_id _ (by omega) (by omega)
                  go_wp2_with fail
                  go_quiet (fail)
                  go_wp2_with fail
                  go_roundw
                  case rel => exact ⟨k + 1, H + v / 1048576 * (T - F), L + v % 1048576 * (T - F), by omega, by go_num, by first | rfl | rw [e1.out, e3.out] | rw [e3.out] | rw [e1.out], by first | rfl | rw [e2.out, e4.out] | rw [e4.out] | rw [e2.out], by omega, by omega, by omega, by omega, hs.out.1, hs.out.2, (below_drewN hbn.out _)⟩
                  case measure => simp [intOf]; omega
              · subst hf
                by_cases hz : T ≤ t
                · have hd : Hid (Ser.dur t T l[k] (l.drop (k + 1)) = 0) := by show _ = _; rw [hnext.out (by have := la.out; omega) _ HT2.out]; exact if_pos (by omega)
                  have hs := Lib.hid (hstep.out 0 hd.out)
                  go_wp2_with fail
                  go_quiet (fail)
                  go_wp2_with fail
                  go_roundw
                  case rel => exact ⟨k + 1, H, L, by omega, by go_num, rfl, rfl, by omega, by omega, by omega, by omega, by have := hs.out.1; simpa using this, by have := hs.out.2; simpa using this, (below_drewN hbn.out _)⟩
                  case measure => simp [intOf]; omega
                · have hd : Hid (Ser.dur t T l[k] (l.drop (k + 1)) = T - t) := by show _ = _; rw [hnext.out (by have := la.out; omega) _ HT2.out, if_neg (by omega)]; omega
                  have hs := Lib.hid (hstep.out (T - t) hd.out)
                  obtain ⟨q1, q2⟩ := prod_hi v (T - t) v1 v2 (by omega) (by omega)
                  obtain ⟨q3, q4⟩ := prod_lo v (T - t) (by omega) (by omega)
                  have e1 : Hid (wrap64 (v / 1048576 * (T - t)) = v / 1048576 * (T - t)) := wrap_id _ (by omega) (by omega)
                  have e2 : Hid (wrap64 (v % 1048576 * (T - t)) = v % 1048576 * (T - t)) := wrap_id _ (by omega) (by omega)
                  have e3 : Hid (wrap64 (H + v / 1048576 * (T - t)) = H + v / 1048576 * (T - t)) := wrap_id _ (by omega) (by omega)
                  have e4 : Hid (wrap64 (L + v % 1048576 * (T - t)) = L + v % 1048576 * (T - t)) := wrap_id _ (by omega) (by omega)
                  go_wp2_with fail
                  go_quiet (fail)
                  go_wp2_with fail
                  go_roundw
                  case rel => exact ⟨k + 1, H + v / 1048576 * (T - t), L + v % 1048576 * (T - t), by omega, by go_num, by first | rfl | rw [e1.out, e3.out] | rw [e3.out] | rw [e1.out], by first | rfl | rw [e2.out, e4.out] | rw [e4.out] | rw [e2.out], by omega, by omega, by omega, by omega, hs.out.1, hs.out.2, (below_drewN hbn.out _)⟩
                  case measure => simp [intOf]; omega
              · skip
                by_cases hz : T ≤ t
                · have hd : Hid (Ser.dur F T l[k] (l.drop (k + 1)) = 0) := by show _ = _; rw [hnext.out (by have := la.out; omega) _ HT2.out]; exact if_pos (by omega)
                  have hs := Lib.hid (hstep.out 0 hd.out)
                  go_wp2_with fail
                  go_quiet (fail)
                  go_wp2_with fail
                  go_roundw
                  case rel => exact ⟨k + 1, H, L, by omega, by go_num, rfl, rfl, by omega, by omega, by omega, by omega, by have := hs.out.1; simpa using this, by have := hs.out.2; simpa using this, (below_drewN hbn.out _)⟩
                  case measure => simp [intOf]; omega
                · have hd : Hid (Ser.dur F T l[k] (l.drop (k + 1)) = T - t) := by show _ = _; rw [hnext.out (by have := la.out; omega) _ HT2.out, if_neg (by omega)]; omega
                  have hs := Lib.hid (hstep.out (T - t) hd.out)
                  obtain ⟨q1, q2⟩ := prod_hi v (T - t) v1 v2 (by omega) (by omega)
                  obtain ⟨q3, q4⟩ := prod_lo v (T - t) (by omega) (by omega)
                  have e1 : Hid (wrap64 (v / 1048576 * (T - t)) = v / 1048576 * (T - t)) := wrap_id _ (by omega) (by omega)
                  have e2 : Hid (wrap64 (v % 1048576 * (T - t)) = v % 1048576 * (T - t)) := wrap_id _ (by omega) (by omega)
                  have e3 : Hid (wrap64 (H + v / 1048576 * (T - t)) = H + v / 1048576 * (T - t)) := wrap_id _ (by omega) (by omega)
                  have e4 : Hid (wrap64 (L + v % 1048576 * (T - t)) = L + v % 1048576 * (T - t)) := wrap_id _ (by omega) (by omega)
                  go_wp2_with fail
                  go_quiet (fail)
                  go_wp2_with fail
                  go_roundw
                  case rel => exact ⟨k + 1, H + v / 1048576 * (T - t), L + v % 1048576 * (T - t), by omega, by go_num, by first | rfl | rw [e1.out, e3.out] | rw [e3.out] | rw [e1.out], by first | rfl | rw [e2.out, e4.out] | rw [e4.out] | rw [e2.out], by omega, by omega, by omega, by omega, hs.out.1, hs.out.2, (below_drewN hbn.out _)⟩
                  case measure => simp [intOf]; omega
            · subst hm
              rcases (show t < F ∨ t = F ∨ F < t by omega) with hf | hf | hf
              · skip
                by_cases hz : t2 ≤ F
                · have hd : Hid (Ser.dur F t2 l[k] (l.drop (k + 1)) = 0) := by show _ = _; rw [hnext.out (by have := la.out; omega) _ HT2.out]; exact if_pos (by omega)
                  have hs := Lib.hid (hstep.out 0 hd.out)
                  go_wp2_with fail
                  go_quiet (fail)
                  go_wp2_with fail
                  go_roundw
                  case rel => exact ⟨k + 1, H, L, by omega, by go_num, rfl, rfl, by omega, by omega, by omega, by omega, by have := hs.out.1; simpa using this, by have := hs.out.2; simpa using this, (below_drewN hbn.out _)⟩
                  case measure => simp [intOf]; omega
                · have hd : Hid (Ser.dur F t2 l[k] (l.drop (k + 1)) = t2 - F) := by show _ = _; rw [hnext.out (by have := la.out; omega) _ HT2.out, if_neg (by omega)]; omega
                  have hs := Lib.hid (hstep.out (t2 - F) hd.out)
                  obtain ⟨q1, q2⟩ := prod_hi v (t2 - F) v1 v2 (by omega) (by omega)
                  obtain ⟨q3, q4⟩ := prod_lo v (t2 - F) (by omega) (by omega)
                  have e1 : Hid (wrap64 (v / 1048576 * (t2 - F)) = v / 1048576 * (t2 - F)) := wrap_id _ (by omega) (by omega)
                  have e2 : Hid (wrap64 (v % 1048576 * (t2 - F)) = v % 1048576 * (t2 - F)) := wrap_id _ (by omega) (by omega)
                  have e3 : Hid (wrap64 (H + v / 1048576 * (t2 - F)) = H + v / 1048576 * (t2 - F)) := wrap_id _ (by omega) (by omega)
                  have e4 : Hid (wrap64 (L + v % 1048576 * (t2 - F)) = L + v % 1048576 * (t2 - F)) := wrap_id _ (by omega) (by omega)
                  go_wp2_with fail
                  go_quiet (fail)
                  go_wp2_with fail
                  go_roundw
                  case rel => exact ⟨k + 1, H + v / 1048576 * (t2 - F), L + v % 1048576 * (t2 - F), by omega, by go_num, by first | rfl | rw [e1.out, e3.out] | rw [e3.out] | rw [e1.out], by first | rfl | rw [e2.out, e4.out] | rw [e4.out] | rw [e2.out], by omega, by omega, by omega, by omega, hs.out.1, hs.out.2, (below_drewN hbn.out _)⟩
                  case measure => simp [intOf]; omega
              · subst hf
                by_cases hz : t2 ≤ t
                · have hd : Hid (Ser.dur t t2 l[k] (l.drop (k + 1)) = 0) := by show _ = _; rw [hnext.out (by have := la.out; omega) _ HT2.out]; exact if_pos (by omega)
                  have hs := Lib.hid (hstep.out 0 hd.out)
                  go_wp2_with fail
                  go_quiet (fail)
                  go_wp2_with fail
                  go_roundw
                  case rel => exact ⟨k + 1, H, L, by omega, by go_num, rfl, rfl, by omega, by omega, by omega, by omega, by have := hs.out.1; simpa using this, by have := hs.out.2; simpa using this, (below_drewN hbn.out _)⟩
                  case measure => simp [intOf]; omega
                · have hd : Hid (Ser.dur t t2 l[k] (l.drop (k + 1)) = t2 - t) := by show _ = _; rw [hnext.out (by have := la.out; omega) _ HT2.out, if_neg (by omega)]; omega
                  have hs := Lib.hid (hstep.out (t2 - t) hd.out)
                  obtain ⟨q1, q2⟩ := prod_hi v (t2 - t) v1 v2 (by omega) (by omega)
                  obtain ⟨q3, q4⟩ := prod_lo v (t2 - t) (by omega) (by omega)
                  have e1 : Hid (wrap64 (v / 1048576 * (t2 - t)) = v / 1048576 * (t2 - t)) := wrap_id _ (by omega) (by omega)
                  have e2 : Hid (wrap64 (v % 1048576 * (t2 - t)) = v % 1048576 * (t2 - t)) := wrap_id _ (by omega) (by omega)
                  have e3 : Hid (wrap64 (H + v / 1048576 * (t2 - t)) = H + v / 1048576 * (t2 - t)) := wrap_id _ (by omega) (by omega)
                  have e4 : Hid (wrap64 (L + v % 1048576 * (t2 - t)) = L + v % 1048576 * (t2 - t)) := wrap_id _ (by omega) (by omega)
                  go_wp2_with fail
                  go_quiet (fail)
                  go_wp2_with fail
                  go_roundw
                  case rel => exact ⟨k + 1, H + v / 1048576 * (t2 - t), L + v % 1048576 * (t2 - t), by omega, by go_num, by first | rfl | rw [e1.out, e3.out] | rw [e3.out] | rw [e1.out], by first | rfl | rw [e2.out, e4.out] | rw [e4.out] | rw [e2.out], by omega, by omega, by omega, by omega, hs.out.1, hs.out.2, (below_drewN hbn.out _)⟩
                  case measure => simp [intOf]; omega
              · skip
                by_cases hz : t2 ≤ t
                · have hd : Hid (Ser.dur F t2 l[k] (l.drop (k + 1)) = 0) := by show _ = _; rw [hnext.out (by have := la.out; omega) _ HT2.out]; exact if_pos (by omega)
                  have hs := Lib.hid (hstep.out 0 hd.out)
                  go_wp2_with fail
                  go_quiet (fail)
                  go_wp2_with fail
                  go_roundw
                  case rel => exact ⟨k + 1, H, L, by omega, by go_num, rfl, rfl, by omega, by omega, by omega, by omega, by have := hs.out.1; simpa using this, by have := hs.out.2; simpa using this, (below_drewN hbn.out _)⟩
                  case measure => simp [intOf]; omega
                · have hd : Hid (Ser.dur F t2 l[k] (l.drop (k + 1)) = t2 - t) := by show _ = _; rw [hnext.out (by have := la.out; omega) _ HT2.out, if_neg (by omega)]; omega
                  have hs := Lib.hid (hstep.out (t2 - t) hd.out)
                  obtain ⟨q1, q2⟩ := prod_hi v (t2 - t) v1 v2 (by omega) (by omega)
                  obtain ⟨q3, q4⟩ := prod_lo v (t2 - t) (by omega) (by omega)
                  have e1 : Hid (wrap64 (v / 1048576 * (t2 - t)) = v / 1048576 * (t2 - t)) := wrap_id _ (by omega) (by omega)
                  have e2 : Hid (wrap64 (v % 1048576 * (t2 - t)) = v % 1048576 * (t2 - t)) := wrap_id _ (by omega) (by omega)
                  have e3 : Hid (wrap64 (H + v / 1048576 * (t2 - t)) = H + v / 1048576 * (t2 - t)) := wrap_id _ (by omega) (by omega)
                  have e4 : Hid (wrap64 (L + v % 1048576 * (t2 - t)) = L + v % 1048576 * (t2 - t)) := wrap_id _ (by omega) (by omega)
                  go_wp2_with fail
                  go_quiet (fail)
                  go_wp2_with fail
                  go_roundw
                  case rel => exact ⟨k + 1, H + v / 1048576 * (t2 - t), L + v % 1048576 * (t2 - t), by omega, by go_num, by first | rfl | rw [e1.out, e3.out] | rw [e3.out] | rw [e1.out], by first | rfl | rw [e2.out, e4.out] | rw [e4.out] | rw [e2.out], by omega, by omega, by omega, by omega, hs.out.1, hs.out.2, (below_drewN hbn.out _)⟩
                  case measure => simp [intOf]; omega
            · skip
              rcases (show t < F ∨ t = F ∨ F < t by omega) with hf | hf | hf
              · skip
                by_cases hz : t2 ≤ F
                · have hd : Hid (Ser.dur F T l[k] (l.drop (k + 1)) = 0) := by show _ = _; rw [hnext.out (by have := la.out; omega) _ HT2.out]; exact if_pos (by omega)
                  have hs := Lib.hid (hstep.out 0 hd.out)
                  go_wp2_with fail
                  go_quiet (fail)
                  go_wp2_with fail
                  go_roundw
                  case rel => exact ⟨k + 1, H, L, by omega, by go_num, rfl, rfl, by omega, by omega, by omega, by omega, by have := hs.out.1; simpa using this, by have := hs.out.2; simpa using this, (below_drewN hbn.out _)⟩
                  case measure => simp [intOf]; omega
                · have hd : Hid (Ser.dur F T l[k] (l.drop (k + 1)) = t2 - F) := by show _ = _; rw [hnext.out (by have := la.out; omega) _ HT2.out, if_neg (by omega)]; omega
                  have hs := Lib.hid (hstep.out (t2 - F) hd.out)
                  obtain ⟨q1, q2⟩ := prod_hi v (t2 - F) v1 v2 (by omega) (by omega)
                  obtain ⟨q3, q4⟩ := prod_lo v (t2 - F) (by omega) (by omega)
                  have e1 : Hid (wrap64 (v / 1048576 * (t2 - F)) = v / 1048576 * (t2 - F)) := wrap_id _ (by omega) (by omega)
                  have e2 : Hid (wrap64 (v % 1048576 * (t2 - F)) = v % 1048576 * (t2 - F)) := wrap_id _ (by omega) (by omega)
                  have e3 : Hid (wrap64 (H + v / 1048576 * (t2 - F)) = H + v / 1048576 * (t2 - F)) := wrap_id _ (by omega) (by omega)
                  have e4 : Hid (wrap64 (L + v % 1048576 * (t2 - F)) = L + v % 1048576 * (t2 - F)) := wrap_id _ (by omega) (by omega)
                  go_wp2_with fail
                  go_quiet (fail)
                  go_wp2_with fail
                  go_roundw
                  case rel => exact ⟨k + 1, H + v / 1048576 * (t2 - F), L + v % 1048576 * (t2 - F), by omega, by go_num, by first | rfl | rw [e1.out, e3.out] | rw [e3.out] | rw [e1.out], by first | rfl | rw [e2.out, e4.out] | rw [e4.out] | rw [e2.out], by omega, by omega, by omega, by omega, hs.out.1, hs.out.2, (below_drewN hbn.out _)⟩
                  case measure => simp [intOf]; omega
              · subst hf
                by_cases hz : t2 ≤ t
                · have hd : Hid (Ser.dur t T l[k] (l.drop (k + 1)) = 0) := by show _ = _; rw [hnext.out (by have := la.out; omega) _ HT2.out]; exact if_pos (by omega)
                  have hs := Lib.hid (hstep.out 0 hd.out)
                  go_wp2_with fail
                  go_quiet (fail)
                  go_wp2_with fail
                  go_roundw
                  case rel => exact ⟨k + 1, H, L, by omega, by go_num, rfl, rfl, by omega, by omega, by omega, by omega, by have := hs.out.1; simpa using this, by have := hs.out.2; simpa using this, (below_drewN hbn.out _)⟩
                  case measure => simp [intOf]; omega
                · have hd : Hid (Ser.dur t T l[k] (l.drop (k + 1)) = t2 - t) := by show _ = _; rw [hnext.out (by have := la.out; omega) _ HT2.out, if_neg (by omega)]; omega
                  have hs := Lib.hid (hstep.out (t2 - t) hd.out)
                  obtain ⟨q1, q2⟩ := prod_hi v (t2 - t) v1 v2 (by omega) (by omega)
                  obtain ⟨q3, q4⟩ := prod_lo v (t2 - t) (by omega) (by omega)
                  have e1 : Hid (wrap64 (v / 1048576 * (t2 - t)) = v / 1048576 * (t2 - t)) := wrap_id _ (by omega) (by omega)
                  have e2 : Hid (wrap64 (v % 1048576 * (t2 - t)) = v % 1048576 * (t2 - t)) := wrap_id _ (by omega) (by omega)
                  have e3 : Hid (wrap64 (H + v / 1048576 * (t2 - t)) = H + v / 1048576 * (t2 - t)) := wrap_id _ (by omega) (by omega)
                  have e4 : Hid (wrap64 (L + v % 1048576 * (t2 - t)) = L + v % 1048576 * (t2 - t)) := wrap_id _ (by omega) (by omega)
                  go_wp2_with fail
                  go_quiet (fail)
                  go_wp2_with fail
                  go_roundw
                  case rel => exact ⟨k + 1, H + v / 1048576 * (t2 - t), L + v % 1048576 * (t2 - t), by omega, by go_num, by first | rfl | rw [e1.out, e3.out] | rw [e3.out] | rw [e1.out], by first | rfl | rw [e2.out, e4.out] | rw [e4.out] | rw [e2.out], by omega, by omega, by omega, by omega, hs.out.1, hs.out.2, (below_drewN hbn.out _)⟩
                  case measure => simp [intOf]; omega
              · skip
                by_cases hz : t2 ≤ t
                · have hd : Hid (Ser.dur F T l[k] (l.drop (k + 1)) = 0) := by show _ = _; rw [hnext.out (by have := la.out; omega) _ HT2.out]; exact if_pos (by omega)
                  have hs := Lib.hid (hstep.out 0 hd.out)
                  go_wp2_with fail
                  go_quiet (fail)
                  go_wp2_with fail
                  go_roundw
                  case rel => exact ⟨k + 1, H, L, by omega, by go_num, rfl, rfl, by omega, by omega, by omega, by omega, by have := hs.out.1; simpa using this, by have := hs.out.2; simpa using this, (below_drewN hbn.out _)⟩
                  case measure => simp [intOf]; omega
                · have hd : Hid (Ser.dur F T l[k] (l.drop (k + 1)) = t2 - t) := by show _ = _; rw [hnext.out (by have := la.out; omega) _ HT2.out, if_neg (by omega)]; omega
                  have hs := Lib.hid (hstep.out (t2 - t) hd.out)
                  obtain ⟨q1, q2⟩ := prod_hi v (t2 - t) v1 v2 (by omega) (by omega)
                  obtain ⟨q3, q4⟩ := prod_lo v (t2 - t) (by omega) (by omega)
                  have e1 : Hid (wrap64 (v / 1048576 * (t2 - t)) = v / 1048576 * (t2 - t)) := wrap_id _ (by omega) (by omega)
                  have e2 : Hid (wrap64 (v % 1048576 * (t2 - t)) = v % 1048576 * (t2 - t)) := wrap_id _ (by omega) (by omega)
                  have e3 : Hid (wrap64 (H + v / 1048576 * (t2 - t)) = H + v / 1048576 * (t2 - t)) := wrap_id _ (by omega) (by omega)
                  have e4 : Hid (wrap64 (L + v % 1048576 * (t2 - t)) = L + v % 1048576 * (t2 - t)) := wrap_id _ (by omega) (by omega)
                  go_wp2_with fail
                  go_quiet (fail)
                  go_wp2_with fail
                  go_roundw
                  case rel => exact ⟨k + 1, H + v / 1048576 * (t2 - t), L + v % 1048576 * (t2 - t), by omega, by go_num, by first | rfl | rw [e1.out, e3.out] | rw [e3.out] | rw [e1.out], by first | rfl | rw [e2.out, e4.out] | rw [e4.out] | rw [e2.out], by omega, by omega, by omega, by omega, hs.out.1, hs.out.2, (below_drewN hbn.out _)⟩
                  case measure => simp [intOf]; omega
          · skip
            rcases (show t < F ∨ t = F ∨ F < t by omega) with hf | hf | hf
            · skip
              by_cases hz : T ≤ F
              · have hd : Hid (Ser.dur F T l[k] (l.drop (k + 1)) = 0) := by show _ = _; rw [hlast.out (by have := la.out; omega)]; exact if_pos (by omega)
                have hs := Lib.hid (hstep.out 0 hd.out)
                go_wp2_with fail
                go_quiet (fail)
                go_wp2_with fail
                go_roundw
                case rel => exact ⟨k + 1, H, L, by omega, by go_num, rfl, rfl, by omega, by omega, by omega, by omega, by have := hs.out.1; simpa using this, by have := hs.out.2; simpa using this, (below_drewN hbn.out _)⟩
                case measure => simp [intOf]; omega
              · have hd : Hid (Ser.dur F T l[k] (l.drop (k + 1)) = T - F) := by show _ = _; rw [hlast.out (by have := la.out; omega), if_neg (by omega)]; omega
                have hs := Lib.hid (hstep.out (T - F) hd.out)
                obtain ⟨q1, q2⟩ := prod_hi v (T - F) v1 v2 (by omega) (by omega)
                obtain ⟨q3, q4⟩ := prod_lo v (T - F) (by omega) (by omega)
                have e1 : Hid (wrap64 (v / 1048576 * (T - F)) = v / 1048576 * (T - F)) := wrap_id _ (by omega) (by omega)
                have e2 : Hid (wrap64 (v % 1048576 * (T - F)) = v % 1048576 * (T - F)) := wrap_id _ (by omega) (by omega)
                have e3 : Hid (wrap64 (H + v / 1048576 * (T - F)) = H + v / 1048576 * (T - F)) := wrap_id _ (by omega) (by omega)
                have e4 : Hid (wrap64 (L + v % 1048576 * (T - F)) = L + v % 1048576 * (T - F)) := wrap_id _ (by omega) (by omega)
                go_wp2_with fail
                go_quiet (fail)
                go_wp2_with fail
                go_roundw
                case rel => exact ⟨k + 1, H + v / 1048576 * (T - F), L + v % 1048576 * (T - F), by omega, by go_num, by first | rfl | rw [e1.out, e3.out] | rw [e3.out] | rw [e1.out], by first | rfl | rw [e2.out, e4.out] | rw [e4.out] | rw [e2.out], by omega, by omega, by omega, by omega, hs.out.1, hs.out.2, (below_drewN hbn.out _)⟩
                case measure => simp [intOf]; omega
            · subst hf
              by_cases hz : T ≤ t
              · have hd : Hid (Ser.dur t T l[k] (l.drop (k + 1)) = 0) := by show _ = _; rw [hlast.out (by have := la.out; omega)]; exact if_pos (by omega)
                have hs := Lib.hid (hstep.out 0 hd.out)
                go_wp2_with fail
                go_quiet (fail)
                go_wp2_with fail
                go_roundw
                case rel => exact ⟨k + 1, H, L, by omega, by go_num, rfl, rfl, by omega, by omega, by omega, by omega, by have := hs.out.1; simpa using this, by have := hs.out.2; simpa using this, (below_drewN hbn.out _)⟩
                case measure => simp [intOf]; omega
              · have hd : Hid (Ser.dur t T l[k] (l.drop (k + 1)) = T - t) := by show _ = _; rw [hlast.out (by have := la.out; omega), if_neg (by omega)]; omega
                have hs := Lib.hid (hstep.out (T - t) hd.out)
                obtain ⟨q1, q2⟩ := prod_hi v (T - t) v1 v2 (by omega) (by omega)
                obtain ⟨q3, q4⟩ := prod_lo v (T - t) (by omega) (by omega)
                have e1 : Hid (wrap64 (v / 1048576 * (T - t)) = v / 1048576 * (T - t)) := wrap_id _ (by omega) (by omega)
                have e2 : Hid (wrap64 (v % 1048576 * (T - t)) = v % 1048576 * (T - t)) := wrap_id _ (by omega) (by omega)
                have e3 : Hid (wrap64 (H + v / 1048576 * (T - t)) = H + v / 1048576 * (T - t)) := wrap_id _ (by omega) (by omega)
                have e4 : Hid (wrap64 (L + v % 1048576 * (T - t)) = L + v % 1048576 * (T - t)) := wrap_id _ (by omega) (by omega)
                go_wp2_with fail
                go_quiet (fail)
                go_wp2_with fail
                go_roundw
                case rel => exact ⟨k + 1, H + v / 1048576 * (T - t), L + v % 1048576 * (T - t), by omega, by go_num, by first | rfl | rw [e1.out, e3.out] | rw [e3.out] | rw [e1.out], by first | rfl | rw [e2.out, e4.out] | rw [e4.out] | rw [e2.out], by omega, by omega, by omega, by omega, hs.out.1, hs.out.2, (below_drewN hbn.out _)⟩
                case measure => simp [intOf]; omega
            · skip
              by_cases hz : T ≤ t
              · have hd : Hid (Ser.dur F T l[k] (l.drop (k + 1)) = 0) := by show _ = _; rw [hlast.out (by have := la.out; omega)]; exact if_pos (by omega)
                have hs := Lib.hid (hstep.out 0 hd.out)
                go_wp2_with fail
                go_quiet (fail)
                go_wp2_with fail
                go_roundw
                case rel => exact ⟨k + 1, H, L, by omega, by go_num, rfl, rfl, by omega, by omega, by omega, by omega, by have := hs.out.1; simpa using this, by have := hs.out.2; simpa using this, (below_drewN hbn.out _)⟩
                case measure => simp [intOf]; omega
              · have hd : Hid (Ser.dur F T l[k] (l.drop (k + 1)) = T - t) := by show _ = _; rw [hlast.out (by have := la.out; omega), if_neg (by omega)]; omega
                have hs := Lib.hid (hstep.out (T - t) hd.out)
                obtain ⟨q1, q2⟩ := prod_hi v (T - t) v1 v2 (by omega) (by omega)
                obtain ⟨q3, q4⟩ := prod_lo v (T - t) (by omega) (by omega)
                have e1 : Hid (wrap64 (v / 1048576 * (T - t)) = v / 1048576 * (T - t)) := wrap_id _ (by omega) (by omega)
                have e2 : Hid (wrap64 (v % 1048576 * (T - t)) = v % 1048576 * (T - t)) := wrap_id _ (by omega) (by omega)
                have e3 : Hid (wrap64 (H + v / 1048576 * (T - t)) = H + v / 1048576 * (T - t)) := wrap_id _ (by omega) (by omega)
                have e4 : Hid (wrap64 (L + v % 1048576 * (T - t)) = L + v % 1048576 * (T - t)) := wrap_id _ (by omega) (by omega)
                go_wp2_with fail
                go_quiet (fail)
                go_wp2_with fail
                go_roundw
                case rel => exact ⟨k + 1, H + v / 1048576 * (T - t), L + v % 1048576 * (T - t), by omega, by go_num, by first | rfl | rw [e1.out, e3.out] | rw [e3.out] | rw [e1.out], by first | rfl | rw [e2.out, e4.out] | rw [e4.out] | rw [e2.out], by omega, by omega, by omega, by omega, hs.out.1, hs.out.2, (below_drewN hbn.out _)⟩
                case measure => simp [intOf]; omega
        · have hkn : k = n := by omega
          have hdr : l.drop k = [] := List.drop_of_length_le (by have := la.out; omega)
          rw [hdr] at hH hL
          simp only [Ser.hi, Ser.lo, Int.add_zero] at hH hL
          have hE := Ser.ener_parts F T l
          rw [hH, hL] at hE
          clear hH hL har
          have hdiv : (H * 1048576 + L) / 1048576 = H + L / 1048576 := by omega
          have hmod : (H + L / 1048576) * 1048576 + L % 1048576 = H * 1048576 + L := by omega
          rw [hE, hdiv] at hF
          replace hE := Lib.hid hE
          replace hdiv := Lib.hid hdiv
          replace hmod := Lib.hid hmod
          have hbits := and_mask L (by omega) (by omega)
          have e1 : Hid (wrap64 (H + L / 1048576) = H + L / 1048576) := wrap_id _ (by omega) (by omega)
          by_cases ho : H + L / 1048576 < -8796093022208 ∨ 8796093022207 < H + L / 1048576
          · have hF2 : Hid (enerF l F T = (0, 20)) := by show _ = _; rw [hF.out, if_pos ho]
            replace hkn := Lib.hid hkn
            rcases (show H + L / 1048576 < -8796093022208 ∨ (-8796093022208 ≤ H + L / 1048576 ∧ 8796093022207 < H + L / 1048576) by omega) with ho | ⟨ho1, ho⟩
            all_goals
              go_wp2_with fail
              go_ret2
              exact ⟨by rw [hF2.out]; rfl, fin.out _ hb.out⟩
          · have hF2 : Hid (enerF l F T = (H * 1048576 + L, 0)) := by show _ = _; rw [hF.out, if_neg ho]
            replace hkn := Lib.hid hkn
            have ho1 : -8796093022208 ≤ H + L / 1048576 := by omega
            have ho2 : H + L / 1048576 ≤ 8796093022207 := by omega
            clear ho
            go_wp2_with fail
            go_ret2
            exact ⟨by rw [hF2.out, ← hmod.out]; rfl, fin.out _ hb.out⟩
    · have hsp' : isSpan F T = false := by simpa using hsp
      have hF : Hid (enerF l F T = (0, 2)) := by show _ = _; rw [enerF, hv, hsp']; rfl
      clear hsp
      replace hv := Lib.hid hv
      replace hsp' := Lib.hid hsp'
      go_enter Try.func21, Try.ntmps21
      go_wp2_with fail
      simp only [hG.out, hW0.out]
      refine (valid_any A l n c _ ha0.out mn).mono ?_
      rintro e w1 ⟨rfl, hb1⟩
      rw [hv.out]
      obtain ⟨y0, y1⟩ := kz.out _ hb1
      have hs1 := hb1.size
      replace hb1 := Lib.hid hb1
      go_wp2_with fail
      refine (isSpan_any F T _).mono ?_
      rintro e w2 ⟨rfl, hb2⟩
      rw [hsp'.out]
      clear y0 y1
      replace hb2 := Lib.hid (hb1.out.trans (hb2.mono hs1))
      go_wp2_with fail
      go_ret2
      exact ⟨by rw [hF.out]; rfl, fin.out _ hb2.out⟩
  · have hd : (Ser.valid l != 0) = true := by simpa using hv
    have hd2 : (Ser.valid l == 0) = false := by simpa using hv
    have hF : Hid (enerF l F T = (0, Ser.valid l)) := by show _ = _; rw [enerF, if_pos hv]
    replace hv := Lib.hid hv
    go_enter Try.func21, Try.ntmps21
    go_wp2_with fail
    simp only [hG.out, hW0.out]
    refine (valid_any A l n c _ ha0.out mn).mono ?_
    rintro e w1 ⟨rfl, hb1⟩
    replace hb1 := Lib.hid hb1
    generalize Ser.valid l = ev at *
    go_wp2_with fail
    go_ret2
    exact ⟨by rw [hF.out]; rfl, fin.out _ hb1.out⟩
end Go.Proofs.Ytljagdfgfgpdbaa
