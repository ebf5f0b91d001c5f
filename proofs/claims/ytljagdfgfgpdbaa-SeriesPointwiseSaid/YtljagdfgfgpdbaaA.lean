/- Series: Valid, walked: the program's and the reference's; isTime, isValue, isSpan, limited, put. -/
import Derived.Test.YtljagdfgfgpdbaaRep
set_option linter.unusedVariables false
namespace Go.Proofs.Ytljagdfgfgpdbaa
open Go.RowKit
theorem isTime_any (t : Int) (w : World) : Calls Try.prog 42 #[.int .i64 t] w fun e w' => e = .returned (.bool (Ser.okTime t)) ∧ w = w' := by
  by_cases h0 : 0 ≤ t
  · go_enter Try.func42, Try.ntmps42
    go_wp2
    go_ret
    exact ⟨by simp [Ser.okTime, h0], rfl⟩
  · go_enter Try.func42, Try.ntmps42
    go_wp2
    go_ret
    exact ⟨by simp [Ser.okTime]; omega, rfl⟩
theorem isValue_any (t : Int) (w : World) : Calls Try.prog 33 #[.int .i64 t] w fun e w' => e = .returned (.bool (Ser.okVal t)) ∧ w = w' := by
  by_cases h0 : -1099511627776 ≤ t
  · go_enter Try.func33, Try.ntmps33
    go_wp2
    go_ret
    exact ⟨by simp [Ser.okVal, h0], rfl⟩
  · go_enter Try.func33, Try.ntmps33
    go_wp2
    go_ret
    exact ⟨by simp [Ser.okVal]; omega, rfl⟩
def prevT (l : List Ser.Step) (k : Nat) : Option Int := if k = 0 then none else (l[k - 1]?).map (·.1)
theorem vchk_step (l : List Ser.Step) (k : Nat) (h : k < l.length) (x : Int) (hx : x = Ser.vchk (prevT l k) (l.drop k)) :
    (Ser.okTime l[k].1 = false → x = 2) ∧ (Ser.okTime l[k].1 = true → Ser.okVal l[k].2 = false → x = 2) ∧
    (Ser.okTime l[k].1 = true → Ser.okVal l[k].2 = true → k = 0 → x = Ser.vchk (prevT l (k + 1)) (l.drop (k + 1))) ∧
    (Ser.okTime l[k].1 = true → Ser.okVal l[k].2 = true → ∀ h0 : 0 < k, l[k].1 ≤ (l[k - 1]'(by omega)).1 → x = 1) ∧
    (Ser.okTime l[k].1 = true → Ser.okVal l[k].2 = true → ∀ h0 : 0 < k, ¬ l[k].1 ≤ (l[k - 1]'(by omega)).1 → x = Ser.vchk (prevT l (k + 1)) (l.drop (k + 1))) := by
  rw [List.drop_eq_getElem_cons h] at hx
  unfold Ser.vchk at hx
  have hp : prevT l (k + 1) = some l[k].1 := by simp [prevT, List.getElem?_eq_getElem h]
  rw [hp]
  refine ⟨fun h1 => ?_, fun h1 h2 => ?_, fun h1 h2 h3 => ?_, fun h1 h2 h3 h4 => ?_, fun h1 h2 h3 h4 => ?_⟩
  · rw [hx]; simp [h1]
  · rw [hx]; simp [h1, h2]
  · subst h3; rw [hx, if_neg (by simp [h1, h2])]; simp [prevT]
  · rw [hx]; simp [h1, h2, prevT, List.getElem?_eq_getElem (show k - 1 < l.length by omega), show k ≠ 0 by omega]; intro h; omega
  · rw [hx]; simp [h1, h2, prevT, List.getElem?_eq_getElem (show k - 1 < l.length by omega), show k ≠ 0 by omega]; intro h; omega
set_option maxRecDepth 100000 in
set_option maxHeartbeats 1000000 in
theorem valid_any (A : Option Addr) (l : List Ser.Step) (n cap : Nat) (w : World) (h : SAt w w.heap.size A n l) (hm : n ≤ maxLen) :
    Calls Try.prog 23 #[.slice A n cap] w fun e w' => e = .returned (.int .i64 (Ser.valid l)) ∧ Below w.heap.size w w' := by
  unfold maxLen at hm
  have hn := Lib.hid h.len
  replace h := Lib.hid h
  by_cases hl : 512 < n
  · go_enter Try.func23, Try.ntmps23
    go_wp2_with fail
    go_ret
    exact ⟨ret_int (by rw [Ser.valid, if_pos (by rw [hn.out]; exact hl)]), Below.refl _ _⟩
  · have hv : Hid (Ser.valid l = Ser.vchk (prevT l 0) (l.drop 0)) := by show _ = _; rw [Ser.valid, if_neg (by rw [hn.out]; exact hl)]; rfl
    go_enter Try.func23, Try.ntmps23
    go_wp2_with fail
    go_loopw [10] (fun i wr => ∃ k : Nat, k ≤ n ∧ i = .int .i64 k ∧ Below w.heap.size w wr ∧ Ser.valid l = Ser.vchk (prevT l k) (l.drop k)) (fun i _ => n - (intOf i).toNat)
    case atStart => exact ⟨0, Nat.zero_le _, rfl, Below.refl _ _, hv.out⟩
    case round =>
      obtain ⟨k, hk, rfl, hb, hx⟩ := hrel
      clear hv
      by_cases hlt : k < n
      · have hkl : k < l.length := by rw [hn.out]; exact hlt
        have HS := Lib.hid (vchk_step l k hkl _ hx)
        clear hx
        obtain ⟨ad, hA, hbl, c0, c1⟩ := (h.out.below hb (Nat.le_refl _)).at_ hlt
        subst hA
        have hp : Hid (∀ h0 : 0 < k, wr.cell? (ad.add ((k - 1) * 2)) = some (.int .i64 (l[k - 1]'(by omega)).1)) := fun h0 => by
          obtain ⟨ad', hA, _, c, _⟩ := (h.out.below hb (Nat.le_refl _)).at_ (k := k - 1) (by omega)
          cases hA; exact c
        replace hb := Lib.hid hb
        generalize l[k].fst = t at *
        generalize l[k].snd = v at *
        have hw1 : Hid (Below w.heap.size w (wr.alloc (.cells #[.int .i64 t, .int .i64 v] 29))) := hb.out.alloc hb.out.size _
        by_cases ht : Ser.okTime t = true
        · by_cases hv : Ser.okVal v = true
          · by_cases h0 : 0 < k
            · have hq := cell_alloc (hp.out h0) (.cells #[.int .i64 t, .int .i64 v] 29)
              have hd : decide ((0 : Int) < k) = true := by simp; omega
              by_cases hle : t ≤ l[k - 1].fst
              · have hx := Lib.hid (HS.out.2.2.2.1 ht hv h0 hle)
                go_wp2_with (first | (go_at_call 42; refine (isTime_any _ _).mono ?_; rintro e w1 ⟨rfl, rfl⟩) | (go_at_call 33; refine (isValue_any _ _).mono ?_; rintro e w1 ⟨rfl, rfl⟩))
                go_quiet (fail)
                go_wp2_with fail
                go_ret
                exact ⟨ret_int hx.out.symm, below_drewN hw1.out _⟩
              · have hx := Lib.hid (HS.out.2.2.2.2 ht hv h0 hle)
                go_wp2_with (first | (go_at_call 42; refine (isTime_any _ _).mono ?_; rintro e w1 ⟨rfl, rfl⟩) | (go_at_call 33; refine (isValue_any _ _).mono ?_; rintro e w1 ⟨rfl, rfl⟩))
                go_quiet (fail)
                go_wp2_with fail
                go_roundw
                case rel => exact ⟨k + 1, by omega, by go_num, below_drewN hw1.out _, hx.out⟩
                case measure => simp [intOf]; omega
            · have hx := Lib.hid (HS.out.2.2.1 ht hv (by omega))
              have hd : decide ((0 : Int) < k) = false := by simp; omega
              go_wp2_with (first | (go_at_call 42; refine (isTime_any _ _).mono ?_; rintro e w1 ⟨rfl, rfl⟩) | (go_at_call 33; refine (isValue_any _ _).mono ?_; rintro e w1 ⟨rfl, rfl⟩))
              go_quiet (fail)
              go_wp2_with fail
              go_roundw
              case rel => exact ⟨k + 1, by omega, by go_num, below_drewN hw1.out _, hx.out⟩
              case measure => simp [intOf]; omega
          · have hx := Lib.hid (HS.out.2.1 ht (by simpa using hv))
            go_wp2_with (first | (go_at_call 42; refine (isTime_any _ _).mono ?_; rintro e w1 ⟨rfl, rfl⟩) | (go_at_call 33; refine (isValue_any _ _).mono ?_; rintro e w1 ⟨rfl, rfl⟩))
            go_ret
            exact ⟨ret_int hx.out.symm, hw1.out⟩
        · have hx := Lib.hid (HS.out.1 (by simpa using ht))
          go_wp2_with (first | (go_at_call 42; refine (isTime_any _ _).mono ?_; rintro e w1 ⟨rfl, rfl⟩) | (go_at_call 33; refine (isValue_any _ _).mono ?_; rintro e w1 ⟨rfl, rfl⟩))
          go_ret
          exact ⟨ret_int hx.out.symm, hw1.out⟩
      · obtain rfl : k = n := by omega
        have hx2 := Lib.hid hx
        clear hx
        go_wp2_with fail
        go_ret
        exact ⟨ret_int (by rw [hx2.out, List.drop_of_length_le (by rw [hn.out]; omega)]; rfl), hb⟩
end Go.Proofs.Ytljagdfgfgpdbaa
