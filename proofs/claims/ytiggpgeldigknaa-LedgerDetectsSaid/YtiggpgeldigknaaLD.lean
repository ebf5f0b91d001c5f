/- Ledger: Head, Same, Right, Verify of the reference. -/
import Derived.Test.YtiggpgeldigknaaLC
import Derived.Test.YtiggpgeldigknaaRM
import Derived.Test.YtiggpgeldigknaaRG
set_option linter.unusedVariables false
set_option linter.unusedSimpArgs false
namespace Go.Proofs.Ytiggpgeldigknaa
open Go.RowKit
theorem ln_cells {w : World} {B n k : Nat} {A : Option Addr} {L : List Ln} (h : LAt lnC 6 w B A n L) (hk : k < n) :
    ∃ ad, A = some ad ∧ ad.block < B ∧ w.cell? (ad.add (k * 6)) = some (Value.int .i64 (L[k]'(by rw [h.len]; exact hk)).seq) ∧ w.cell? ⟨(ad.add (k * 6)).block, (ad.add (k * 6)).off + 1, none⟩ = some (Value.int .i64 (L[k]'(by rw [h.len]; exact hk)).at_) ∧ w.cell? ⟨(ad.add (k * 6)).block, (ad.add (k * 6)).off + 2, none⟩ = some (Value.string (L[k]'(by rw [h.len]; exact hk)).who) ∧ w.cell? ⟨(ad.add (k * 6)).block, (ad.add (k * 6)).off + 3, none⟩ = some (Value.string (L[k]'(by rw [h.len]; exact hk)).what) ∧ w.cell? ⟨(ad.add (k * 6)).block, (ad.add (k * 6)).off + 4, none⟩ = some (Value.string (L[k]'(by rw [h.len]; exact hk)).on) ∧ w.cell? ⟨(ad.add (k * 6)).block, (ad.add (k * 6)).off + 5, none⟩ = some (Value.int .u64 (L[k]'(by rw [h.len]; exact hk)).sum) := by
  obtain ⟨ad, rfl, hb, hc⟩ := h.at_ hk
  have f := fun j u hj => (add_next ad (k * 6) j) ▸ hc (j + 1) u hj
  exact ⟨ad, rfl, hb, hc 0 _ rfl, f 0 _ rfl, f 1 _ rfl, f 2 _ rfl, f 3 _ rfl, f 4 _ rfl⟩
theorem head_last (L : List Ln) (h : L.length ≠ 0) : headL L = (L.getD (L.length - 1) noLn).sum := by
  unfold headL; rw [lastF_get _ _ (fun e => h (by rw [e]; rfl))]
set_option maxRecDepth 100000 in
set_option maxHeartbeats 4000000 in
theorem head_any (A : Option Addr) (n cp : Nat) (L : List Ln) (w : World) (h : LAt lnC 6 w w.heap.size A n L) (hmx : n ≤ 100000) :
    Calls Try.prog 42 #[.slice A n cp] w fun e w' => e = .returned (.int .u64 (headL L)) ∧ w' = w := by
  have hn := h.len
  by_cases h0 : n = 0
  · subst h0
    obtain rfl : L = [] := List.eq_nil_of_length_eq_zero hn
    go_enter Try.func42, Try.ntmps42
    go_wp2_with fail
    go_ret
    exact ⟨rfl, rfl⟩
  · have h0d : ((n : Int) == 0) = false := by simp; omega
    obtain ⟨m, hm⟩ : ∃ m, n = m + 1 := ⟨n - 1, by omega⟩
    have hS : Hid (headL L = (L[m]'(by omega)).sum) := by
      show _ = _
      rw [head_last L (by omega), List.getD_eq_getElem?_getD, show L.length - 1 = m by omega, List.getElem?_eq_getElem (by omega)]
      rfl
    obtain ⟨ad, hA, -, e0, e1, e2, e3, e4, e5⟩ := ln_cells h (show m < n by omega)
    subst hA
    generalize L[m]'(by omega) = x at *
    have hi : (n : Int) - 1 = (m : Int) := by omega
    have hm0 : (0 : Int) ≤ (m : Int) := by omega
    have hm1 : (m : Int) < (n : Int) := by omega
    clear hm
    go_enter Try.func42, Try.ntmps42
    go_wp2_with fail
    go_ret
    exact ⟨by rw [hS.out]; rfl, rfl⟩
set_option maxRecDepth 100000 in
set_option maxHeartbeats 4000000 in
theorem rhead_any (A : Option Addr) (n cp : Nat) (L : List Ln) (w : World) (h : LAt lnC 6 w w.heap.size A n L) (hmx : n ≤ 100000) :
    Calls Try.prog 43 #[.slice A n cp] w fun e w' => e = .returned (.int .u64 (headL L)) ∧ w' = w := by
  have hn := h.len
  by_cases h0 : n = 0
  · subst h0
    obtain rfl : L = [] := List.eq_nil_of_length_eq_zero hn
    go_enter Try.func43, Try.ntmps43
    go_wp2_with fail
    go_ret
    exact ⟨rfl, rfl⟩
  · have h0d : ((n : Int) == 0) = false := by simp; omega
    obtain ⟨m, hm⟩ : ∃ m, n = m + 1 := ⟨n - 1, by omega⟩
    have hS : Hid (headL L = (L[m]'(by omega)).sum) := by
      show _ = _
      rw [head_last L (by omega), List.getD_eq_getElem?_getD, show L.length - 1 = m by omega, List.getElem?_eq_getElem (by omega)]
      rfl
    obtain ⟨ad, hA, -, e0, e1, e2, e3, e4, e5⟩ := ln_cells h (show m < n by omega)
    subst hA
    generalize L[m]'(by omega) = x at *
    have hi : (n : Int) - 1 = (m : Int) := by omega
    have hm0 : (0 : Int) ≤ (m : Int) := by omega
    have hm1 : (m : Int) < (n : Int) := by omega
    clear hm
    go_enter Try.func43, Try.ntmps43
    go_wp2_with fail
    go_ret
    exact ⟨by rw [hS.out]; rfl, rfl⟩
set_option maxRecDepth 100000 in
set_option maxHeartbeats 4000000 in
theorem same_self (A A2 : Option Addr) (n cp cp2 : Nat) (L : List Ln) (w : World) (h : LAt lnC 6 w w.heap.size A n L) (h2 : LAt lnC 6 w w.heap.size A2 n L) (hm : n ≤ 100000) :
    Calls Try.prog 41 #[.slice A n cp, .slice A2 n cp2] w fun e w' => e = .returned (.bool true) ∧ Below w.heap.size w w' := by
  have hn := Lib.hid h.len
  replace h := Lib.hid h
  replace h2 := Lib.hid h2
  go_enter Try.func41, Try.ntmps41
  go_wp2_with fail
  go_loopw [5] (fun i wr => ∃ k m : Nat, k ≤ n ∧ i = .int .i64 k ∧ wr = w.drewN m) (fun i _ => n - (intOf i).toNat)
  case atStart => exact ⟨0, 0, Nat.zero_le _, rfl, rfl⟩
  case round =>
    obtain ⟨k, m, hk, rfl, rfl⟩ := hrel
    by_cases hlt : k < n
    · obtain ⟨ad1, hA1, _, c0, c1, c2, c3, c4, c5⟩ := ln_cells h.out hlt
      obtain ⟨ad2, hA2, _, d0, d1, d2, d3, d4, d5⟩ := ln_cells h2.out hlt
      subst hA1
      subst hA2
      have hka : k < L.length := by have := hn.out; omega
      generalize L[k] = t at *
      obtain ⟨t0, t1, t2, t3, t4, t5⟩ := t
      simp only at c0 c1 c2 c3 c4 c5 d0 d1 d2 d3 d4 d5
      have hlt0 : (0 : Int) ≤ k := by omega
      have hlt1 : (k : Int) < n := by omega
      go_wp2_with fail
      go_quiet (fail)
      go_wp2_with fail
      go_roundw
      case rel => exact ⟨k + 1, _, by omega, by go_num, rfl⟩
      case measure => simp [intOf]; omega
    · go_wp2_with fail
      go_ret
      exact ⟨rfl, by first | exact below_drewN (Below.refl _ _) _ | exact below_drewN (below_drewN (Below.refl _ _) _) _⟩
def t3 (a b c : ByteArray) : Bool := decide (a.size ≤ 70) && (decide (b.size ≤ 70) && decide (c.size ≤ 70))
def shortLT (x : Ln) : Bool := t3 x.who x.what x.on
def shortL (L : List Ln) : Bool := decide (L.length ≤ 40) && L.all shortLT
theorem shortL_drop (L : List Ln) (k : Nat) (h : k < L.length) : (L.drop k).all shortLT = (shortLT L[k] && (L.drop (k + 1)).all shortLT) := by
  rw [List.drop_eq_getElem_cons h, List.all_cons]
set_option maxRecDepth 100000 in
set_option maxHeartbeats 4000000 in
theorem short_log (A : Option Addr) (n cp : Nat) (L : List Ln) (w : World) (h : LAt lnC 6 w w.heap.size A n L) :
    Calls Try.prog 37 #[.slice A n cp] w fun e w' => e = .returned (.bool (shortL L)) ∧ Below w.heap.size w w' := by
  have hn := Lib.hid h.len
  have hfw : Hid (shortL L = (decide (L.length ≤ 40) && L.all shortLT)) := rfl
  rw [hn.out] at hfw
  replace h := Lib.hid h
  by_cases h1 : 40 < n
  · have hS : Hid (shortL L = false) := by show _ = _; rw [hfw.out]; simp [show ¬ n ≤ 40 by omega]
    have h1i : (40 : Int) < n := by omega
    go_enter Try.func37, Try.ntmps37
    go_wp2_with fail
    go_ret
    exact ⟨by rw [hS.out]; rfl, Below.refl _ _⟩
  have h1i : (n : Int) ≤ 40 := by omega
  have hfw : Hid (shortL L = L.all shortLT) := by show _ = _; rw [hfw.out]; simp [show n ≤ 40 by omega]
  go_enter Try.func37, Try.ntmps37
  go_wp2_with fail
  go_loopw [3] (fun i wr => ∃ k : Nat, k ≤ n ∧ i = .int .i64 k ∧ Hid (Below w.heap.size w wr) ∧ Hid (shortL L = (L.drop k).all shortLT)) (fun i _ => n - (intOf i).toNat)
  case atStart => exact ⟨0, Nat.zero_le _, rfl, Below.refl _ _, hfw.out⟩
  case round =>
    obtain ⟨k, hkn, rfl, hb, hx⟩ := hrel
    by_cases hlt : k < n
    · have hk0 : (0 : Int) ≤ k := by omega
      have hk1 : (k : Int) < n := by omega
      have hkl : k < L.length := by have := hn.out; omega
      have hst := Lib.hid (shortL_drop L k hkl)
      obtain ⟨ad, hA, hadb, e0, e1, e2, e3, e4, e5⟩ := ln_cells (h.out.below hb.out (Nat.le_refl _)) hlt
      subst hA
      generalize L[k] = y at *
      obtain ⟨sq, at_, wh, wt, on, sm⟩ := y
      by_cases g1 : wh.size ≤ 70
      · have g1i : (wh.size : Int) ≤ 70 := by omega
        by_cases g2 : wt.size ≤ 70
        · have g2i : (wt.size : Int) ≤ 70 := by omega
          by_cases g3 : on.size ≤ 70
          · have g3i : (on.size : Int) ≤ 70 := by omega
            have hN : Hid (shortL L = (L.drop (k + 1)).all shortLT) := by show _ = _; rw [hx.out, hst.out]; simp [shortLT, t3, g1, g2, g3]
            go_wp2_with fail
            go_roundw
            case rel => exact ⟨k + 1, by omega, by go_num, hb.out, hN.out⟩
            case measure => simp [intOf]; omega
          · have g3i : (70 : Int) < on.size := by omega
            have hS : Hid (shortL L = false) := by show _ = _; rw [hx.out, hst.out]; simp [shortLT, t3, g3]
            go_wp2_with fail
            go_ret
            exact ⟨by rw [hS.out]; rfl, hb.out⟩
        · have g2i : (70 : Int) < wt.size := by omega
          have g2d : decide ((70 : Int) < wt.size) = true := by simpa using g2i
          have hS : Hid (shortL L = false) := by show _ = _; rw [hx.out, hst.out]; simp [shortLT, t3, g2]
          go_wp2_with fail
          go_ret
          exact ⟨by rw [hS.out]; rfl, hb.out⟩
      · have g1i : (70 : Int) < wh.size := by omega
        have g1d : decide ((70 : Int) < wh.size) = true := by simpa using g1i
        have hS : Hid (shortL L = false) := by show _ = _; rw [hx.out, hst.out]; simp [shortLT, t3, g1]
        go_wp2_with fail
        go_ret
        exact ⟨by rw [hS.out]; rfl, hb.out⟩
    · have hS : Hid (shortL L = true) := by show _ = _; rw [hx.out, List.drop_eq_nil_of_le (by have := hn.out; omega)]; rfl
      go_wp2_with fail
      go_ret
      exact ⟨by rw [hS.out]; rfl, hb.out⟩
def ntC (x : Nt) : List Value := [.int .i64 x.at_, .string x.who, .string x.what, .string x.on]
theorem ntC_len (x : Nt) : (ntC x).length = 4 := rfl
theorem nt_cells {w : World} {B n k : Nat} {A : Option Addr} {L : List Nt} (h : LAt ntC 4 w B A n L) (hk : k < n) :
    ∃ ad, A = some ad ∧ ad.block < B ∧ w.cell? (ad.add (k * 4)) = some (Value.int .i64 (L[k]'(by rw [h.len]; exact hk)).at_) ∧ w.cell? ⟨(ad.add (k * 4)).block, (ad.add (k * 4)).off + 1, none⟩ = some (Value.string (L[k]'(by rw [h.len]; exact hk)).who) ∧ w.cell? ⟨(ad.add (k * 4)).block, (ad.add (k * 4)).off + 2, none⟩ = some (Value.string (L[k]'(by rw [h.len]; exact hk)).what) ∧ w.cell? ⟨(ad.add (k * 4)).block, (ad.add (k * 4)).off + 3, none⟩ = some (Value.string (L[k]'(by rw [h.len]; exact hk)).on) := by
  obtain ⟨ad, rfl, hb, hc⟩ := h.at_ hk
  have f := fun j u hj => (add_next ad (k * 4) j) ▸ hc (j + 1) u hj
  exact ⟨ad, rfl, hb, hc 0 _ rfl, f 0 _ rfl, f 1 _ rfl, f 2 _ rfl⟩
def briefLT (x : Nt) : Bool := t3 x.who x.what x.on
def briefL (L : List Nt) : Bool := decide (L.length ≤ 30) && L.all briefLT
theorem briefL_drop (L : List Nt) (k : Nat) (h : k < L.length) : (L.drop k).all briefLT = (briefLT L[k] && (L.drop (k + 1)).all briefLT) := by
  rw [List.drop_eq_getElem_cons h, List.all_cons]
set_option maxRecDepth 100000 in
set_option maxHeartbeats 4000000 in
theorem brief_any (A : Option Addr) (n cp : Nat) (L : List Nt) (w : World) (h : LAt ntC 4 w w.heap.size A n L) :
    Calls Try.prog 46 #[.slice A n cp] w fun e w' => e = .returned (.bool (briefL L)) ∧ Below w.heap.size w w' := by
  have hn := Lib.hid h.len
  have hfw : Hid (briefL L = (decide (L.length ≤ 30) && L.all briefLT)) := rfl
  rw [hn.out] at hfw
  replace h := Lib.hid h
  by_cases h1 : 30 < n
  · have hS : Hid (briefL L = false) := by show _ = _; rw [hfw.out]; simp [show ¬ n ≤ 30 by omega]
    have h1i : (30 : Int) < n := by omega
    go_enter Try.func46, Try.ntmps46
    go_wp2_with fail
    go_ret
    exact ⟨by rw [hS.out]; rfl, Below.refl _ _⟩
  have h1i : (n : Int) ≤ 30 := by omega
  have hfw : Hid (briefL L = L.all briefLT) := by show _ = _; rw [hfw.out]; simp [show n ≤ 30 by omega]
  go_enter Try.func46, Try.ntmps46
  go_wp2_with fail
  go_loopw [3] (fun i wr => ∃ k : Nat, k ≤ n ∧ i = .int .i64 k ∧ Hid (Below w.heap.size w wr) ∧ Hid (briefL L = (L.drop k).all briefLT)) (fun i _ => n - (intOf i).toNat)
  case atStart => exact ⟨0, Nat.zero_le _, rfl, Below.refl _ _, hfw.out⟩
  case round =>
    obtain ⟨k, hkn, rfl, hb, hx⟩ := hrel
    by_cases hlt : k < n
    · have hk0 : (0 : Int) ≤ k := by omega
      have hk1 : (k : Int) < n := by omega
      have hkl : k < L.length := by have := hn.out; omega
      have hst := Lib.hid (briefL_drop L k hkl)
      obtain ⟨ad, hA, hadb, e0, e1, e2, e3⟩ := nt_cells (h.out.below hb.out (Nat.le_refl _)) hlt
      subst hA
      generalize L[k] = y at *
      obtain ⟨at_, wh, wt, on⟩ := y
      by_cases g1 : wh.size ≤ 70
      · have g1i : (wh.size : Int) ≤ 70 := by omega
        by_cases g2 : wt.size ≤ 70
        · have g2i : (wt.size : Int) ≤ 70 := by omega
          by_cases g3 : on.size ≤ 70
          · have g3i : (on.size : Int) ≤ 70 := by omega
            have hN : Hid (briefL L = (L.drop (k + 1)).all briefLT) := by show _ = _; rw [hx.out, hst.out]; simp [briefLT, t3, g1, g2, g3]
            go_wp2_with fail
            go_roundw
            case rel => exact ⟨k + 1, by omega, by go_num, hb.out, hN.out⟩
            case measure => simp [intOf]; omega
          · have g3i : (70 : Int) < on.size := by omega
            have hS : Hid (briefL L = false) := by show _ = _; rw [hx.out, hst.out]; simp [briefLT, t3, g3]
            go_wp2_with fail
            go_ret
            exact ⟨by rw [hS.out]; rfl, hb.out⟩
        · have g2i : (70 : Int) < wt.size := by omega
          have g2d : decide ((70 : Int) < wt.size) = true := by simpa using g2i
          have hS : Hid (briefL L = false) := by show _ = _; rw [hx.out, hst.out]; simp [briefLT, t3, g2]
          go_wp2_with fail
          go_ret
          exact ⟨by rw [hS.out]; rfl, hb.out⟩
      · have g1i : (70 : Int) < wh.size := by omega
        have g1d : decide ((70 : Int) < wh.size) = true := by simpa using g1i
        have hS : Hid (briefL L = false) := by show _ = _; rw [hx.out, hst.out]; simp [briefLT, t3, g1]
        go_wp2_with fail
        go_ret
        exact ⟨by rw [hS.out]; rfl, hb.out⟩
    · have hS : Hid (briefL L = true) := by show _ = _; rw [hx.out, List.drop_eq_nil_of_le (by have := hn.out; omega)]; rfl
      go_wp2_with fail
      go_ret
      exact ⟨by rw [hS.out]; rfl, hb.out⟩
end Go.Proofs.Ytiggpgeldigknaa
