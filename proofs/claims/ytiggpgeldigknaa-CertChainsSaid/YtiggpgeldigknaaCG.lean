/- Certs: is a number in a list. -/
import Derived.Test.YtiggpgeldigknaaCF
set_option linter.unusedVariables false
set_option linter.unusedSimpArgs false
namespace Go.Proofs.Ytiggpgeldigknaa
open Go.RowKit
def iC (n : Int) : List Value := [.int .i64 n]
theorem iC_len (n : Int) : (iC n).length = 1 := rfl
def hasI (l : List Int) (x : Int) : Bool := l.any fun y => y == x
theorem hasI_drop (l : List Int) (x : Int) (k : Nat) (h : k < l.length) : hasI (l.drop k) x = ((l[k] == x) || hasI (l.drop (k + 1)) x) := by
  unfold hasI
  rw [List.drop_eq_getElem_cons h, List.any_cons]
theorem i_cell {w : World} {B : Nat} {A : Option Addr} {n : Nat} {l : List Int} (h : LAt iC 1 w B A n l) {k : Nat} (hk : k < n) : ∃ ad, A = some ad ∧ w.cell? (ad.add k) = some (.int .i64 (l[k]'(by rw [h.len]; exact hk))) := by
  obtain ⟨ad, hA, hb, hc⟩ := h.at_ hk
  refine ⟨ad, hA, ?_⟩
  have := hc 0 _ rfl
  simpa using this
set_option maxRecDepth 100000 in
set_option maxHeartbeats 2000000 in
theorem rhas_any (A : Option Addr) (l : List Int) (n cap : Nat) (x : Int) (w : World) (h : LAt iC 1 w w.heap.size A n l) (hn63 : n ≤ 1000) :
    Calls Try.prog 90 #[.slice A n cap, .int .i64 x] w fun e w' => e = .returned (.bool (hasI l x)) ∧ Below w.heap.size w w' := by
  have hn := Lib.hid h.len
  replace h := Lib.hid h
  go_enter Try.func90, Try.ntmps90
  go_wp2_with fail
  go_loopw [5] (fun i wr => ∃ k : Nat, k ≤ n ∧ i = .int .i64 k ∧ Hid (Below w.heap.size w wr) ∧ Hid (hasI l x = hasI (l.drop k) x)) (fun i _ => n - (intOf i).toNat)
  case atStart => exact ⟨0, Nat.zero_le _, rfl, Below.refl _ _, rfl⟩
  case round =>
    obtain ⟨k, hkn, rfl, hb, hx⟩ := hrel
    by_cases hlt : k < n
    · have hk0 : (0 : Int) ≤ k := by omega
      have hk1 : (k : Int) < n := by omega
      have hkl : k < l.length := by have := hn.out; omega
      have hdr := Lib.hid (hasI_drop l x k (by have := hn.out; omega))
      obtain ⟨ad, hA, e0⟩ := i_cell (h.out.below hb.out (Nat.le_refl _)) hlt
      subst hA
      generalize l[k] = y at *
      by_cases hyx : y = x
      · subst hyx
        go_wp2_with fail
        go_ret
        exact ⟨by rw [hx.out, hdr.out]; simp, hb.out⟩
      · go_wp2_with fail
        go_roundw
        case rel => exact ⟨k + 1, by omega, by go_num, hb.out, by show _ = _; rw [hx.out, hdr.out]; simp [hyx]⟩
        case measure => simp [intOf]; omega
    · have hF : Hid (hasI l x = false) := by show _ = _; rw [hx.out, List.drop_eq_nil_of_le (by have := hn.out; omega)]; rfl
      go_wp2_with fail
      go_ret
      exact ⟨by rw [hF.out]; rfl, hb.out⟩
set_option maxRecDepth 100000 in
set_option maxHeartbeats 2000000 in
theorem idx_any (A : Option Addr) (l : List Int) (n cap : Nat) (x : Int) (w : World) (h : LAt iC 1 w w.heap.size A n l) (hn63 : n ≤ 1000) :
    Calls Try.prog 103 #[.slice A n cap, .int .i64 x] w fun e w' => (∃ r : Int, e = .returned (.int .i64 r) ∧ decide (0 ≤ r) = hasI l x) ∧ Below w.heap.size w w' := by
  have hn := Lib.hid h.len
  replace h := Lib.hid h
  go_enter Try.func103, Try.ntmps103
  go_wp2_with fail
  go_loopw [8] (fun i wr => ∃ k : Nat, k ≤ n ∧ i = .int .i64 k ∧ Hid (Below w.heap.size w wr) ∧ Hid (hasI l x = hasI (l.drop k) x)) (fun i _ => n - (intOf i).toNat)
  case atStart => exact ⟨0, Nat.zero_le _, rfl, Below.refl _ _, rfl⟩
  case round =>
    obtain ⟨k, hkn, rfl, hb, hx⟩ := hrel
    by_cases hlt : k < n
    · have hk0 : (0 : Int) ≤ k := by omega
      have hk1 : (k : Int) < n := by omega
      have hkl : k < l.length := by have := hn.out; omega
      have hdr := Lib.hid (hasI_drop l x k (by have := hn.out; omega))
      obtain ⟨ad, hA, e0⟩ := i_cell (h.out.below hb.out (Nat.le_refl _)) hlt
      subst hA
      generalize l[k] = y at *
      by_cases hyx : x = y
      · subst hyx
        go_wp2_with fail
        go_ret
        exact ⟨⟨k, rfl, by rw [hx.out, hdr.out]; simp⟩, hb.out⟩
      · have hyx2 : ¬ y = x := fun e => hyx e.symm
        go_wp2_with fail
        go_roundw
        case rel => exact ⟨k + 1, by omega, by go_num, hb.out, by show _ = _; rw [hx.out, hdr.out]; simp [hyx2]⟩
        case measure => simp [intOf]; omega
    · have hF : Hid (hasI l x = false) := by show _ = _; rw [hx.out, List.drop_eq_nil_of_le (by have := hn.out; omega)]; rfl
      go_wp2_with fail
      go_ret
      exact ⟨⟨-1, rfl, by rw [hF.out]; rfl⟩, hb.out⟩
set_option maxRecDepth 100000 in
set_option maxHeartbeats 2000000 in
theorem has_any (A : Option Addr) (l : List Int) (n cap : Nat) (x : Int) (w : World) (h : LAt iC 1 w w.heap.size A n l) (hn63 : n ≤ 1000) :
    Calls Try.prog 88 #[.slice A n cap, .int .i64 x] w fun e w' => e = .returned (.bool (hasI l x)) ∧ Below w.heap.size w w' := by
  have hc := Lib.hid (idx_any A l n cap x w h hn63)
  go_enter Try.func88, Try.ntmps88
  go_wp2_with fail
  refine hc.out.mono ?_; rintro e w2 ⟨⟨r, rfl, hr⟩, hb⟩
  replace hr := Lib.hid hr
  replace hb := Lib.hid hb
  go_wp2_with fail
  go_ret
  exact ⟨by rw [← hr.out]; rfl, hb.out⟩
end Go.Proofs.Ytiggpgeldigknaa
