/- Readings, walked. -/
import Derived.Test.YtbngclibfnnejaaDoorBD
set_option linter.unusedVariables false
set_option linter.unusedSimpArgs false
namespace Go.Proofs.YtbngclibfnnejaaDoor
open Go.RowKit
structure Rd where
  at_ : Int
  reg : Int
def rdC (x : Rd) : List Value := [Value.int .i64 x.at_, Value.int .i64 x.reg]
theorem rdC_len (x : Rd) : (rdC x).length = 2 := rfl
theorem rdC_one (l : List Rd) : ∀ u ∈ flat rdC l, u.oneCell' = true := by
  intro u hu
  simp only [flat, List.mem_flatMap] at hu
  obtain ⟨x, -, hx⟩ := hu
  simp only [rdC, List.mem_cons, List.not_mem_nil, or_false] at hx
  rcases hx with rfl | rfl <;> rfl
abbrev RdAt (w : World) (A : Option Addr) (n : Nat) (l : List Rd) : Prop := LAt rdC 2 w w.heap.size A n l
theorem rd_cells {w : World} {B n k : Nat} {A : Option Addr} {L : List Rd} (h : LAt rdC 2 w B A n L) (hk : k < n) :
    ∃ ad, A = some ad ∧ ad.block < B ∧ w.cell? (ad.add (k * 2)) = some (Value.int .i64 (L[k]'(by rw [h.len]; exact hk)).at_) ∧ w.cell? ⟨(ad.add (k * 2)).block, (ad.add (k * 2)).off + 1, none⟩ = some (Value.int .i64 (L[k]'(by rw [h.len]; exact hk)).reg) := by
  obtain ⟨ad, rfl, hb, hc⟩ := h.at_ hk
  have g := fun j u hj => (add_next ad (k * 2) j) ▸ hc (j + 1) u hj
  exact ⟨ad, rfl, hb, hc 0 _ rfl, g 0 _ rfl⟩
def okR (x : Rd) : Bool := decide (0 ≤ x.at_) && decide (x.at_ ≤ 268435456) && decide (0 ≤ x.reg) && decide (x.reg < 1000000)
def vGo : Option Int → List Rd → Int
  | _, [] => 0
  | p, x :: r => if okR x = false then 2 else if (p.any fun q => decide (x.at_ ≤ q)) = true then 1 else vGo (some x.at_) r
def deltaR (a b : Int) : Int := (b - a + 1000000) % 1000000
set_option maxRecDepth 100000 in
set_option maxHeartbeats 4000000 in
theorem delta_any (a b : Int) (w : World) (h0 : 0 ≤ a) (h1 : a < 1000000) (h2 : 0 ≤ b) (h3 : b < 1000000) : Calls Tryd.prog 21 #[.int .i64 a, .int .i64 b, .int .i64 1000000] w fun e w' => e = .returned (.tuple #[.int .i64 (deltaR a b), .int .i64 0]) ∧ w' = w := by
  have d0 : decide (a < 0) = false := by simp; omega
  have d1 : decide (1000000 ≤ a) = false := by simp; omega
  have d2 : decide (b < 0) = false := by simp; omega
  have d3 : decide (1000000 ≤ b) = false := by simp; omega
  have e1 : (b - a + 1000000).tmod 1000000 = (b - a + 1000000) % 1000000 := Int.tmod_eq_emod_of_nonneg (by omega)
  have hr : 0 ≤ (b - a + 1000000) % 1000000 ∧ (b - a + 1000000) % 1000000 < 1000000 := by omega
  have hD : Hid (deltaR a b = (b - a + 1000000) % 1000000) := rfl
  generalize (b - a + 1000000) % 1000000 = R at *
  obtain ⟨hr1, hr2⟩ := hr
  have k1 : -1000000 ≤ b - a := by omega
  have k2 : b - a ≤ 1000000 := by omega
  go_enter Tryd.func21, Tryd.ntmps21
  go_wp2_with fail
  exact bodyPost_ret (v := .tuple #[.int .i64 R, .int .i64 0]) (by simp [results, Tryd.results21, go_sem]) rfl ⟨by rw [hD.out], rfl⟩
set_option maxRecDepth 100000 in
set_option maxHeartbeats 4000000 in
theorem uvalid_any (A : Option Addr) (n c : Nat) (L : List Rd) (w : World) (h : RdAt w A n L) (hn1 : 1 ≤ n) (hn : n ≤ 60) : Calls Tryd.prog 4 #[.slice A n c, .int .i64 1000000] w fun e w' => e = .returned (.int .i64 (vGo none L)) ∧ Below w.heap.size w w' := by
  have hl := Lib.hid h.len
  replace h := Lib.hid h
  have d0 : ((n : Int) == 0) = false := by simp; omega
  have d1 : decide ((1024 : Int) < n) = false := by simp; omega
  go_enter Tryd.func4, Tryd.ntmps4
  go_wp2_with fail
  clear d0 d1
  go_loopw [21] (fun i wr => ∃ k : Nat, k ≤ n ∧ i = .int .i64 k ∧ Hid (vGo none L = vGo (if k = 0 then none else L[k - 1]?.map (·.at_)) (L.drop k)) ∧ Hid (Below w.heap.size w wr)) (fun i _ => n - (intOf i).toNat)
  case atStart => exact ⟨0, Nat.zero_le _, rfl, rfl, Below.refl _ _⟩
  case round =>
    obtain ⟨k, hkn, rfl, hx, hb⟩ := hrel
    by_cases hlt : k < n
    · have hkl : k < L.length := by have := hl.out; omega
      have hk0 : (0 : Int) ≤ k := by omega
      have hk1 : (k : Int) < n := by omega
      obtain ⟨ad, hA, -, e0, e1⟩ := rd_cells (h.out.below hb.out (Nat.le_refl _)) hlt
      have hst : Hid (vGo none L = vGo (if k = 0 then none else L[k - 1]?.map (·.at_)) (L[k] :: L.drop (k + 1))) := by show _ = _; rw [hx.out, List.drop_eq_getElem_cons hkl]
      have hnx : Hid ((if k + 1 = 0 then none else L[k + 1 - 1]?.map (·.at_)) = some L[k].at_) := by show _ = _; rw [if_neg (by omega), Nat.add_sub_cancel, List.getElem?_eq_getElem hkl]; rfl
      generalize L[k] = x at *
      subst hA
      have hb2 : Hid (Below w.heap.size w (wr.alloc (.cells #[Value.int .i64 x.at_, Value.int .i64 x.reg] 26))) := hb.out.alloc hb.out.size _
      have hN := Lib.hid (Blk.new wr 26 #[Value.int .i64 x.at_, Value.int .i64 x.reg])
      have m0 : ((wr.alloc (.cells #[Value.int .i64 x.at_, Value.int .i64 x.reg] 26))).cell? ⟨wr.heap.size, 0, none⟩ = some (Value.int .i64 x.at_) := (hN.out).cell 0; have m1 : ((wr.alloc (.cells #[Value.int .i64 x.at_, Value.int .i64 x.reg] 26))).cell? ⟨wr.heap.size, 1, none⟩ = some (Value.int .i64 x.reg) := (hN.out).cell 1
      by_cases q1 : okR x = true
      · have q1' : 0 ≤ x.at_ ∧ x.at_ ≤ 268435456 ∧ 0 ≤ x.reg ∧ x.reg < 1000000 := by unfold okR at q1; simp at q1; omega
        obtain ⟨r1, r2, r3, r4⟩ := q1'
        have d1 : decide (x.at_ < 0) = false := by simp; omega
        have d2 : decide (268435456 < x.at_) = false := by simp; omega
        have d3 : decide (x.reg < 0) = false := by simp; omega
        have d4 : decide (1000000 ≤ x.reg) = false := by simp; omega
        rcases Nat.eq_zero_or_pos k with hk | hk
        · have dk : decide ((0 : Int) < k) = false := by simp; omega
          have dk2 : decide (0 < k) = false := by simp; omega
          have dk3 : (0 : Int) < k ↔ False := by simp; omega
          have hF : Hid (vGo none L = vGo (if k + 1 = 0 then none else L[k + 1 - 1]?.map (·.at_)) (L.drop (k + 1))) := by show _ = _; rw [hst.out, hnx.out, if_pos hk]; simp [vGo, q1]
          replace q1 := Lib.hid q1
          replace hk := Lib.hid hk
          go_wp2_with fail
          go_quiet (fail)
          go_wp2_with fail
          go_roundw
          case rel => exact ⟨k + 1, by omega, by go_num, hF.out, below_drewN hb2.out _⟩
          case measure => simp [intOf]; omega
        · obtain ⟨j, rfl⟩ : ∃ j, k = j + 1 := ⟨k - 1, by omega⟩
          obtain ⟨ad2, hA2, -, p0, p1⟩ := rd_cells (h.out.below hb2.out (Nat.le_refl _)) (show j < n by omega)
          have hjl : j < L.length := by omega
          have hpv : Hid ((if j + 1 = 0 then none else L[j + 1 - 1]?.map (·.at_)) = some L[j].at_) := by show _ = _; rw [if_neg (by omega), Nat.add_sub_cancel, List.getElem?_eq_getElem hjl]; rfl
          generalize L[j] = y at *
          injection hA2 with hA2
          subst hA2
          by_cases q2 : x.at_ ≤ y.at_
          · have d5 : decide (x.at_ ≤ y.at_) = true := by simpa using q2
            have hF : Hid (vGo none L = 1) := by show _ = _; rw [hst.out, hpv.out]; simp [vGo, q1, q2]
            replace q1 := Lib.hid q1
            replace q2 := Lib.hid q2
            go_wp2_with fail
            go_quiet (fail)
            go_wp2_with fail
            go_ret
            exact ⟨by rw [hF.out]; rfl, below_drewN hb2.out _⟩
          · have d5 : decide (x.at_ ≤ y.at_) = false := by simpa using q2
            have hF : Hid (vGo none L = vGo (if j + 1 + 1 = 0 then none else L[j + 1 + 1 - 1]?.map (·.at_)) (L.drop (j + 1 + 1))) := by show _ = _; rw [hst.out, hpv.out, hnx.out]; simp [vGo, q1, q2]
            replace q1 := Lib.hid q1
            replace q2 := Lib.hid q2
            go_wp2_with fail
            go_quiet (fail)
            go_wp2_with fail
            go_roundw
            case rel => exact ⟨j + 1 + 1, by omega, by go_num, hF.out, below_drewN hb2.out _⟩
            case measure => simp [intOf]; omega
      · have hF : Hid (vGo none L = 2) := by show _ = _; rw [hst.out]; simp [vGo, q1]
        have q2 : x.at_ < 0 ∨ (¬ x.at_ < 0 ∧ 268435456 < x.at_) ∨ (¬ x.at_ < 0 ∧ ¬ 268435456 < x.at_ ∧ x.reg < 0) ∨ (¬ x.at_ < 0 ∧ ¬ 268435456 < x.at_ ∧ ¬ x.reg < 0 ∧ 1000000 ≤ x.reg) := by unfold okR at q1; simp at q1; omega
        replace q1 := Lib.hid q1
        rcases q2 with q2 | ⟨r1, q2⟩ | ⟨r1, r2, q2⟩ | ⟨r1, r2, r3, q2⟩
        · have b9 : decide (x.at_ < 0) = true := by simpa using q2
          replace q2 := Lib.hid q2
          go_wp2_with fail
          go_ret
          exact ⟨by rw [hF.out]; rfl, hb2.out⟩
        · have b0 : decide (x.at_ < 0) = false := by simpa using r1
          have b9 : decide (268435456 < x.at_) = true := by simpa using q2
          replace q2 := Lib.hid q2
          replace r1 := Lib.hid r1
          go_wp2_with fail
          go_ret
          exact ⟨by rw [hF.out]; rfl, hb2.out⟩
        · have b0 : decide (x.at_ < 0) = false := by simpa using r1
          have b1 : decide (268435456 < x.at_) = false := by simpa using r2
          have b9 : decide (x.reg < 0) = true := by simpa using q2
          replace q2 := Lib.hid q2
          replace r1 := Lib.hid r1
          replace r2 := Lib.hid r2
          go_wp2_with fail
          go_ret
          exact ⟨by rw [hF.out]; rfl, hb2.out⟩
        · have b0 : decide (x.at_ < 0) = false := by simpa using r1
          have b1 : decide (268435456 < x.at_) = false := by simpa using r2
          have b2 : decide (x.reg < 0) = false := by simpa using r3
          have b9 : decide (1000000 ≤ x.reg) = true := by simpa using q2
          replace q2 := Lib.hid q2
          replace r1 := Lib.hid r1
          replace r2 := Lib.hid r2
          replace r3 := Lib.hid r3
          go_wp2_with fail
          go_ret
          exact ⟨by rw [hF.out]; rfl, hb2.out⟩
    · have hF : Hid (vGo none L = 0) := by show _ = _; rw [hx.out, List.drop_eq_nil_of_le (by have := hl.out; omega)]; unfold vGo; rfl
      go_wp2_with fail
      go_ret
      exact ⟨by rw [hF.out]; rfl, hb.out⟩
end Go.Proofs.YtbngclibfnnejaaDoor
