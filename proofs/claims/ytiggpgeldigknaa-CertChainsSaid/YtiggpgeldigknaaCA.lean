/- Certs: Valid of both. -/
import Derived.Test.YtiggpgeldigknaaLA
import Derived.Test.YtiggpgeldigknaaId
set_option linter.unusedVariables false
set_option linter.unusedSimpArgs false
namespace Go.Proofs.Ytiggpgeldigknaa
open Go.RowKit
structure Ct where
  serial : Int
  subj : ByteArray
  iss : ByteArray
  from_ : Int
  to_ : Int
  ca : Bool
  key : Int
  sl : Int
def ctC (c : Ct) : List Value := [Value.int .i64 c.serial, Value.string c.subj, Value.string c.iss, Value.int .i64 c.from_, Value.int .i64 c.to_, Value.bool c.ca, Value.int .u64 c.key, Value.int .u64 c.sl]
theorem ctC_len (c : Ct) : (ctC c).length = 8 := rfl
def serB (c : Ct) : Bool := decide (c.serial < 1) || decide (2147483647 < c.serial)
def spanB (c : Ct) : Bool := decide (c.from_ < 0) || decide (c.to_ < c.from_) || decide (268435456 < c.to_)
def validE (c : Ct) : Int := if serB c then 2 else if !nameB c.subj || !nameB c.iss then 4 else if spanB c then 2 else if c.key = 0 then 1 else 0
/-- the cells of a boxed certificate -/
structure CtAt (w : World) (g : Nat) (c : Ct) : Prop where
  c0 : w.cell? ⟨g, 0, none⟩ = some (Value.int .i64 c.serial)
  c1 : w.cell? ⟨g, 1, none⟩ = some (Value.string c.subj)
  c2 : w.cell? ⟨g, 2, none⟩ = some (Value.string c.iss)
  c3 : w.cell? ⟨g, 3, none⟩ = some (Value.int .i64 c.from_)
  c4 : w.cell? ⟨g, 4, none⟩ = some (Value.int .i64 c.to_)
  c5 : w.cell? ⟨g, 5, none⟩ = some (Value.bool c.ca)
  c6 : w.cell? ⟨g, 6, none⟩ = some (Value.int .u64 c.key)
  c7 : w.cell? ⟨g, 7, none⟩ = some (Value.int .u64 c.sl)
theorem ct_box (w : World) (c : Ct) : ∀ wz, Below (w.alloc (.cells #[Value.int .i64 c.serial, Value.string c.subj, Value.string c.iss, Value.int .i64 c.from_, Value.int .i64 c.to_, Value.bool c.ca, Value.int .u64 c.key, Value.int .u64 c.sl] 52)).heap.size (w.alloc (.cells #[Value.int .i64 c.serial, Value.string c.subj, Value.string c.iss, Value.int .i64 c.from_, Value.int .i64 c.to_, Value.bool c.ca, Value.int .u64 c.key, Value.int .u64 c.sl] 52)) wz → CtAt wz w.heap.size c := fun wz h => by
  have q := Blk.new w 52 #[Value.int .i64 c.serial, Value.string c.subj, Value.string c.iss, Value.int .i64 c.from_, Value.int .i64 c.to_, Value.bool c.ca, Value.int .u64 c.key, Value.int .u64 c.sl]
  have q0 := q.below h (lt_of_heap q)
  exact ⟨q0.cell 0, q0.cell 1, q0.cell 2, q0.cell 3, q0.cell 4, q0.cell 5, q0.cell 6, q0.cell 7⟩
set_option maxRecDepth 100000 in
set_option maxHeartbeats 8000000 in
theorem valid_any (c : Ct) (w : World) : Calls Try.prog 52 #[.agg (ctC c).toArray] w fun e w' => e = .returned (.int .i64 (validE c)) ∧ Below w.heap.size w w' := by
  have kz := Lib.hid (ct_box w c)
  have hb1 : Hid (Below w.heap.size w (w.alloc (.cells #[Value.int .i64 c.serial, Value.string c.subj, Value.string c.iss, Value.int .i64 c.from_, Value.int .i64 c.to_, Value.bool c.ca, Value.int .u64 c.key, Value.int .u64 c.sl] 52))) := a1 w _
  have hva : Hid (validE c = if serB c then 2 else if !nameB c.subj || !nameB c.iss then 4 else if spanB c then 2 else if c.key = 0 then 1 else 0) := rfl
  have hs : Hid (serB c = (decide (c.serial < 1) || decide (2147483647 < c.serial))) := rfl
  have hp : Hid (spanB c = (decide (c.from_ < 0) || decide (c.to_ < c.from_) || decide (268435456 < c.to_))) := rfl
  go_enter Try.func52, Try.ntmps52
  unfold ctC
  obtain ⟨k0, k1, k2, k3, k4, k5, k6, k7⟩ := kz.out _ (Below.refl _ _)
  by_cases hs1 : c.serial < 1
  · go_wp2_with fail
    go_ret
    exact ⟨by rw [hva.out, hs.out]; simp [hs1], hb1.out⟩
  by_cases hs2 : 2147483647 < c.serial
  · go_wp2_with fail
    go_ret
    exact ⟨by rw [hva.out, hs.out]; simp [hs2], hb1.out⟩
  have hs0 : Hid (serB c = false) := by show _ = _; rw [hs.out]; simp [hs1, hs2]
  go_wp2_with fail
  clear k0 k1 k2 k3 k4 k5 k6 k7
  have N1 := Lib.hid (name_any c.subj)
  have N2 := Lib.hid (name_any c.iss)
  refine (N1.out _).mono ?_; rintro e w2 ⟨rfl, hb2⟩
  replace hb2 := Lib.hid hb2
  obtain ⟨k0, k1, k2, k3, k4, k5, k6, k7⟩ := kz.out _ hb2.out
  have hbw2 : Hid (Below w.heap.size w w2) := below_a hb2.out
  generalize hn1 : nameB c.subj = n1
  generalize hn2 : nameB c.iss = n2
  rw [hn1, hn2] at hva
  clear hn1 N1 hs
  cases n1 with
  | false =>
    clear N2 hn2
    go_wp2_with fail
    go_ret
    exact ⟨by rw [hva.out, hs0.out]; rfl, hbw2.out⟩
  | true =>
    go_wp2_with fail
    clear k0 k1 k2 k3 k4 k5 k6 k7
    refine (N2.out _).mono ?_; rintro e w3 ⟨rfl, hb3⟩
    rw [hn2]
    clear hn2 N2
    replace hb3 := Lib.hid hb3
    have hb4 := Lib.hid (hb2.out.trans (hb3.out.mono hb2.out.size))
    obtain ⟨k0, k1, k2, k3, k4, k5, k6, k7⟩ := kz.out _ hb4.out
    have hbw3 : Hid (Below w.heap.size w w3) := below_a hb4.out
    cases n2 with
    | false =>
      go_wp2_with fail
      go_ret
      exact ⟨by rw [hva.out, hs0.out]; rfl, hbw3.out⟩
    | true =>
      by_cases hp1 : c.from_ < 0
      · go_wp2_with fail
        go_ret
        exact ⟨by rw [hva.out, hs0.out, hp.out]; simp [hp1], hbw3.out⟩
      by_cases hp2 : c.to_ < c.from_
      · go_wp2_with fail
        go_ret
        exact ⟨by rw [hva.out, hs0.out, hp.out]; simp [hp2], hbw3.out⟩
      by_cases hp3 : 268435456 < c.to_
      · go_wp2_with fail
        go_ret
        exact ⟨by rw [hva.out, hs0.out, hp.out]; simp [hp3], hbw3.out⟩
      have hp0 : Hid (spanB c = false) := by show _ = _; rw [hp.out]; simp [hp1, hp2, hp3]
      by_cases hk : c.key = 0
      · go_wp2_with fail
        go_ret
        exact ⟨by rw [hva.out, hs0.out, hp0.out]; simp [hk], hbw3.out⟩
      · go_wp2_with fail
        go_ret
        exact ⟨by rw [hva.out, hs0.out, hp0.out]; simp [hk], hbw3.out⟩
set_option maxRecDepth 100000 in
set_option maxHeartbeats 8000000 in
theorem rvalid_any (c : Ct) (w : World) : Calls Try.prog 53 #[.agg (ctC c).toArray] w fun e w' => e = .returned (.int .i64 (validE c)) ∧ Below w.heap.size w w' := by
  have kz := Lib.hid (ct_box w c)
  have hb1 : Hid (Below w.heap.size w (w.alloc (.cells #[Value.int .i64 c.serial, Value.string c.subj, Value.string c.iss, Value.int .i64 c.from_, Value.int .i64 c.to_, Value.bool c.ca, Value.int .u64 c.key, Value.int .u64 c.sl] 52))) := a1 w _
  have hva : Hid (validE c = if serB c then 2 else if !nameB c.subj || !nameB c.iss then 4 else if spanB c then 2 else if c.key = 0 then 1 else 0) := rfl
  have hs : Hid (serB c = (decide (c.serial < 1) || decide (2147483647 < c.serial))) := rfl
  have hp : Hid (spanB c = (decide (c.from_ < 0) || decide (c.to_ < c.from_) || decide (268435456 < c.to_))) := rfl
  go_enter Try.func53, Try.ntmps53
  unfold ctC
  obtain ⟨k0, k1, k2, k3, k4, k5, k6, k7⟩ := kz.out _ (Below.refl _ _)
  by_cases hs1 : c.serial < 1
  · go_wp2_with fail
    go_ret
    exact ⟨by rw [hva.out, hs.out]; simp [hs1], hb1.out⟩
  by_cases hs2 : 2147483647 < c.serial
  · go_wp2_with fail
    go_ret
    exact ⟨by rw [hva.out, hs.out]; simp [hs2], hb1.out⟩
  have hs0 : Hid (serB c = false) := by show _ = _; rw [hs.out]; simp [hs1, hs2]
  go_wp2_with fail
  clear k0 k1 k2 k3 k4 k5 k6 k7
  have N1 := Lib.hid (rname_any c.subj)
  have N2 := Lib.hid (rname_any c.iss)
  refine (N1.out _).mono ?_; rintro e w2 ⟨rfl, hb2⟩
  replace hb2 := Lib.hid hb2
  obtain ⟨k0, k1, k2, k3, k4, k5, k6, k7⟩ := kz.out _ hb2.out
  have hbw2 : Hid (Below w.heap.size w w2) := below_a hb2.out
  generalize hn1 : nameB c.subj = n1
  generalize hn2 : nameB c.iss = n2
  rw [hn1, hn2] at hva
  clear hn1 N1 hs
  cases n1 with
  | false =>
    clear N2 hn2
    go_wp2_with fail
    go_ret
    exact ⟨by rw [hva.out, hs0.out]; rfl, hbw2.out⟩
  | true =>
    go_wp2_with fail
    clear k0 k1 k2 k3 k4 k5 k6 k7
    refine (N2.out _).mono ?_; rintro e w3 ⟨rfl, hb3⟩
    rw [hn2]
    clear hn2 N2
    replace hb3 := Lib.hid hb3
    have hb4 := Lib.hid (hb2.out.trans (hb3.out.mono hb2.out.size))
    obtain ⟨k0, k1, k2, k3, k4, k5, k6, k7⟩ := kz.out _ hb4.out
    have hbw3 : Hid (Below w.heap.size w w3) := below_a hb4.out
    cases n2 with
    | false =>
      go_wp2_with fail
      go_ret
      exact ⟨by rw [hva.out, hs0.out]; rfl, hbw3.out⟩
    | true =>
      by_cases hp1 : c.from_ < 0
      · go_wp2_with fail
        go_ret
        exact ⟨by rw [hva.out, hs0.out, hp.out]; simp [hp1], hbw3.out⟩
      by_cases hp2 : c.to_ < c.from_
      · go_wp2_with fail
        go_ret
        exact ⟨by rw [hva.out, hs0.out, hp.out]; simp [hp2], hbw3.out⟩
      by_cases hp3 : 268435456 < c.to_
      · go_wp2_with fail
        go_ret
        exact ⟨by rw [hva.out, hs0.out, hp.out]; simp [hp3], hbw3.out⟩
      have hp0 : Hid (spanB c = false) := by show _ = _; rw [hp.out]; simp [hp1, hp2, hp3]
      by_cases hk : c.key = 0
      · go_wp2_with fail
        go_ret
        exact ⟨by rw [hva.out, hs0.out, hp0.out]; simp [hk], hbw3.out⟩
      · go_wp2_with fail
        go_ret
        exact ⟨by rw [hva.out, hs0.out, hp0.out]; simp [hk], hbw3.out⟩
end Go.Proofs.Ytiggpgeldigknaa
