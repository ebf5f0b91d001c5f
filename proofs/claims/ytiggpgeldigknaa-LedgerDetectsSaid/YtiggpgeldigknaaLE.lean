/- Ledger: Right, the reference's Verify. -/
import Derived.Test.YtiggpgeldigknaaLD
set_option linter.unusedVariables false
set_option linter.unusedSimpArgs false
namespace Go.Proofs.Ytiggpgeldigknaa
open Go.RowKit
def F78 (g : Nat) (X : Array Value) (k sq at_ sm ps pf hv : Int) (b1 b2 b3 b4 b5 c2 c3 c4 c5 : Bool) : Tmp → Value → World → Prop
  | 1, v, _ => v = .int .i64 k
  | 4, v, _ => v = .bool c5
  | 5, v, _ => v = .pointer (some ⟨g, 0, none⟩)
  | 6, v, _ => v = .int .u64 ps
  | 7, v, _ => v = .int .i64 pf
  | 26, v, _ => v = .pointer (some ⟨g, 0, none⟩)
  | 27, v, _ => v = .int .i64 sq
  | 28, v, _ => v = .int .i64 k
  | 29, v, _ => v = .int .i64 (k + 1)
  | 30, v, _ => v = .bool b1
  | 31, v, _ => v = .bool b1
  | 32, v, _ => b1 = true → v = .pointer (some ⟨g, 1, none⟩)
  | 33, v, _ => b1 = true → v = .int .i64 at_
  | 34, v, _ => b1 = true → v = .bool b2
  | 35, v, _ => v = .bool c2
  | 36, v, _ => v = .bool c2
  | 37, v, _ => c2 = true → v = .pointer (some ⟨g, 1, none⟩)
  | 38, v, _ => c2 = true → v = .int .i64 at_
  | 39, v, _ => c2 = true → v = .int .i64 pf
  | 40, v, _ => c2 = true → v = .bool b3
  | 41, v, _ => v = .bool c3
  | 42, v, _ => v = .bool c3
  | 43, v, _ => c3 = true → v = .pointer (some ⟨g, 1, none⟩)
  | 44, v, _ => c3 = true → v = .int .i64 at_
  | 45, v, _ => c3 = true → v = .bool b4
  | 46, v, _ => v = .bool c4
  | 47, v, _ => v = .bool c4
  | 48, v, _ => c4 = true → v = .pointer (some ⟨g, 5, none⟩)
  | 49, v, _ => c4 = true → v = .int .u64 sm
  | 50, v, _ => c4 = true → v = .int .u64 ps
  | 51, v, _ => c4 = true → v = .agg X
  | 52, v, _ => c4 = true → v = .int .u64 hv
  | 53, v, _ => c4 = true → v = .bool b5
  | 54, v, _ => v = .bool c5
  | _, _, _ => True
theorem F78_more {g : Nat} {X : Array Value} {k sq at_ sm ps pf hv : Int} {b1 b2 b3 b4 b5 c2 c3 c4 c5 : Bool} (d t : Tmp) (v : Value) (w w' : World) (hR : Rb w w') (hne : t ≠ d) (hc : ([] : List (Tmp × Tmp)).contains (d, t) = false) (h : F78 g X k sq at_ sm ps pf hv b1 b2 b3 b4 b5 c2 c3 c4 c5 t v w) : F78 g X k sq at_ sm ps pf hv b1 b2 b3 b4 b5 c2 c3 c4 c5 t v w' := by
  unfold F78 at *
  split at h <;> first | exact h
theorem conj5 (a b c d e : Bool) : (a && (c && (b && (d && e)))) = ((((a && b) && c) && d) && e) := by cases a <;> cases b <;> cases c <;> cases d <;> rfl
def prevL (L : List Ln) (k : Nat) : Ln := if k = 0 then noLn else L.getD (k - 1) noLn
set_option maxRecDepth 100000 in
set_option maxHeartbeats 4000000 in
theorem right_any (A : Option Addr) (n cp k : Nat) (L : List Ln) (w : World) (h : LAt lnC 6 w w.heap.size A n L) (hk : k < n) (hkl : k < L.length) (hok : LnOk L[k]) (hmx : n ≤ 100000) :
    Calls Try.prog 78 #[.slice A n cp, .int .i64 k] w fun e w' => e = .returned (.bool (rightX (prevL L k) k L[k])) ∧ Below w.heap.size w w' := by
  have hn := Lib.hid h.len
  have hk0 : (0 : Int) ≤ k := by omega
  have hk1 : (k : Int) < n := by omega
  obtain ⟨ad, hA, hadb, e0, e1, e2, e3, e4, e5⟩ := ln_cells h hk
  replace h := Lib.hid h
  subst hA
  generalize hx : L[k] = x at *
  obtain ⟨sq, at_, wh, wt, on, sm⟩ := x
  replace hok := Lib.hid hok
  have px := Lib.hid (Blk.new w 67 #[Value.int .i64 sq, Value.int .i64 at_, Value.string wh, Value.string wt, Value.string on, Value.int .u64 sm])
  have hb := Lib.hid (a1 w (.cells #[Value.int .i64 sq, Value.int .i64 at_, Value.string wh, Value.string wt, Value.string on, Value.int .u64 sm] 67))
  by_cases hz : k = 0
  · have hkp : ¬ (0 : Int) < (k : Int) := by omega
    rw [show prevL L k = noLn by unfold prevL; rw [if_pos hz]]
    replace hz := Lib.hid hz
    go_enter Try.func78, Try.ntmps78
    go_wp2_with fail
    generalize hwc : w.alloc (.cells #[Value.int .i64 sq, Value.int .i64 at_, Value.string wh, Value.string wt, Value.string on, Value.int .u64 sm] 67) = wc at px hb ⊢
    replace hwc := Lib.hid hwc
    clear e0 e1 e2 e3 e4 e5
    have hhash : Hid (∀ w, Calls Try.prog 49 #[.int .u64 0, .agg #[Value.int .i64 sq, Value.int .i64 at_, Value.string wh, Value.string wt, Value.string on, Value.int .u64 sm]] w fun e w' => e = .returned (.int .u64 (hashL 0 ⟨sq, at_, wh, wt, on, sm⟩)) ∧ Below w.heap.size w w') := fun w => rhash_any 0 ⟨sq, at_, wh, wt, on, sm⟩ w hok.out
    have hres : Hid (rightX noLn k ⟨sq, at_, wh, wt, on, sm⟩ = ((((sq == (k : Int) + 1) && decide (0 ≤ at_)) && decide (0 ≤ at_)) && decide (at_ ≤ 268435456) && (sm == hashL 0 ⟨sq, at_, wh, wt, on, sm⟩))) := by
      show _ = _
      have hq : rightX noLn k ⟨sq, at_, wh, wt, on, sm⟩ = (decide (sq = (k : Int) + 1) && (decide (0 ≤ at_) && (decide (0 ≤ at_) && (decide (at_ ≤ 268435456) && decide (sm = hashL 0 ⟨sq, at_, wh, wt, on, sm⟩))))) := rfl
      rw [hq, conj5]
      simp only [Bool.beq_eq_decide_eq]
    generalize hashL 0 ⟨sq, at_, wh, wt, on, sm⟩ = hv at hhash hres
    obtain ⟨b1, hb1⟩ : ∃ b, (sq == (k : Int) + 1) = b := ⟨_, rfl⟩
    obtain ⟨b2, hb2⟩ : ∃ b, decide (0 ≤ at_) = b := ⟨_, rfl⟩
    obtain ⟨b3, hb3⟩ : ∃ b, decide (0 ≤ at_) = b := ⟨_, rfl⟩
    obtain ⟨b4, hb4⟩ : ∃ b, decide (at_ ≤ 268435456) = b := ⟨_, rfl⟩
    obtain ⟨b5, hb5⟩ : ∃ b, (sm == hv) = b := ⟨_, rfl⟩
    obtain ⟨c2, hc2⟩ : ∃ c, c = (b1 && b2) := ⟨_, rfl⟩
    obtain ⟨c3, hc3⟩ : ∃ c, c = (c2 && b3) := ⟨_, rfl⟩
    obtain ⟨c4, hc4⟩ : ∃ c, c = (c3 && b4) := ⟨_, rfl⟩
    obtain ⟨c5, hc5⟩ : ∃ c, c = (c4 && b5) := ⟨_, rfl⟩
    replace hres : Hid (rightX noLn k ⟨sq, at_, wh, wt, on, sm⟩ = c5) := by show _ = _; rw [hres.out, hc5, hc4, hc3, hc2, ← hb1, ← hb2, ← hb3, ← hb4, ← hb5]
    replace hc2 := Lib.hid hc2
    replace hc3 := Lib.hid hc3
    replace hc4 := Lib.hid hc4
    replace hc5 := Lib.hid hc5
    replace hb1 := Lib.hid hb1
    replace hb2 := Lib.hid hb2
    replace hb3 := Lib.hid hb3
    replace hb4 := Lib.hid hb4
    replace hb5 := Lib.hid hb5
    have hcell : Hid (∀ wz, Below wc.heap.size wc wz → wz.cell? ⟨w.heap.size, 0, none⟩ = some (Value.int .i64 sq) ∧ wz.cell? ⟨w.heap.size, 1, none⟩ = some (Value.int .i64 at_) ∧ wz.cell? ⟨w.heap.size, 2, none⟩ = some (Value.string wh) ∧ wz.cell? ⟨w.heap.size, 3, none⟩ = some (Value.string wt) ∧ wz.cell? ⟨w.heap.size, 4, none⟩ = some (Value.string on) ∧ wz.cell? ⟨w.heap.size, 5, none⟩ = some (Value.int .u64 sm)) := fun wz h => by
      have q := px.out.below h px.out.lt
      exact ⟨q.cell 0, q.cell 1, q.cell 2, q.cell 3, q.cell 4, q.cell 5⟩
    refine RM.region [] [] (F := F78 w.heap.size #[Value.int .i64 sq, Value.int .i64 at_, Value.string wh, Value.string wt, Value.string on, Value.int .u64 sm] k sq at_ sm 0 0 hv b1 b2 b3 b4 b5 c2 c3 c4 c5) (W := fun wz => Below wc.heap.size wc wz) (R := fun _ => Rb) (S := noS) (G := noG) rfl F78_more (fun _ _ _ _ _ _ _ => trivial) (fun _ _ _ _ _ h => h.elim) (fun _ _ _ _ _ h => h.elim) (by kernel_rfl) (by kernel_rfl) (by kernel_rfl) (by kernel_rfl) (by kernel_rfl) ?_ ?_ ?_ (by kernel_rfl) ?_
    · exact (Below.refl _ _).drew
    · intro t ht
      unfold F78
      split <;> first | trivial | exact rfl | (exact absurd ht (by decide))
    · simp only [List.forall_mem_cons, List.not_mem_nil, false_implies, implies_true, and_true]
      refine ⟨?_, ?_, ?_, ?_, ?_, ?_, ?_, ?_, ?_, ?_, ?_, ?_, ?_, ?_, ?_, ?_, ?_, ?_, ?_, ?_, ?_, ?_, ?_, ?_, ?_, ?_, ?_, ?_, ?_, ?_⟩
      · intro a w2 hw _ hf K hK
        have f0 := hf 5 rfl
        simp only [F78] at f0
        clear hf
        go_simp
        exact hK _ _ _ rfl rfl hw (Below.refl _ _) (fun h => absurd h (by decide))
      · intro a w2 hw _ hf K hK
        have f0 := hf 26 rfl
        simp only [F78] at f0
        clear hf
        obtain ⟨k0, k1, k2, k3, k4, k5⟩ := hcell.out w2 hw
        go_simp
        exact hK _ _ _ rfl rfl hw (Below.refl _ _) (fun h => absurd h (by decide))
      · intro a w2 hw _ hf K hK
        have f0 := hf 1 rfl
        simp only [F78] at f0
        clear hf
        go_simp
        exact hK _ _ _ rfl rfl hw (Below.refl _ _) (fun h => absurd h (by decide))
      · intro a w2 hw _ hf K hK
        have f0 := hf 28 rfl
        simp only [F78] at f0
        clear hf
        go_simp
        exact hK _ _ _ rfl (by show _ = _; rw [IntWalk.i64_in _ (by omega)]) hw (Below.refl _ _) (fun h => absurd h (by decide))
      · intro a w2 hw _ hf K hK
        have f0 := hf 27 rfl
        have f1 := hf 29 rfl
        simp only [F78] at f0 f1
        clear hf
        go_simp
        exact hK _ _ _ rfl (congrArg Value.bool hb1.out) hw (Below.refl _ _) (fun h => absurd h (by decide))
      · intro a w2 hw _ hf K hK
        have f0 := hf 30 rfl
        simp only [F78] at f0
        clear hf
        go_simp
        exact hK _ _ _ rfl rfl hw (Below.refl _ _) (fun h => absurd h (by decide))
      · refine ⟨?_, ?_⟩
        · intro a w2 hw hg hf K hK
          have f0 := hf 5 rfl
          simp only [F78] at f0
          simp only [F78] at hg
          have hg := (Value.bool.inj hg).symm
          clear hf
          go_simp
          exact hK _ _ _ rfl (fun _ => rfl) hw (Below.refl _ _) (fun h => absurd h (by decide))
        · intro v w _ hv hne; simp only [F78] at hv ⊢; intro h; exact absurd (hv.trans (by rw [h])) hne
      · refine ⟨?_, ?_⟩
        · intro a w2 hw hg hf K hK
          have f0 := hf 32 rfl
          simp only [F78] at f0
          simp only [F78] at hg
          have hg := (Value.bool.inj hg).symm
          clear hf
          have f0 := f0 hg
          obtain ⟨k0, k1, k2, k3, k4, k5⟩ := hcell.out w2 hw
          go_simp
          exact hK _ _ _ rfl (fun _ => rfl) hw (Below.refl _ _) (fun h => absurd h (by decide))
        · intro v w _ hv hne; simp only [F78] at hv ⊢; intro h; exact absurd (hv.trans (by rw [h])) hne
      · refine ⟨?_, ?_⟩
        · intro a w2 hw hg hf K hK
          have f0 := hf 33 rfl
          simp only [F78] at f0
          simp only [F78] at hg
          have hg := (Value.bool.inj hg).symm
          clear hf
          have f0 := f0 hg
          go_simp
          exact hK _ _ _ rfl (fun _ => congrArg Value.bool hb2.out) hw (Below.refl _ _) (fun h => absurd h (by decide))
        · intro v w _ hv hne; simp only [F78] at hv ⊢; intro h; exact absurd (hv.trans (by rw [h])) hne
      · intro a w2 hw _ hf K hK
        have f0 := hf 31 rfl
        have f1 := hf 34 rfl
        simp only [F78] at f0 f1
        clear hf
        have e := hc2.out
        cases b1 with
        | false => go_simp; exact hK _ _ _ rfl (by show _ = _; rw [e]; rfl) hw (Below.refl _ _) (fun h => absurd h (by decide))
        | true => have f1 := f1 rfl; go_simp; exact hK _ _ _ rfl (by show _ = _; rw [e]; rfl) hw (Below.refl _ _) (fun h => absurd h (by decide))
      · intro a w2 hw _ hf K hK
        have f0 := hf 35 rfl
        simp only [F78] at f0
        clear hf
        go_simp
        exact hK _ _ _ rfl rfl hw (Below.refl _ _) (fun h => absurd h (by decide))
      · refine ⟨?_, ?_⟩
        · intro a w2 hw hg hf K hK
          have f0 := hf 5 rfl
          simp only [F78] at f0
          simp only [F78] at hg
          have hg := (Value.bool.inj hg).symm
          clear hf
          go_simp
          exact hK _ _ _ rfl (fun _ => rfl) hw (Below.refl _ _) (fun h => absurd h (by decide))
        · intro v w _ hv hne; simp only [F78] at hv ⊢; intro h; exact absurd (hv.trans (by rw [h])) hne
      · refine ⟨?_, ?_⟩
        · intro a w2 hw hg hf K hK
          have f0 := hf 37 rfl
          simp only [F78] at f0
          simp only [F78] at hg
          have hg := (Value.bool.inj hg).symm
          clear hf
          have f0 := f0 hg
          obtain ⟨k0, k1, k2, k3, k4, k5⟩ := hcell.out w2 hw
          go_simp
          exact hK _ _ _ rfl (fun _ => rfl) hw (Below.refl _ _) (fun h => absurd h (by decide))
        · intro v w _ hv hne; simp only [F78] at hv ⊢; intro h; exact absurd (hv.trans (by rw [h])) hne
      · refine ⟨?_, ?_⟩
        · intro a w2 hw hg hf K hK
          have f0 := hf 7 rfl
          simp only [F78] at f0
          simp only [F78] at hg
          have hg := (Value.bool.inj hg).symm
          clear hf
          go_simp
          exact hK _ _ _ rfl (fun _ => rfl) hw (Below.refl _ _) (fun h => absurd h (by decide))
        · intro v w _ hv hne; simp only [F78] at hv ⊢; intro h; exact absurd (hv.trans (by rw [h])) hne
      · refine ⟨?_, ?_⟩
        · intro a w2 hw hg hf K hK
          have f0 := hf 38 rfl
          have f1 := hf 39 rfl
          simp only [F78] at f0 f1
          simp only [F78] at hg
          have hg := (Value.bool.inj hg).symm
          clear hf
          have f0 := f0 hg
          have f1 := f1 hg
          go_simp
          exact hK _ _ _ rfl (fun _ => congrArg Value.bool hb3.out) hw (Below.refl _ _) (fun h => absurd h (by decide))
        · intro v w _ hv hne; simp only [F78] at hv ⊢; intro h; exact absurd (hv.trans (by rw [h])) hne
      · intro a w2 hw _ hf K hK
        have f0 := hf 36 rfl
        have f1 := hf 40 rfl
        simp only [F78] at f0 f1
        clear hf
        have e := hc3.out
        cases c2 with
        | false => go_simp; exact hK _ _ _ rfl (by show _ = _; rw [e]; rfl) hw (Below.refl _ _) (fun h => absurd h (by decide))
        | true => have f1 := f1 rfl; go_simp; exact hK _ _ _ rfl (by show _ = _; rw [e]; rfl) hw (Below.refl _ _) (fun h => absurd h (by decide))
      · intro a w2 hw _ hf K hK
        have f0 := hf 41 rfl
        simp only [F78] at f0
        clear hf
        go_simp
        exact hK _ _ _ rfl rfl hw (Below.refl _ _) (fun h => absurd h (by decide))
      · refine ⟨?_, ?_⟩
        · intro a w2 hw hg hf K hK
          have f0 := hf 5 rfl
          simp only [F78] at f0
          simp only [F78] at hg
          have hg := (Value.bool.inj hg).symm
          clear hf
          go_simp
          exact hK _ _ _ rfl (fun _ => rfl) hw (Below.refl _ _) (fun h => absurd h (by decide))
        · intro v w _ hv hne; simp only [F78] at hv ⊢; intro h; exact absurd (hv.trans (by rw [h])) hne
      · refine ⟨?_, ?_⟩
        · intro a w2 hw hg hf K hK
          have f0 := hf 43 rfl
          simp only [F78] at f0
          simp only [F78] at hg
          have hg := (Value.bool.inj hg).symm
          clear hf
          have f0 := f0 hg
          obtain ⟨k0, k1, k2, k3, k4, k5⟩ := hcell.out w2 hw
          go_simp
          exact hK _ _ _ rfl (fun _ => rfl) hw (Below.refl _ _) (fun h => absurd h (by decide))
        · intro v w _ hv hne; simp only [F78] at hv ⊢; intro h; exact absurd (hv.trans (by rw [h])) hne
      · refine ⟨?_, ?_⟩
        · intro a w2 hw hg hf K hK
          have f0 := hf 44 rfl
          simp only [F78] at f0
          simp only [F78] at hg
          have hg := (Value.bool.inj hg).symm
          clear hf
          have f0 := f0 hg
          go_simp
          exact hK _ _ _ rfl (fun _ => congrArg Value.bool hb4.out) hw (Below.refl _ _) (fun h => absurd h (by decide))
        · intro v w _ hv hne; simp only [F78] at hv ⊢; intro h; exact absurd (hv.trans (by rw [h])) hne
      · intro a w2 hw _ hf K hK
        have f0 := hf 42 rfl
        have f1 := hf 45 rfl
        simp only [F78] at f0 f1
        clear hf
        have e := hc4.out
        cases c3 with
        | false => go_simp; exact hK _ _ _ rfl (by show _ = _; rw [e]; rfl) hw (Below.refl _ _) (fun h => absurd h (by decide))
        | true => have f1 := f1 rfl; go_simp; exact hK _ _ _ rfl (by show _ = _; rw [e]; rfl) hw (Below.refl _ _) (fun h => absurd h (by decide))
      · intro a w2 hw _ hf K hK
        have f0 := hf 46 rfl
        simp only [F78] at f0
        clear hf
        go_simp
        exact hK _ _ _ rfl rfl hw (Below.refl _ _) (fun h => absurd h (by decide))
      · refine ⟨?_, ?_⟩
        · intro a w2 hw hg hf K hK
          have f0 := hf 5 rfl
          simp only [F78] at f0
          simp only [F78] at hg
          have hg := (Value.bool.inj hg).symm
          clear hf
          go_simp
          exact hK _ _ _ rfl (fun _ => rfl) hw (Below.refl _ _) (fun h => absurd h (by decide))
        · intro v w _ hv hne; simp only [F78] at hv ⊢; intro h; exact absurd (hv.trans (by rw [h])) hne
      · refine ⟨?_, ?_⟩
        · intro a w2 hw hg hf K hK
          have f0 := hf 48 rfl
          simp only [F78] at f0
          simp only [F78] at hg
          have hg := (Value.bool.inj hg).symm
          clear hf
          have f0 := f0 hg
          obtain ⟨k0, k1, k2, k3, k4, k5⟩ := hcell.out w2 hw
          go_simp
          exact hK _ _ _ rfl (fun _ => rfl) hw (Below.refl _ _) (fun h => absurd h (by decide))
        · intro v w _ hv hne; simp only [F78] at hv ⊢; intro h; exact absurd (hv.trans (by rw [h])) hne
      · refine ⟨?_, ?_⟩
        · intro a w2 hw hg hf K hK
          have f0 := hf 6 rfl
          simp only [F78] at f0
          simp only [F78] at hg
          have hg := (Value.bool.inj hg).symm
          clear hf
          go_simp
          exact hK _ _ _ rfl (fun _ => rfl) hw (Below.refl _ _) (fun h => absurd h (by decide))
        · intro v w _ hv hne; simp only [F78] at hv ⊢; intro h; exact absurd (hv.trans (by rw [h])) hne
      · refine ⟨?_, ?_⟩
        · intro a w2 hw hg hf K hK
          have f0 := hf 5 rfl
          simp only [F78] at f0
          simp only [F78] at hg
          have hg := (Value.bool.inj hg).symm
          clear hf
          obtain ⟨k0, k1, k2, k3, k4, k5⟩ := hcell.out w2 hw
          go_simp
          exact hK _ _ _ rfl (fun _ => rfl) hw (Below.refl _ _) (fun h => absurd h (by decide))
        · intro v w _ hv hne; simp only [F78] at hv ⊢; intro h; exact absurd (hv.trans (by rw [h])) hne
      · refine ⟨?_, ?_⟩
        · intro a w2 hw hg hf K hK
          have f0 := hf 50 rfl
          have f1 := hf 51 rfl
          simp only [F78] at f0 f1
          simp only [F78] at hg
          have hg := (Value.bool.inj hg).symm
          clear hf
          have f0 := f0 hg
          have f1 := f1 hg
          go_simp
          refine (hhash.out w2).mono ?_; rintro e w5 ⟨rfl, hb⟩
          exact hK _ _ _ rfl (fun _ => rfl) (hw.trans (hb.mono hw.size)) hb (fun h => absurd h (by decide))
        · intro v w _ hv hne; simp only [F78] at hv ⊢; intro h; exact absurd (hv.trans (by rw [h])) hne
      · refine ⟨?_, ?_⟩
        · intro a w2 hw hg hf K hK
          have f0 := hf 49 rfl
          have f1 := hf 52 rfl
          simp only [F78] at f0 f1
          simp only [F78] at hg
          have hg := (Value.bool.inj hg).symm
          clear hf
          have f0 := f0 hg
          have f1 := f1 hg
          go_simp
          exact hK _ _ _ rfl (fun _ => congrArg Value.bool hb5.out) hw (Below.refl _ _) (fun h => absurd h (by decide))
        · intro v w _ hv hne; simp only [F78] at hv ⊢; intro h; exact absurd (hv.trans (by rw [h])) hne
      · intro a w2 hw _ hf K hK
        have f0 := hf 47 rfl
        have f1 := hf 53 rfl
        simp only [F78] at f0 f1
        clear hf
        have e := hc5.out
        cases c4 with
        | false => go_simp; exact hK _ _ _ rfl (by show _ = _; rw [e]; rfl) hw (Below.refl _ _) (fun h => absurd h (by decide))
        | true => have f1 := f1 rfl; go_simp; exact hK _ _ _ rfl (by show _ = _; rw [e]; rfl) hw (Below.refl _ _) (fun h => absurd h (by decide))
      · intro a w2 hw _ hf K hK
        have f0 := hf 54 rfl
        simp only [F78] at f0
        clear hf
        go_simp
        exact hK _ _ _ rfl rfl hw (Below.refl _ _) (fun h => absurd h (by decide))
    · intro a' w9 hd hs hw hout hf _
      have h4 := hf 4 rfl
      simp only [F78] at h4
      obtain ⟨tm, df⟩ := a'
      simp only at hd hs h4
      have e := lit_arr tm 55 hs
      rw [show (List.range 55).map (fun i => tm[i]?.getD undef) = [tm[0]?.getD undef, tm[1]?.getD undef, tm[2]?.getD undef, tm[3]?.getD undef, tm[4]?.getD undef, tm[5]?.getD undef, tm[6]?.getD undef, tm[7]?.getD undef, tm[8]?.getD undef, tm[9]?.getD undef, tm[10]?.getD undef, tm[11]?.getD undef, tm[12]?.getD undef, tm[13]?.getD undef, tm[14]?.getD undef, tm[15]?.getD undef, tm[16]?.getD undef, tm[17]?.getD undef, tm[18]?.getD undef, tm[19]?.getD undef, tm[20]?.getD undef, tm[21]?.getD undef, tm[22]?.getD undef, tm[23]?.getD undef, tm[24]?.getD undef, tm[25]?.getD undef, tm[26]?.getD undef, tm[27]?.getD undef, tm[28]?.getD undef, tm[29]?.getD undef, tm[30]?.getD undef, tm[31]?.getD undef, tm[32]?.getD undef, tm[33]?.getD undef, tm[34]?.getD undef, tm[35]?.getD undef, tm[36]?.getD undef, tm[37]?.getD undef, tm[38]?.getD undef, tm[39]?.getD undef, tm[40]?.getD undef, tm[41]?.getD undef, tm[42]?.getD undef, tm[43]?.getD undef, tm[44]?.getD undef, tm[45]?.getD undef, tm[46]?.getD undef, tm[47]?.getD undef, tm[48]?.getD undef, tm[49]?.getD undef, tm[50]?.getD undef, tm[51]?.getD undef, tm[52]?.getD undef, tm[53]?.getD undef, tm[54]?.getD undef] from rfl] at e
      simp only [h4, Option.getD_some] at e
      clear hf hout hs
      rw [e, hd]
      clear e hd h4
      generalize tm[0]?.getD undef = u0x
      generalize tm[1]?.getD undef = u1x
      generalize tm[2]?.getD undef = u2x
      generalize tm[3]?.getD undef = u3x
      generalize tm[5]?.getD undef = u5x
      generalize tm[6]?.getD undef = u6x
      generalize tm[7]?.getD undef = u7x
      generalize tm[8]?.getD undef = u8x
      generalize tm[9]?.getD undef = u9x
      generalize tm[10]?.getD undef = u10x
      generalize tm[11]?.getD undef = u11x
      generalize tm[12]?.getD undef = u12x
      generalize tm[13]?.getD undef = u13x
      generalize tm[14]?.getD undef = u14x
      generalize tm[15]?.getD undef = u15x
      generalize tm[16]?.getD undef = u16x
      generalize tm[17]?.getD undef = u17x
      generalize tm[18]?.getD undef = u18x
      generalize tm[19]?.getD undef = u19x
      generalize tm[20]?.getD undef = u20x
      generalize tm[21]?.getD undef = u21x
      generalize tm[22]?.getD undef = u22x
      generalize tm[23]?.getD undef = u23x
      generalize tm[24]?.getD undef = u24x
      generalize tm[25]?.getD undef = u25x
      generalize tm[26]?.getD undef = u26x
      generalize tm[27]?.getD undef = u27x
      generalize tm[28]?.getD undef = u28x
      generalize tm[29]?.getD undef = u29x
      generalize tm[30]?.getD undef = u30x
      generalize tm[31]?.getD undef = u31x
      generalize tm[32]?.getD undef = u32x
      generalize tm[33]?.getD undef = u33x
      generalize tm[34]?.getD undef = u34x
      generalize tm[35]?.getD undef = u35x
      generalize tm[36]?.getD undef = u36x
      generalize tm[37]?.getD undef = u37x
      generalize tm[38]?.getD undef = u38x
      generalize tm[39]?.getD undef = u39x
      generalize tm[40]?.getD undef = u40x
      generalize tm[41]?.getD undef = u41x
      generalize tm[42]?.getD undef = u42x
      generalize tm[43]?.getD undef = u43x
      generalize tm[44]?.getD undef = u44x
      generalize tm[45]?.getD undef = u45x
      generalize tm[46]?.getD undef = u46x
      generalize tm[47]?.getD undef = u47x
      generalize tm[48]?.getD undef = u48x
      generalize tm[49]?.getD undef = u49x
      generalize tm[50]?.getD undef = u50x
      generalize tm[51]?.getD undef = u51x
      generalize tm[52]?.getD undef = u52x
      generalize tm[53]?.getD undef = u53x
      generalize tm[54]?.getD undef = u54x
      have hb := Lib.hid (hb.out.trans (hw.mono hb.out.size))
      go_wp2_with fail
      go_ret
      exact ⟨by rw [hres.out]; rfl, hb.out⟩
  · obtain ⟨m, hm⟩ : ∃ m, k = m + 1 := ⟨k - 1, by omega⟩
    have hkp : (0 : Int) < (k : Int) := by omega
    have hkm : (k : Int) - 1 = (m : Int) := by omega
    have hm0 : (0 : Int) ≤ (m : Int) := by omega
    have hm1 : (m : Int) < (n : Int) := by omega
    have hml : m < L.length := by omega
    rw [show prevL L k = L[m] by unfold prevL; rw [if_neg (by omega), List.getD_eq_getElem?_getD, show k - 1 = m by omega, List.getElem?_eq_getElem hml]; rfl]
    obtain ⟨ad', hA', -, -, d1, -, -, -, d5⟩ := ln_cells (h.out.more hb.out) (show m < n by omega)
    obtain rfl : ad = ad' := by injection hA'
    generalize hy : L[m] = y at *
    clear hz
    replace hm := Lib.hid hm
    obtain ⟨sq1, at1, wh1, wt1, on1, sm1⟩ := y
    go_enter Try.func78, Try.ntmps78
    go_wp2_with fail
    go_quiet (fail)
    go_wp2_with fail
    have px := Lib.hid (px.out.below (below_drewN (Below.refl _ _) nq) px.out.lt)
    have hb := Lib.hid (below_drewN hb.out nq)
    clear d1 d5 e0 e1 e2 e3 e4 e5
    generalize hwc : (w.alloc (.cells #[Value.int .i64 sq, Value.int .i64 at_, Value.string wh, Value.string wt, Value.string on, Value.int .u64 sm] 67)).drewN nq = wc at px hb ⊢
    replace hwc := Lib.hid hwc
    have hhash : Hid (∀ w, Calls Try.prog 49 #[.int .u64 sm1, .agg #[Value.int .i64 sq, Value.int .i64 at_, Value.string wh, Value.string wt, Value.string on, Value.int .u64 sm]] w fun e w' => e = .returned (.int .u64 (hashL sm1 ⟨sq, at_, wh, wt, on, sm⟩)) ∧ Below w.heap.size w w') := fun w => rhash_any sm1 ⟨sq, at_, wh, wt, on, sm⟩ w hok.out
    have hres : Hid (rightX (⟨sq1, at1, wh1, wt1, on1, sm1⟩ : Ln) k ⟨sq, at_, wh, wt, on, sm⟩ = ((((sq == (k : Int) + 1) && decide (0 ≤ at_)) && decide (at1 ≤ at_)) && decide (at_ ≤ 268435456) && (sm == hashL sm1 ⟨sq, at_, wh, wt, on, sm⟩))) := by
      show _ = _
      have hq : rightX (⟨sq1, at1, wh1, wt1, on1, sm1⟩ : Ln) k ⟨sq, at_, wh, wt, on, sm⟩ = (decide (sq = (k : Int) + 1) && (decide (at1 ≤ at_) && (decide (0 ≤ at_) && (decide (at_ ≤ 268435456) && decide (sm = hashL sm1 ⟨sq, at_, wh, wt, on, sm⟩))))) := rfl
      rw [hq, conj5]
      simp only [Bool.beq_eq_decide_eq]
    generalize hashL sm1 ⟨sq, at_, wh, wt, on, sm⟩ = hv at hhash hres
    obtain ⟨b1, hb1⟩ : ∃ b, (sq == (k : Int) + 1) = b := ⟨_, rfl⟩
    obtain ⟨b2, hb2⟩ : ∃ b, decide (0 ≤ at_) = b := ⟨_, rfl⟩
    obtain ⟨b3, hb3⟩ : ∃ b, decide (at1 ≤ at_) = b := ⟨_, rfl⟩
    obtain ⟨b4, hb4⟩ : ∃ b, decide (at_ ≤ 268435456) = b := ⟨_, rfl⟩
    obtain ⟨b5, hb5⟩ : ∃ b, (sm == hv) = b := ⟨_, rfl⟩
    obtain ⟨c2, hc2⟩ : ∃ c, c = (b1 && b2) := ⟨_, rfl⟩
    obtain ⟨c3, hc3⟩ : ∃ c, c = (c2 && b3) := ⟨_, rfl⟩
    obtain ⟨c4, hc4⟩ : ∃ c, c = (c3 && b4) := ⟨_, rfl⟩
    obtain ⟨c5, hc5⟩ : ∃ c, c = (c4 && b5) := ⟨_, rfl⟩
    replace hres : Hid (rightX (⟨sq1, at1, wh1, wt1, on1, sm1⟩ : Ln) k ⟨sq, at_, wh, wt, on, sm⟩ = c5) := by show _ = _; rw [hres.out, hc5, hc4, hc3, hc2, ← hb1, ← hb2, ← hb3, ← hb4, ← hb5]
    replace hc2 := Lib.hid hc2
    replace hc3 := Lib.hid hc3
    replace hc4 := Lib.hid hc4
    replace hc5 := Lib.hid hc5
    replace hb1 := Lib.hid hb1
    replace hb2 := Lib.hid hb2
    replace hb3 := Lib.hid hb3
    replace hb4 := Lib.hid hb4
    replace hb5 := Lib.hid hb5
    have hcell : Hid (∀ wz, Below wc.heap.size wc wz → wz.cell? ⟨w.heap.size, 0, none⟩ = some (Value.int .i64 sq) ∧ wz.cell? ⟨w.heap.size, 1, none⟩ = some (Value.int .i64 at_) ∧ wz.cell? ⟨w.heap.size, 2, none⟩ = some (Value.string wh) ∧ wz.cell? ⟨w.heap.size, 3, none⟩ = some (Value.string wt) ∧ wz.cell? ⟨w.heap.size, 4, none⟩ = some (Value.string on) ∧ wz.cell? ⟨w.heap.size, 5, none⟩ = some (Value.int .u64 sm)) := fun wz h => by
      have q := px.out.below h px.out.lt
      exact ⟨q.cell 0, q.cell 1, q.cell 2, q.cell 3, q.cell 4, q.cell 5⟩
    refine RM.region [] [] (F := F78 w.heap.size #[Value.int .i64 sq, Value.int .i64 at_, Value.string wh, Value.string wt, Value.string on, Value.int .u64 sm] k sq at_ sm sm1 at1 hv b1 b2 b3 b4 b5 c2 c3 c4 c5) (W := fun wz => Below wc.heap.size wc wz) (R := fun _ => Rb) (S := noS) (G := noG) rfl F78_more (fun _ _ _ _ _ _ _ => trivial) (fun _ _ _ _ _ h => h.elim) (fun _ _ _ _ _ h => h.elim) (by kernel_rfl) (by kernel_rfl) (by kernel_rfl) (by kernel_rfl) (by kernel_rfl) ?_ ?_ ?_ (by kernel_rfl) ?_
    · exact (Below.refl _ _).drew
    · intro t ht
      unfold F78
      split <;> first | trivial | exact rfl | (exact absurd ht (by decide))
    · simp only [List.forall_mem_cons, List.not_mem_nil, false_implies, implies_true, and_true]
      refine ⟨?_, ?_, ?_, ?_, ?_, ?_, ?_, ?_, ?_, ?_, ?_, ?_, ?_, ?_, ?_, ?_, ?_, ?_, ?_, ?_, ?_, ?_, ?_, ?_, ?_, ?_, ?_, ?_, ?_, ?_⟩
      · intro a w2 hw _ hf K hK
        have f0 := hf 5 rfl
        simp only [F78] at f0
        clear hf
        go_simp
        exact hK _ _ _ rfl rfl hw (Below.refl _ _) (fun h => absurd h (by decide))
      · intro a w2 hw _ hf K hK
        have f0 := hf 26 rfl
        simp only [F78] at f0
        clear hf
        obtain ⟨k0, k1, k2, k3, k4, k5⟩ := hcell.out w2 hw
        go_simp
        exact hK _ _ _ rfl rfl hw (Below.refl _ _) (fun h => absurd h (by decide))
      · intro a w2 hw _ hf K hK
        have f0 := hf 1 rfl
        simp only [F78] at f0
        clear hf
        go_simp
        exact hK _ _ _ rfl rfl hw (Below.refl _ _) (fun h => absurd h (by decide))
      · intro a w2 hw _ hf K hK
        have f0 := hf 28 rfl
        simp only [F78] at f0
        clear hf
        go_simp
        exact hK _ _ _ rfl (by show _ = _; rw [IntWalk.i64_in _ (by omega)]) hw (Below.refl _ _) (fun h => absurd h (by decide))
      · intro a w2 hw _ hf K hK
        have f0 := hf 27 rfl
        have f1 := hf 29 rfl
        simp only [F78] at f0 f1
        clear hf
        go_simp
        exact hK _ _ _ rfl (congrArg Value.bool hb1.out) hw (Below.refl _ _) (fun h => absurd h (by decide))
      · intro a w2 hw _ hf K hK
        have f0 := hf 30 rfl
        simp only [F78] at f0
        clear hf
        go_simp
        exact hK _ _ _ rfl rfl hw (Below.refl _ _) (fun h => absurd h (by decide))
      · refine ⟨?_, ?_⟩
        · intro a w2 hw hg hf K hK
          have f0 := hf 5 rfl
          simp only [F78] at f0
          simp only [F78] at hg
          have hg := (Value.bool.inj hg).symm
          clear hf
          go_simp
          exact hK _ _ _ rfl (fun _ => rfl) hw (Below.refl _ _) (fun h => absurd h (by decide))
        · intro v w _ hv hne; simp only [F78] at hv ⊢; intro h; exact absurd (hv.trans (by rw [h])) hne
      · refine ⟨?_, ?_⟩
        · intro a w2 hw hg hf K hK
          have f0 := hf 32 rfl
          simp only [F78] at f0
          simp only [F78] at hg
          have hg := (Value.bool.inj hg).symm
          clear hf
          have f0 := f0 hg
          obtain ⟨k0, k1, k2, k3, k4, k5⟩ := hcell.out w2 hw
          go_simp
          exact hK _ _ _ rfl (fun _ => rfl) hw (Below.refl _ _) (fun h => absurd h (by decide))
        · intro v w _ hv hne; simp only [F78] at hv ⊢; intro h; exact absurd (hv.trans (by rw [h])) hne
      · refine ⟨?_, ?_⟩
        · intro a w2 hw hg hf K hK
          have f0 := hf 33 rfl
          simp only [F78] at f0
          simp only [F78] at hg
          have hg := (Value.bool.inj hg).symm
          clear hf
          have f0 := f0 hg
          go_simp
          exact hK _ _ _ rfl (fun _ => congrArg Value.bool hb2.out) hw (Below.refl _ _) (fun h => absurd h (by decide))
        · intro v w _ hv hne; simp only [F78] at hv ⊢; intro h; exact absurd (hv.trans (by rw [h])) hne
      · intro a w2 hw _ hf K hK
        have f0 := hf 31 rfl
        have f1 := hf 34 rfl
        simp only [F78] at f0 f1
        clear hf
        have e := hc2.out
        cases b1 with
        | false => go_simp; exact hK _ _ _ rfl (by show _ = _; rw [e]; rfl) hw (Below.refl _ _) (fun h => absurd h (by decide))
        | true => have f1 := f1 rfl; go_simp; exact hK _ _ _ rfl (by show _ = _; rw [e]; rfl) hw (Below.refl _ _) (fun h => absurd h (by decide))
      · intro a w2 hw _ hf K hK
        have f0 := hf 35 rfl
        simp only [F78] at f0
        clear hf
        go_simp
        exact hK _ _ _ rfl rfl hw (Below.refl _ _) (fun h => absurd h (by decide))
      · refine ⟨?_, ?_⟩
        · intro a w2 hw hg hf K hK
          have f0 := hf 5 rfl
          simp only [F78] at f0
          simp only [F78] at hg
          have hg := (Value.bool.inj hg).symm
          clear hf
          go_simp
          exact hK _ _ _ rfl (fun _ => rfl) hw (Below.refl _ _) (fun h => absurd h (by decide))
        · intro v w _ hv hne; simp only [F78] at hv ⊢; intro h; exact absurd (hv.trans (by rw [h])) hne
      · refine ⟨?_, ?_⟩
        · intro a w2 hw hg hf K hK
          have f0 := hf 37 rfl
          simp only [F78] at f0
          simp only [F78] at hg
          have hg := (Value.bool.inj hg).symm
          clear hf
          have f0 := f0 hg
          obtain ⟨k0, k1, k2, k3, k4, k5⟩ := hcell.out w2 hw
          go_simp
          exact hK _ _ _ rfl (fun _ => rfl) hw (Below.refl _ _) (fun h => absurd h (by decide))
        · intro v w _ hv hne; simp only [F78] at hv ⊢; intro h; exact absurd (hv.trans (by rw [h])) hne
      · refine ⟨?_, ?_⟩
        · intro a w2 hw hg hf K hK
          have f0 := hf 7 rfl
          simp only [F78] at f0
          simp only [F78] at hg
          have hg := (Value.bool.inj hg).symm
          clear hf
          go_simp
          exact hK _ _ _ rfl (fun _ => rfl) hw (Below.refl _ _) (fun h => absurd h (by decide))
        · intro v w _ hv hne; simp only [F78] at hv ⊢; intro h; exact absurd (hv.trans (by rw [h])) hne
      · refine ⟨?_, ?_⟩
        · intro a w2 hw hg hf K hK
          have f0 := hf 38 rfl
          have f1 := hf 39 rfl
          simp only [F78] at f0 f1
          simp only [F78] at hg
          have hg := (Value.bool.inj hg).symm
          clear hf
          have f0 := f0 hg
          have f1 := f1 hg
          go_simp
          exact hK _ _ _ rfl (fun _ => congrArg Value.bool hb3.out) hw (Below.refl _ _) (fun h => absurd h (by decide))
        · intro v w _ hv hne; simp only [F78] at hv ⊢; intro h; exact absurd (hv.trans (by rw [h])) hne
      · intro a w2 hw _ hf K hK
        have f0 := hf 36 rfl
        have f1 := hf 40 rfl
        simp only [F78] at f0 f1
        clear hf
        have e := hc3.out
        cases c2 with
        | false => go_simp; exact hK _ _ _ rfl (by show _ = _; rw [e]; rfl) hw (Below.refl _ _) (fun h => absurd h (by decide))
        | true => have f1 := f1 rfl; go_simp; exact hK _ _ _ rfl (by show _ = _; rw [e]; rfl) hw (Below.refl _ _) (fun h => absurd h (by decide))
      · intro a w2 hw _ hf K hK
        have f0 := hf 41 rfl
        simp only [F78] at f0
        clear hf
        go_simp
        exact hK _ _ _ rfl rfl hw (Below.refl _ _) (fun h => absurd h (by decide))
      · refine ⟨?_, ?_⟩
        · intro a w2 hw hg hf K hK
          have f0 := hf 5 rfl
          simp only [F78] at f0
          simp only [F78] at hg
          have hg := (Value.bool.inj hg).symm
          clear hf
          go_simp
          exact hK _ _ _ rfl (fun _ => rfl) hw (Below.refl _ _) (fun h => absurd h (by decide))
        · intro v w _ hv hne; simp only [F78] at hv ⊢; intro h; exact absurd (hv.trans (by rw [h])) hne
      · refine ⟨?_, ?_⟩
        · intro a w2 hw hg hf K hK
          have f0 := hf 43 rfl
          simp only [F78] at f0
          simp only [F78] at hg
          have hg := (Value.bool.inj hg).symm
          clear hf
          have f0 := f0 hg
          obtain ⟨k0, k1, k2, k3, k4, k5⟩ := hcell.out w2 hw
          go_simp
          exact hK _ _ _ rfl (fun _ => rfl) hw (Below.refl _ _) (fun h => absurd h (by decide))
        · intro v w _ hv hne; simp only [F78] at hv ⊢; intro h; exact absurd (hv.trans (by rw [h])) hne
      · refine ⟨?_, ?_⟩
        · intro a w2 hw hg hf K hK
          have f0 := hf 44 rfl
          simp only [F78] at f0
          simp only [F78] at hg
          have hg := (Value.bool.inj hg).symm
          clear hf
          have f0 := f0 hg
          go_simp
          exact hK _ _ _ rfl (fun _ => congrArg Value.bool hb4.out) hw (Below.refl _ _) (fun h => absurd h (by decide))
        · intro v w _ hv hne; simp only [F78] at hv ⊢; intro h; exact absurd (hv.trans (by rw [h])) hne
      · intro a w2 hw _ hf K hK
        have f0 := hf 42 rfl
        have f1 := hf 45 rfl
        simp only [F78] at f0 f1
        clear hf
        have e := hc4.out
        cases c3 with
        | false => go_simp; exact hK _ _ _ rfl (by show _ = _; rw [e]; rfl) hw (Below.refl _ _) (fun h => absurd h (by decide))
        | true => have f1 := f1 rfl; go_simp; exact hK _ _ _ rfl (by show _ = _; rw [e]; rfl) hw (Below.refl _ _) (fun h => absurd h (by decide))
      · intro a w2 hw _ hf K hK
        have f0 := hf 46 rfl
        simp only [F78] at f0
        clear hf
        go_simp
        exact hK _ _ _ rfl rfl hw (Below.refl _ _) (fun h => absurd h (by decide))
      · refine ⟨?_, ?_⟩
        · intro a w2 hw hg hf K hK
          have f0 := hf 5 rfl
          simp only [F78] at f0
          simp only [F78] at hg
          have hg := (Value.bool.inj hg).symm
          clear hf
          go_simp
          exact hK _ _ _ rfl (fun _ => rfl) hw (Below.refl _ _) (fun h => absurd h (by decide))
        · intro v w _ hv hne; simp only [F78] at hv ⊢; intro h; exact absurd (hv.trans (by rw [h])) hne
      · refine ⟨?_, ?_⟩
        · intro a w2 hw hg hf K hK
          have f0 := hf 48 rfl
          simp only [F78] at f0
          simp only [F78] at hg
          have hg := (Value.bool.inj hg).symm
          clear hf
          have f0 := f0 hg
          obtain ⟨k0, k1, k2, k3, k4, k5⟩ := hcell.out w2 hw
          go_simp
          exact hK _ _ _ rfl (fun _ => rfl) hw (Below.refl _ _) (fun h => absurd h (by decide))
        · intro v w _ hv hne; simp only [F78] at hv ⊢; intro h; exact absurd (hv.trans (by rw [h])) hne
      · refine ⟨?_, ?_⟩
        · intro a w2 hw hg hf K hK
          have f0 := hf 6 rfl
          simp only [F78] at f0
          simp only [F78] at hg
          have hg := (Value.bool.inj hg).symm
          clear hf
          go_simp
          exact hK _ _ _ rfl (fun _ => rfl) hw (Below.refl _ _) (fun h => absurd h (by decide))
        · intro v w _ hv hne; simp only [F78] at hv ⊢; intro h; exact absurd (hv.trans (by rw [h])) hne
      · refine ⟨?_, ?_⟩
        · intro a w2 hw hg hf K hK
          have f0 := hf 5 rfl
          simp only [F78] at f0
          simp only [F78] at hg
          have hg := (Value.bool.inj hg).symm
          clear hf
          obtain ⟨k0, k1, k2, k3, k4, k5⟩ := hcell.out w2 hw
          go_simp
          exact hK _ _ _ rfl (fun _ => rfl) hw (Below.refl _ _) (fun h => absurd h (by decide))
        · intro v w _ hv hne; simp only [F78] at hv ⊢; intro h; exact absurd (hv.trans (by rw [h])) hne
      · refine ⟨?_, ?_⟩
        · intro a w2 hw hg hf K hK
          have f0 := hf 50 rfl
          have f1 := hf 51 rfl
          simp only [F78] at f0 f1
          simp only [F78] at hg
          have hg := (Value.bool.inj hg).symm
          clear hf
          have f0 := f0 hg
          have f1 := f1 hg
          go_simp
          refine (hhash.out w2).mono ?_; rintro e w5 ⟨rfl, hb⟩
          exact hK _ _ _ rfl (fun _ => rfl) (hw.trans (hb.mono hw.size)) hb (fun h => absurd h (by decide))
        · intro v w _ hv hne; simp only [F78] at hv ⊢; intro h; exact absurd (hv.trans (by rw [h])) hne
      · refine ⟨?_, ?_⟩
        · intro a w2 hw hg hf K hK
          have f0 := hf 49 rfl
          have f1 := hf 52 rfl
          simp only [F78] at f0 f1
          simp only [F78] at hg
          have hg := (Value.bool.inj hg).symm
          clear hf
          have f0 := f0 hg
          have f1 := f1 hg
          go_simp
          exact hK _ _ _ rfl (fun _ => congrArg Value.bool hb5.out) hw (Below.refl _ _) (fun h => absurd h (by decide))
        · intro v w _ hv hne; simp only [F78] at hv ⊢; intro h; exact absurd (hv.trans (by rw [h])) hne
      · intro a w2 hw _ hf K hK
        have f0 := hf 47 rfl
        have f1 := hf 53 rfl
        simp only [F78] at f0 f1
        clear hf
        have e := hc5.out
        cases c4 with
        | false => go_simp; exact hK _ _ _ rfl (by show _ = _; rw [e]; rfl) hw (Below.refl _ _) (fun h => absurd h (by decide))
        | true => have f1 := f1 rfl; go_simp; exact hK _ _ _ rfl (by show _ = _; rw [e]; rfl) hw (Below.refl _ _) (fun h => absurd h (by decide))
      · intro a w2 hw _ hf K hK
        have f0 := hf 54 rfl
        simp only [F78] at f0
        clear hf
        go_simp
        exact hK _ _ _ rfl rfl hw (Below.refl _ _) (fun h => absurd h (by decide))
    · intro a' w9 hd hs hw hout hf _
      have h4 := hf 4 rfl
      simp only [F78] at h4
      obtain ⟨tm, df⟩ := a'
      simp only at hd hs h4
      have e := lit_arr tm 55 hs
      rw [show (List.range 55).map (fun i => tm[i]?.getD undef) = [tm[0]?.getD undef, tm[1]?.getD undef, tm[2]?.getD undef, tm[3]?.getD undef, tm[4]?.getD undef, tm[5]?.getD undef, tm[6]?.getD undef, tm[7]?.getD undef, tm[8]?.getD undef, tm[9]?.getD undef, tm[10]?.getD undef, tm[11]?.getD undef, tm[12]?.getD undef, tm[13]?.getD undef, tm[14]?.getD undef, tm[15]?.getD undef, tm[16]?.getD undef, tm[17]?.getD undef, tm[18]?.getD undef, tm[19]?.getD undef, tm[20]?.getD undef, tm[21]?.getD undef, tm[22]?.getD undef, tm[23]?.getD undef, tm[24]?.getD undef, tm[25]?.getD undef, tm[26]?.getD undef, tm[27]?.getD undef, tm[28]?.getD undef, tm[29]?.getD undef, tm[30]?.getD undef, tm[31]?.getD undef, tm[32]?.getD undef, tm[33]?.getD undef, tm[34]?.getD undef, tm[35]?.getD undef, tm[36]?.getD undef, tm[37]?.getD undef, tm[38]?.getD undef, tm[39]?.getD undef, tm[40]?.getD undef, tm[41]?.getD undef, tm[42]?.getD undef, tm[43]?.getD undef, tm[44]?.getD undef, tm[45]?.getD undef, tm[46]?.getD undef, tm[47]?.getD undef, tm[48]?.getD undef, tm[49]?.getD undef, tm[50]?.getD undef, tm[51]?.getD undef, tm[52]?.getD undef, tm[53]?.getD undef, tm[54]?.getD undef] from rfl] at e
      simp only [h4, Option.getD_some] at e
      clear hf hout hs
      rw [e, hd]
      clear e hd h4
      generalize tm[0]?.getD undef = u0x
      generalize tm[1]?.getD undef = u1x
      generalize tm[2]?.getD undef = u2x
      generalize tm[3]?.getD undef = u3x
      generalize tm[5]?.getD undef = u5x
      generalize tm[6]?.getD undef = u6x
      generalize tm[7]?.getD undef = u7x
      generalize tm[8]?.getD undef = u8x
      generalize tm[9]?.getD undef = u9x
      generalize tm[10]?.getD undef = u10x
      generalize tm[11]?.getD undef = u11x
      generalize tm[12]?.getD undef = u12x
      generalize tm[13]?.getD undef = u13x
      generalize tm[14]?.getD undef = u14x
      generalize tm[15]?.getD undef = u15x
      generalize tm[16]?.getD undef = u16x
      generalize tm[17]?.getD undef = u17x
      generalize tm[18]?.getD undef = u18x
      generalize tm[19]?.getD undef = u19x
      generalize tm[20]?.getD undef = u20x
      generalize tm[21]?.getD undef = u21x
      generalize tm[22]?.getD undef = u22x
      generalize tm[23]?.getD undef = u23x
      generalize tm[24]?.getD undef = u24x
      generalize tm[25]?.getD undef = u25x
      generalize tm[26]?.getD undef = u26x
      generalize tm[27]?.getD undef = u27x
      generalize tm[28]?.getD undef = u28x
      generalize tm[29]?.getD undef = u29x
      generalize tm[30]?.getD undef = u30x
      generalize tm[31]?.getD undef = u31x
      generalize tm[32]?.getD undef = u32x
      generalize tm[33]?.getD undef = u33x
      generalize tm[34]?.getD undef = u34x
      generalize tm[35]?.getD undef = u35x
      generalize tm[36]?.getD undef = u36x
      generalize tm[37]?.getD undef = u37x
      generalize tm[38]?.getD undef = u38x
      generalize tm[39]?.getD undef = u39x
      generalize tm[40]?.getD undef = u40x
      generalize tm[41]?.getD undef = u41x
      generalize tm[42]?.getD undef = u42x
      generalize tm[43]?.getD undef = u43x
      generalize tm[44]?.getD undef = u44x
      generalize tm[45]?.getD undef = u45x
      generalize tm[46]?.getD undef = u46x
      generalize tm[47]?.getD undef = u47x
      generalize tm[48]?.getD undef = u48x
      generalize tm[49]?.getD undef = u49x
      generalize tm[50]?.getD undef = u50x
      generalize tm[51]?.getD undef = u51x
      generalize tm[52]?.getD undef = u52x
      generalize tm[53]?.getD undef = u53x
      generalize tm[54]?.getD undef = u54x
      have hb := Lib.hid (hb.out.trans (hw.mono hb.out.size))
      go_wp2_with fail
      go_ret
      exact ⟨by rw [hres.out]; rfl, hb.out⟩
theorem verF_step (L : List Ln) (k : Nat) (h : k < L.length) : verF (prevL L k) k (L.drop k) = if rightX (prevL L k) k L[k] then verF (prevL L (k + 1)) (k + 1) (L.drop (k + 1)) else k := by
  rw [List.drop_eq_getElem_cons h, verF]
  have : prevL L (k + 1) = L[k] := by unfold prevL; rw [if_neg (by omega), List.getD_eq_getElem?_getD, Nat.add_sub_cancel, List.getElem?_eq_getElem h]; rfl
  rw [this]
theorem goodF_step (L : List Ln) (k : Nat) (h : k < L.length) : goodF (prevL L k) k (L.drop k) = (rightX (prevL L k) k L[k] && goodF (prevL L (k + 1)) (k + 1) (L.drop (k + 1))) := by
  rw [List.drop_eq_getElem_cons h, goodF]
  have : prevL L (k + 1) = L[k] := by unfold prevL; rw [if_neg (by omega), List.getD_eq_getElem?_getD, Nat.add_sub_cancel, List.getElem?_eq_getElem h]; rfl
  rw [this]
def verN (L : List Ln) : Nat := verF noLn 0 L
set_option maxRecDepth 100000 in
set_option maxHeartbeats 4000000 in
theorem rlverify_any (A : Option Addr) (n cp : Nat) (L : List Ln) (w : World) (h : LAt lnC 6 w w.heap.size A n L) (hok : ∀ x ∈ L, LnOk x) (hmx : n ≤ 100000) :
    Calls Try.prog 45 #[.slice A n cp] w fun e w' => e = .returned (.tuple #[.int .i64 (verN L), .int .i64 (verE L)]) ∧ Below w.heap.size w w' := by
  have hn := Lib.hid h.len
  replace h := Lib.hid h
  replace hok := Lib.hid hok
  have hv0 : Hid (verN L = verF (prevL L 0) 0 (L.drop 0)) := rfl
  have hg0 : Hid (goodF noLn 0 L = goodF (prevL L 0) 0 (L.drop 0)) := rfl
  have hE : Hid (verE L = if goodF noLn 0 L then 0 else 7) := rfl
  go_enter Try.func45, Try.ntmps45
  go_wp2_with fail
  go_loopw [4] (fun i wr => ∃ k : Nat, k ≤ n ∧ i = .int .i64 k ∧ Hid (Below w.heap.size w wr) ∧ Hid (verN L = verF (prevL L k) k (L.drop k)) ∧ Hid (goodF noLn 0 L = goodF (prevL L k) k (L.drop k))) (fun i _ => n - (intOf i).toNat)
  case atStart => exact ⟨0, Nat.zero_le _, rfl, Below.refl _ _, hv0.out, hg0.out⟩
  case round =>
    obtain ⟨k, hkn, rfl, hb, hv, hg⟩ := hrel
    by_cases hlt : k < n
    · have hk0 : (0 : Int) ≤ k := by omega
      have hk1 : (k : Int) < n := by omega
      have hkl : k < L.length := by have := hn.out; omega
      have hst := Lib.hid (verF_step L k hkl)
      have hgt := Lib.hid (goodF_step L k hkl)
      have hr := Lib.hid (right_any A n cp k L wr (h.out.more hb.out) hlt hkl (hok.out _ (List.getElem_mem hkl)) hmx)
      generalize rightX (prevL L k) k L[k] = rb at hr hst hgt
      go_wp2_with fail
      refine hr.out.mono ?_; rintro e w2 ⟨rfl, hq⟩
      have hb := Lib.hid (hb.out.trans (hq.mono hb.out.size))
      cases rb with
      | true =>
        have hv := Lib.hid (hv.out.trans hst.out)
        have hg := Lib.hid (hg.out.trans hgt.out)
        go_wp2_with fail
        go_roundw
        case rel => exact ⟨k + 1, by omega, by go_num, hb.out, hv.out, hg.out⟩
        case measure => simp [intOf]; omega
      | false =>
        have hv : Hid (verN L = k) := hv.out.trans hst.out
        have hg : Hid (verE L = 7) := by show _ = _; rw [hE.out, hg.out.trans hgt.out]; rfl
        go_wp2_with fail
        go_ret2
        exact ⟨by rw [hv.out, hg.out]; rfl, hb.out⟩
    · obtain rfl : k = n := by omega
      have hd : L.drop k = [] := List.drop_eq_nil_of_le (by have := hn.out; omega)
      have hv : Hid (verN L = k) := by show _ = _; rw [hv.out, hd]; rfl
      have hg : Hid (verE L = 0) := by show _ = _; rw [hE.out, hg.out, hd]; rfl
      go_wp2_with fail
      go_ret2
      exact ⟨by rw [hv.out, hg.out]; rfl, hb.out⟩
end Go.Proofs.Ytiggpgeldigknaa
