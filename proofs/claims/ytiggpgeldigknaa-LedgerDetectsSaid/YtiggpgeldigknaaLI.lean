/- Ledger: Verify. -/
import Derived.Test.YtiggpgeldigknaaLH
import Derived.Test.YtiggpgeldigknaaRMI
set_option linter.unusedVariables false
set_option linter.unusedSimpArgs false
namespace Go.Proofs.Ytiggpgeldigknaa
open Go.RowKit Go.Shelf
attribute [local go_sem] Oper.semAt_some
theorem dne (a b : Int) : (a != b) = !decide (a = b) := by unfold bne; rw [Bool.beq_eq_decide_eq]
theorem dlt (a b : Int) : decide (a < b) = !decide (b ≤ a) := by
  by_cases h : a < b
  · have h2 : ¬ b ≤ a := by omega
    simp [h, h2]
  · have h2 : b ≤ a := by omega
    simp [h, h2]
theorem nor5 (a b c d e : Bool) : (a && (b && (c && (d && e)))) = !(((((!a) || (!b)) || (!c)) || (!d)) || (!e)) := by cases a <;> cases b <;> cases c <;> cases d <;> cases e <;> rfl
def F44 (g5 g6 gi : Nat) (X : Array Value) (k sq at_ atp sm ps hv : Int) (b1 b2 b3 b4 b5 c2 c3 c4 c5 : Bool) : Tmp → Value → World → Prop
  | 4, v, _ => v = .pointer (some ⟨gi, 0, none⟩)
  | 5, v, _ => v = .pointer (some ⟨g5, 0, none⟩)
  | 6, v, _ => v = .pointer (some ⟨g6, 0, none⟩)
  | 11, v, _ => v = .pointer (some ⟨g6, 0, none⟩)
  | 12, v, _ => v = .int .i64 sq
  | 13, v, _ => v = .int .i64 k
  | 14, v, _ => v = .int .i64 (k + 1)
  | 15, v, _ => v = .bool b1
  | 16, v, _ => v = .bool b1
  | 17, v, _ => b1 = false → v = .pointer (some ⟨g6, 1, none⟩)
  | 18, v, _ => b1 = false → v = .int .i64 at_
  | 19, v, _ => b1 = false → v = .pointer (some ⟨g5, 1, none⟩)
  | 20, v, _ => b1 = false → v = .int .i64 atp
  | 21, v, _ => b1 = false → v = .bool b2
  | 22, v, _ => v = .bool c2
  | 23, v, _ => v = .bool c2
  | 24, v, _ => c2 = false → v = .pointer (some ⟨g6, 1, none⟩)
  | 25, v, _ => c2 = false → v = .int .i64 at_
  | 26, v, _ => c2 = false → v = .bool b3
  | 27, v, _ => v = .bool c3
  | 28, v, _ => v = .bool c3
  | 29, v, _ => c3 = false → v = .pointer (some ⟨g6, 1, none⟩)
  | 30, v, _ => c3 = false → v = .int .i64 at_
  | 31, v, _ => c3 = false → v = .bool b4
  | 32, v, _ => v = .bool c4
  | 33, v, _ => v = .bool c4
  | 34, v, _ => c4 = false → v = .pointer (some ⟨g6, 5, none⟩)
  | 35, v, _ => c4 = false → v = .int .u64 sm
  | 36, v, _ => c4 = false → v = .pointer (some ⟨g5, 5, none⟩)
  | 37, v, _ => c4 = false → v = .int .u64 ps
  | 38, v, _ => c4 = false → v = .agg X
  | 39, v, _ => c4 = false → v = .int .u64 hv
  | 40, v, _ => c4 = false → v = .bool b5
  | 41, v, _ => v = .bool c5
  | _, _, _ => True
theorem F44_more {g5 g6 gi : Nat} {X : Array Value} {k sq at_ atp sm ps hv : Int} {b1 b2 b3 b4 b5 c2 c3 c4 c5 : Bool} (d t : Tmp) (v : Value) (w w' : World) (hR : Rb w w') (hne : t ≠ d) (hc : ([] : List (Tmp × Tmp)).contains (d, t) = false) (h : F44 g5 g6 gi X k sq at_ atp sm ps hv b1 b2 b3 b4 b5 c2 c3 c4 c5 t v w) : F44 g5 g6 gi X k sq at_ atp sm ps hv b1 b2 b3 b4 b5 c2 c3 c4 c5 t v w' := by
  unfold F44 at *
  split at h <;> first | exact h
/-- what the variables of Verify hold between two rounds -/
structure IV (s : Nat) (w : World) (L : List Ln) (k : Nat) (W : World) : Prop where
  r0 : Blk W s 3 #[Value.int .i64 0]
  r1 : Blk W (s + 1) 41 #[Value.int .i64 0]
  i : Blk W (s + 1 + 1) 3 #[Value.int .i64 k]
  b : Below s w W
  v : verN L = verF (prevL L k) k (L.drop k)
  g : goodF noLn 0 L = goodF (prevL L k) k (L.drop k)
structure IVx (s : Nat) (w : World) (L : List Ln) (W : World) : Prop where
  r0 : Blk W s 3 #[Value.int .i64 (verN L)]
  r1 : Blk W (s + 1) 41 #[Value.int .i64 (verE L)]
  b : Below s w W
set_option maxRecDepth 100000 in
set_option maxHeartbeats 8000000 in
theorem verify_log (A : Option Addr) (n cp : Nat) (L : List Ln) (w : World) (h : LAt lnC 6 w w.heap.size A n L) (hok : ∀ x ∈ L, LnOk x) (hmx : n ≤ 1000) :
    Calls Try.prog 44 #[.slice A n cp] w fun e w' => e = .returned (.tuple #[.int .i64 (verN L), .int .i64 (verE L)]) ∧ Below w.heap.size w w' := by
  refine (callsIn_wide (n := 0)).1 ?_
  have hn := Lib.hid h.len
  have hE : Hid (verE L = if goodF noLn 0 L then 0 else 7) := rfl
  obtain ⟨s, hs⟩ : ∃ s, s = w.heap.size := ⟨_, rfl⟩
  refine callsIn_of_wp_marks Try.func44 rfl trivial ?_ rfl
  simp only [Try.ntmps44, List.size_toArray, List.length_cons, List.length_nil, Nat.reduceAdd, Nat.reduceSub, Array.replicate_succ, Array.replicate_zero, List.push_toArray, List.append_toArray, List.nil_append, List.cons_append]
  have q0 := Blk.new w 3 #[Value.int .i64 0]
  have q1 := Blk.new (w.alloc (.cells #[Value.int .i64 0] 3)) 41 #[Value.int .i64 0]
  have q2 := Blk.new ((w.alloc (.cells #[Value.int .i64 0] 3)).alloc (.cells #[Value.int .i64 0] 41)) 3 #[Value.int .i64 0]
  have q3 := Blk.new (((w.alloc (.cells #[Value.int .i64 0] 3)).alloc (.cells #[Value.int .i64 0] 41)).alloc (.cells #[Value.int .i64 0] 3)) 62 #[Value.slice A n cp]
  simp only [World.size_alloc] at q1 q2 q3
  rw [← hs] at q0 q1 q2 q3
  have p0 := Lib.hid (((q0.alloc (.cells #[Value.int .i64 0] 41)).alloc (.cells #[Value.int .i64 0] 3)).alloc (.cells #[Value.slice A n cp] 62))
  have p1 := Lib.hid ((q1.alloc (.cells #[Value.int .i64 0] 3)).alloc (.cells #[Value.slice A n cp] 62))
  have p2 := Lib.hid (q2.alloc (.cells #[Value.slice A n cp] 62))
  have p3 := Lib.hid q3
  have hb : Hid (Below w.heap.size w ((((w.alloc (.cells #[Value.int .i64 0] 3)).alloc (.cells #[Value.int .i64 0] 41)).alloc (.cells #[Value.int .i64 0] 3)).alloc (.cells #[Value.slice A n cp] 62))) := below_new (below_new (below_new (a1 w _) _) _) _
  clear q0 q1 q2 q3
  replace h := Lib.hid h
  have hs2 := Lib.hid hs
  gi_wp2
  refine ⟨trivial, rfl, (lines_any _ _ _ _).mono ?_⟩
  rintro e w' ⟨rfl, rfl⟩
  gi_wp2
  have hsz : Hid (((((w.alloc (.cells #[Value.int .i64 0] 3)).alloc (.cells #[Value.int .i64 0] 41)).alloc (.cells #[Value.int .i64 0] 3)).alloc (.cells #[Value.slice A n cp] 62)).heap.size = s + 1 + 1 + 1 + 1) := by show _ = _; rw [hs]; simp
  rw [← hs]
  rw [← hs] at h hb
  generalize hw4 : (((w.alloc (.cells #[Value.int .i64 0] 3)).alloc (.cells #[Value.int .i64 0] 41)).alloc (.cells #[Value.int .i64 0] 3)).alloc (.cells #[Value.slice A n cp] 62) = w4 at *
  clear hs hw4
  refine range_lines (s + 1 + 1 + 1) s n cp A L rfl rfl hmx (p3.out.cell 0) (h.out.below hb.out (Nat.le_refl _)) (by rw [hsz.out]; omega) (IV s w L) (IVx s w L) ?_ ?_ ⟨p0.out, p1.out, p2.out, hb.out, rfl, rfl⟩ ?_ ?_ ?_
  · rintro k X Y row ⟨i0, i1, i2, i3, i4, i5⟩ hg hr
    have hne : ∀ b, b < s + 1 + 1 + 1 + 1 → some b ≠ row := fun b hb e => by have := hr b e.symm; rw [hsz.out] at this; omega
    exact ⟨i0.grown hg (hne _ (by omega)), i1.grown hg (hne _ (by omega)), i2.grown hg (hne _ (by omega)), i3.grown hg (by have := i0.lt; omega) (fun r e => by have := hr r e; rw [hsz.out] at this; omega), i4, i5⟩
  · rintro X Y row ⟨i0, i1, i3⟩ hg hr
    have hne : ∀ b, b < s + 1 + 1 + 1 + 1 → some b ≠ row := fun b hb e => by have := hr b e.symm; rw [hsz.out] at this; omega
    exact ⟨i0.grown hg (hne _ (by omega)), i1.grown hg (hne _ (by omega)), i3.grown hg (by have := i0.lt; omega) (fun r e => by have := hr r e; rw [hsz.out] at this; omega)⟩
  · intro k Wp hI hlt hbs
    have hkl : k < L.length := by have := hn.out; omega
    have hst := verF_step L k hkl
    have hgt := goodF_step L k hkl
    have hx : lnAt L k = L[k] := by unfold lnAt; rw [List.getD_eq_getElem?_getD, List.getElem?_eq_getElem hkl]; rfl
    have hokx := hok _ (List.getElem_mem hkl)
    rw [hx]
    rw [hsz.out] at hbs ⊢
    generalize hxk : L[k] = x at *
    generalize hpk : prevL L k = p at *
    obtain ⟨sq, at_, wh, wt, on, sm⟩ := x
    obtain ⟨sqp, at_p, whp, wtp, onp, smp⟩ := p
    unfold rowL
    dsimp only
    replace hI := Lib.hid hI
    replace hst := Lib.hid hst
    replace hgt := Lib.hid hgt
    replace hxk := Lib.hid hxk
    replace hpk := Lib.hid hpk
    replace hx := Lib.hid hx
    replace hbs := Lib.hid hbs
    clear p0 p1 p2 p3 hb hsz h
    refine ⟨{ tmps := #[.slice A n cp, undef, .pointer (some ⟨s, 0, none⟩), .pointer (some ⟨s + 1, 0, none⟩), .pointer (some ⟨s + 1 + 1, 0, none⟩), .pointer (some ⟨Wp.heap.size + 1, 0, none⟩), .pointer (some ⟨Wp.heap.size + 1 + 1, 0, none⟩), .slice A n cp, .func (.func 101) #[] #[.pointer (some ⟨s + 1 + 1 + 1, 0, none⟩)], .agg #[Value.int .i64 sqp, Value.int .i64 at_p, Value.string whp, Value.string wtp, Value.string onp, Value.int .u64 smp], .agg #[Value.int .i64 sq, Value.int .i64 at_, Value.string wh, Value.string wt, Value.string on, Value.int .u64 sm], undef, undef, undef, undef, undef, undef, undef, undef, undef, undef, undef, undef, undef, undef, undef, undef, undef, undef, undef, undef, undef, undef, undef, undef, undef, undef, undef, undef, undef, undef, undef, undef, undef, undef, undef], defers := [] }, ((Wp.alloc (.cells #[Value.int .i64 sq, Value.int .i64 at_, Value.string wh, Value.string wt, Value.string on, Value.int .u64 sm] 67)).alloc (.cells #[Value.int .i64 sqp, Value.int .i64 at_p, Value.string whp, Value.string wtp, Value.string onp, Value.int .u64 smp] 67)).alloc (.cells #[Value.int .i64 sq, Value.int .i64 at_, Value.string wh, Value.string wt, Value.string on, Value.int .u64 sm] 67), fun K hK => ?_, ?_, fun W2 hI2 hg2 => ?_⟩
    · gi_wp2
      exact hK
    · exact below_new (a1 _ _) _
    have hz2 : (Wp.alloc (.cells #[Value.int .i64 sq, Value.int .i64 at_, Value.string wh, Value.string wt, Value.string on, Value.int .u64 sm] 67)).heap.size = Wp.heap.size + 1 := by simp
    have hz3 : ((Wp.alloc (.cells #[Value.int .i64 sq, Value.int .i64 at_, Value.string wh, Value.string wt, Value.string on, Value.int .u64 sm] 67)).alloc (.cells #[Value.int .i64 sqp, Value.int .i64 at_p, Value.string whp, Value.string wtp, Value.string onp, Value.int .u64 smp] 67)).heap.size = Wp.heap.size + 1 + 1 := by simp
    have q5 := ((Blk.new (Wp.alloc (.cells #[Value.int .i64 sq, Value.int .i64 at_, Value.string wh, Value.string wt, Value.string on, Value.int .u64 sm] 67)) 67 #[Value.int .i64 sqp, Value.int .i64 at_p, Value.string whp, Value.string wtp, Value.string onp, Value.int .u64 smp]).alloc (.cells #[Value.int .i64 sq, Value.int .i64 at_, Value.string wh, Value.string wt, Value.string on, Value.int .u64 sm] 67)).grown hg2 (by intro e; injection e with e; have := hbs.out; simp at e; omega)
    have q6 := (Blk.new ((Wp.alloc (.cells #[Value.int .i64 sq, Value.int .i64 at_, Value.string wh, Value.string wt, Value.string on, Value.int .u64 sm] 67)).alloc (.cells #[Value.int .i64 sqp, Value.int .i64 at_p, Value.string whp, Value.string wtp, Value.string onp, Value.int .u64 smp] 67)) 67 #[Value.int .i64 sq, Value.int .i64 at_, Value.string wh, Value.string wt, Value.string on, Value.int .u64 sm]).grown hg2 (by intro e; injection e with e; have := hbs.out; simp at e; omega)
    rw [hz2] at q5
    rw [hz3] at q6
    have hsW : W2.heap.size ≥ Wp.heap.size + 1 + 1 + 1 := by have := hg2.size; simp at this; omega
    have hcell : Hid ((∀ wz, Below W2.heap.size W2 wz → wz.cell? ⟨Wp.heap.size + 1 + 1, 0, none⟩ = some (Value.int .i64 sq) ∧ wz.cell? ⟨Wp.heap.size + 1 + 1, 1, none⟩ = some (Value.int .i64 at_) ∧ wz.cell? ⟨Wp.heap.size + 1 + 1, 2, none⟩ = some (Value.string wh) ∧ wz.cell? ⟨Wp.heap.size + 1 + 1, 3, none⟩ = some (Value.string wt) ∧ wz.cell? ⟨Wp.heap.size + 1 + 1, 4, none⟩ = some (Value.string on) ∧ wz.cell? ⟨Wp.heap.size + 1 + 1, 5, none⟩ = some (Value.int .u64 sm)) ∧ (∀ wz, Below W2.heap.size W2 wz → wz.cell? ⟨Wp.heap.size + 1, 0, none⟩ = some (Value.int .i64 sqp) ∧ wz.cell? ⟨Wp.heap.size + 1, 1, none⟩ = some (Value.int .i64 at_p) ∧ wz.cell? ⟨Wp.heap.size + 1, 2, none⟩ = some (Value.string whp) ∧ wz.cell? ⟨Wp.heap.size + 1, 3, none⟩ = some (Value.string wtp) ∧ wz.cell? ⟨Wp.heap.size + 1, 4, none⟩ = some (Value.string onp) ∧ wz.cell? ⟨Wp.heap.size + 1, 5, none⟩ = some (Value.int .u64 smp)) ∧ (∀ wz, Below W2.heap.size W2 wz → wz.cell? ⟨s + 1 + 1, 0, none⟩ = some (Value.int .i64 k))) := by
      refine ⟨fun wz h => ?_, fun wz h => ?_, fun wz h => (hI2.i.below h hI2.i.lt).cell 0⟩
      · have q := q6.below h q6.lt
        exact ⟨q.cell 0, q.cell 1, q.cell 2, q.cell 3, q.cell 4, q.cell 5⟩
      · have q := q5.below h q5.lt
        exact ⟨q.cell 0, q.cell 1, q.cell 2, q.cell 3, q.cell 4, q.cell 5⟩
    have hhash : Hid (∀ w, Calls Try.prog 76 #[.int .u64 smp, .agg #[Value.int .i64 sq, Value.int .i64 at_, Value.string wh, Value.string wt, Value.string on, Value.int .u64 sm]] w fun e w' => e = .returned (.int .u64 (hashL smp ⟨sq, at_, wh, wt, on, sm⟩)) ∧ Below w.heap.size w w') := fun w => hash_any smp ⟨sq, at_, wh, wt, on, sm⟩ w hokx
    have hres : Hid (rightX ⟨sqp, at_p, whp, wtp, onp, smp⟩ k ⟨sq, at_, wh, wt, on, sm⟩ = !((((((sq != (k : Int) + 1) || decide (at_ < at_p)) || decide (at_ < 0)) || decide (268435456 < at_)) || (sm != hashL smp ⟨sq, at_, wh, wt, on, sm⟩)))) := by
      show _ = _
      have hq : rightX ⟨sqp, at_p, whp, wtp, onp, smp⟩ k ⟨sq, at_, wh, wt, on, sm⟩ = (decide (sq = (k : Int) + 1) && (decide (at_p ≤ at_) && (decide (0 ≤ at_) && (decide (at_ ≤ 268435456) && decide (sm = hashL smp ⟨sq, at_, wh, wt, on, sm⟩))))) := rfl
      rw [hq]
      have e1 : (sq != (k : Int) + 1) = !decide (sq = (k : Int) + 1) := dne _ _
      have e2 : decide (at_ < at_p) = !decide (at_p ≤ at_) := dlt _ _
      have e3 : decide (at_ < 0) = !decide (0 ≤ at_) := dlt _ _
      have e4 : decide (268435456 < at_) = !decide (at_ ≤ 268435456) := dlt _ _
      have e5 : (sm != hashL smp ⟨sq, at_, wh, wt, on, sm⟩) = !decide (sm = hashL smp ⟨sq, at_, wh, wt, on, sm⟩) := dne _ _
      rw [e1, e2, e3, e4, e5]
      exact nor5 _ _ _ _ _
    generalize hashL smp ⟨sq, at_, wh, wt, on, sm⟩ = hv at hhash hres
    obtain ⟨b1, hb1⟩ : ∃ b, (sq != (k : Int) + 1) = b := ⟨_, rfl⟩
    obtain ⟨b2, hb2⟩ : ∃ b, decide (at_ < at_p) = b := ⟨_, rfl⟩
    obtain ⟨b3, hb3⟩ : ∃ b, decide (at_ < 0) = b := ⟨_, rfl⟩
    obtain ⟨b4, hb4⟩ : ∃ b, decide (268435456 < at_) = b := ⟨_, rfl⟩
    obtain ⟨b5, hb5⟩ : ∃ b, (sm != hv) = b := ⟨_, rfl⟩
    obtain ⟨c2, hc2⟩ : ∃ c, c = (b1 || b2) := ⟨_, rfl⟩
    obtain ⟨c3, hc3⟩ : ∃ c, c = (c2 || b3) := ⟨_, rfl⟩
    obtain ⟨c4, hc4⟩ : ∃ c, c = (c3 || b4) := ⟨_, rfl⟩
    obtain ⟨c5, hc5⟩ : ∃ c, c = (c4 || b5) := ⟨_, rfl⟩
    replace hres : Hid (rightX ⟨sqp, at_p, whp, wtp, onp, smp⟩ k ⟨sq, at_, wh, wt, on, sm⟩ = !c5) := by show _ = _; rw [hres.out, hc5, hc4, hc3, hc2, ← hb1, ← hb2, ← hb3, ← hb4, ← hb5]
    replace hc2 := Lib.hid hc2
    replace hc3 := Lib.hid hc3
    replace hc4 := Lib.hid hc4
    replace hc5 := Lib.hid hc5
    replace hb1 := Lib.hid hb1
    replace hb2 := Lib.hid hb2
    replace hb3 := Lib.hid hb3
    replace hb4 := Lib.hid hb4
    replace hb5 := Lib.hid hb5
    replace hI2 := Lib.hid hI2
    replace q5 := Lib.hid q5
    replace q6 := Lib.hid q6
    replace hsW := Lib.hid hsW
    replace hg2 := Lib.hid hg2
    have hkb : k < 1000 := by omega
    clear hz2 hz3
    gi_wp2
    refine RMI.region [] [] (F := F44 (Wp.heap.size + 1) (Wp.heap.size + 1 + 1) (s + 1 + 1) #[Value.int .i64 sq, Value.int .i64 at_, Value.string wh, Value.string wt, Value.string on, Value.int .u64 sm] k sq at_ at_p sm smp hv b1 b2 b3 b4 b5 c2 c3 c4 c5) (W := fun wz => Below W2.heap.size W2 wz) (R := fun _ => Rb) (S := noS) (G := noG) rfl F44_more (fun _ _ _ _ _ _ _ => trivial) (fun _ _ _ _ _ h => h.elim) (fun _ _ _ _ _ h => h.elim) (by kernel_rfl) (by kernel_rfl) (by kernel_rfl) (by kernel_rfl) (by kernel_rfl) ?_ ?_ ?_ (by kernel_rfl) (fun _ => trivial) ?_
    · exact (Below.refl _ _).drew
    · intro t ht
      unfold F44
      split <;> first | trivial | exact rfl | (exact absurd ht (by decide))
    · simp only [List.forall_mem_cons, List.not_mem_nil, false_implies, implies_true, and_true]
      refine ⟨?_, ?_, ?_, ?_, ?_, ?_, ?_, ?_, ?_, ?_, ?_, ?_, ?_, ?_, ?_, ?_, ?_, ?_, ?_, ?_, ?_, ?_, ?_, ?_, ?_, ?_, ?_, ?_, ?_, ?_, ?_⟩
      · intro a w2 hw _ hf K hK
        have f0 := hf 6 rfl
        simp only [F44] at f0
        clear hf
        go_simp
        exact hK _ _ _ rfl rfl hw (Below.refl _ _) (fun h => absurd h (by decide))
      · intro a w2 hw _ hf K hK
        have f0 := hf 11 rfl
        simp only [F44] at f0
        clear hf
        obtain ⟨x0, x1, x2, x3, x4, x5⟩ := hcell.out.1 w2 hw
        go_simp
        exact hK _ _ _ rfl rfl hw (Below.refl _ _) (fun h => absurd h (by decide))
      · intro a w2 hw _ hf K hK
        have f0 := hf 4 rfl
        simp only [F44] at f0
        clear hf
        have ki := hcell.out.2.2 w2 hw
        go_simp
        exact hK _ _ _ rfl rfl hw (Below.refl _ _) (fun h => absurd h (by decide))
      · intro a w2 hw _ hf K hK
        have f0 := hf 13 rfl
        simp only [F44] at f0
        clear hf
        go_simp
        exact hK _ _ _ rfl (by show _ = _; rw [IntWalk.i64_in _ (by omega)]) hw (Below.refl _ _) (fun h => absurd h (by decide))
      · intro a w2 hw _ hf K hK
        have f0 := hf 12 rfl
        have f1 := hf 14 rfl
        simp only [F44] at f0 f1
        clear hf
        go_simp
        exact hK _ _ _ rfl (congrArg Value.bool hb1.out) hw (Below.refl _ _) (fun h => absurd h (by decide))
      · intro a w2 hw _ hf K hK
        have f0 := hf 15 rfl
        simp only [F44] at f0
        clear hf
        go_simp
        exact hK _ _ _ rfl rfl hw (Below.refl _ _) (fun h => absurd h (by decide))
      · refine ⟨?_, ?_⟩
        · intro a w2 hw hg hf K hK
          have f0 := hf 6 rfl
          simp only [F44] at f0
          simp only [F44] at hg
          have hg := (Value.bool.inj hg).symm
          clear hf
          go_simp
          exact hK _ _ _ rfl (fun _ => rfl) hw (Below.refl _ _) (fun h => absurd h (by decide))
        · intro v w _ hv hne; simp only [F44] at hv ⊢; intro h; exact absurd (hv.trans (by rw [h])) hne
      · refine ⟨?_, ?_⟩
        · intro a w2 hw hg hf K hK
          have f0 := hf 17 rfl
          simp only [F44] at f0
          simp only [F44] at hg
          have hg := (Value.bool.inj hg).symm
          clear hf
          have f0 := f0 hg
          obtain ⟨x0, x1, x2, x3, x4, x5⟩ := hcell.out.1 w2 hw
          go_simp
          exact hK _ _ _ rfl (fun _ => rfl) hw (Below.refl _ _) (fun h => absurd h (by decide))
        · intro v w _ hv hne; simp only [F44] at hv ⊢; intro h; exact absurd (hv.trans (by rw [h])) hne
      · refine ⟨?_, ?_⟩
        · intro a w2 hw hg hf K hK
          have f0 := hf 5 rfl
          simp only [F44] at f0
          simp only [F44] at hg
          have hg := (Value.bool.inj hg).symm
          clear hf
          go_simp
          exact hK _ _ _ rfl (fun _ => rfl) hw (Below.refl _ _) (fun h => absurd h (by decide))
        · intro v w _ hv hne; simp only [F44] at hv ⊢; intro h; exact absurd (hv.trans (by rw [h])) hne
      · refine ⟨?_, ?_⟩
        · intro a w2 hw hg hf K hK
          have f0 := hf 19 rfl
          simp only [F44] at f0
          simp only [F44] at hg
          have hg := (Value.bool.inj hg).symm
          clear hf
          have f0 := f0 hg
          obtain ⟨p0, p1, p2, p3, p4, p5⟩ := hcell.out.2.1 w2 hw
          go_simp
          exact hK _ _ _ rfl (fun _ => rfl) hw (Below.refl _ _) (fun h => absurd h (by decide))
        · intro v w _ hv hne; simp only [F44] at hv ⊢; intro h; exact absurd (hv.trans (by rw [h])) hne
      · refine ⟨?_, ?_⟩
        · intro a w2 hw hg hf K hK
          have f0 := hf 18 rfl
          have f1 := hf 20 rfl
          simp only [F44] at f0 f1
          simp only [F44] at hg
          have hg := (Value.bool.inj hg).symm
          clear hf
          have f0 := f0 hg
          have f1 := f1 hg
          go_simp
          exact hK _ _ _ rfl (fun _ => congrArg Value.bool hb2.out) hw (Below.refl _ _) (fun h => absurd h (by decide))
        · intro v w _ hv hne; simp only [F44] at hv ⊢; intro h; exact absurd (hv.trans (by rw [h])) hne
      · intro a w2 hw _ hf K hK
        have f0 := hf 16 rfl
        have f1 := hf 21 rfl
        simp only [F44] at f0 f1
        clear hf
        have e := hc2.out
        cases b1 with
        | true => go_simp; exact hK _ _ _ rfl (by show _ = _; rw [e]; rfl) hw (Below.refl _ _) (fun h => absurd h (by decide))
        | false => have f1 := f1 rfl; go_simp; exact hK _ _ _ rfl (by show _ = _; rw [e]; rfl) hw (Below.refl _ _) (fun h => absurd h (by decide))
      · intro a w2 hw _ hf K hK
        have f0 := hf 22 rfl
        simp only [F44] at f0
        clear hf
        go_simp
        exact hK _ _ _ rfl rfl hw (Below.refl _ _) (fun h => absurd h (by decide))
      · refine ⟨?_, ?_⟩
        · intro a w2 hw hg hf K hK
          have f0 := hf 6 rfl
          simp only [F44] at f0
          simp only [F44] at hg
          have hg := (Value.bool.inj hg).symm
          clear hf
          go_simp
          exact hK _ _ _ rfl (fun _ => rfl) hw (Below.refl _ _) (fun h => absurd h (by decide))
        · intro v w _ hv hne; simp only [F44] at hv ⊢; intro h; exact absurd (hv.trans (by rw [h])) hne
      · refine ⟨?_, ?_⟩
        · intro a w2 hw hg hf K hK
          have f0 := hf 24 rfl
          simp only [F44] at f0
          simp only [F44] at hg
          have hg := (Value.bool.inj hg).symm
          clear hf
          have f0 := f0 hg
          obtain ⟨x0, x1, x2, x3, x4, x5⟩ := hcell.out.1 w2 hw
          go_simp
          exact hK _ _ _ rfl (fun _ => rfl) hw (Below.refl _ _) (fun h => absurd h (by decide))
        · intro v w _ hv hne; simp only [F44] at hv ⊢; intro h; exact absurd (hv.trans (by rw [h])) hne
      · refine ⟨?_, ?_⟩
        · intro a w2 hw hg hf K hK
          have f0 := hf 25 rfl
          simp only [F44] at f0
          simp only [F44] at hg
          have hg := (Value.bool.inj hg).symm
          clear hf
          have f0 := f0 hg
          go_simp
          exact hK _ _ _ rfl (fun _ => congrArg Value.bool hb3.out) hw (Below.refl _ _) (fun h => absurd h (by decide))
        · intro v w _ hv hne; simp only [F44] at hv ⊢; intro h; exact absurd (hv.trans (by rw [h])) hne
      · intro a w2 hw _ hf K hK
        have f0 := hf 23 rfl
        have f1 := hf 26 rfl
        simp only [F44] at f0 f1
        clear hf
        have e := hc3.out
        cases c2 with
        | true => go_simp; exact hK _ _ _ rfl (by show _ = _; rw [e]; rfl) hw (Below.refl _ _) (fun h => absurd h (by decide))
        | false => have f1 := f1 rfl; go_simp; exact hK _ _ _ rfl (by show _ = _; rw [e]; rfl) hw (Below.refl _ _) (fun h => absurd h (by decide))
      · intro a w2 hw _ hf K hK
        have f0 := hf 27 rfl
        simp only [F44] at f0
        clear hf
        go_simp
        exact hK _ _ _ rfl rfl hw (Below.refl _ _) (fun h => absurd h (by decide))
      · refine ⟨?_, ?_⟩
        · intro a w2 hw hg hf K hK
          have f0 := hf 6 rfl
          simp only [F44] at f0
          simp only [F44] at hg
          have hg := (Value.bool.inj hg).symm
          clear hf
          go_simp
          exact hK _ _ _ rfl (fun _ => rfl) hw (Below.refl _ _) (fun h => absurd h (by decide))
        · intro v w _ hv hne; simp only [F44] at hv ⊢; intro h; exact absurd (hv.trans (by rw [h])) hne
      · refine ⟨?_, ?_⟩
        · intro a w2 hw hg hf K hK
          have f0 := hf 29 rfl
          simp only [F44] at f0
          simp only [F44] at hg
          have hg := (Value.bool.inj hg).symm
          clear hf
          have f0 := f0 hg
          obtain ⟨x0, x1, x2, x3, x4, x5⟩ := hcell.out.1 w2 hw
          go_simp
          exact hK _ _ _ rfl (fun _ => rfl) hw (Below.refl _ _) (fun h => absurd h (by decide))
        · intro v w _ hv hne; simp only [F44] at hv ⊢; intro h; exact absurd (hv.trans (by rw [h])) hne
      · refine ⟨?_, ?_⟩
        · intro a w2 hw hg hf K hK
          have f0 := hf 30 rfl
          simp only [F44] at f0
          simp only [F44] at hg
          have hg := (Value.bool.inj hg).symm
          clear hf
          have f0 := f0 hg
          go_simp
          exact hK _ _ _ rfl (fun _ => congrArg Value.bool hb4.out) hw (Below.refl _ _) (fun h => absurd h (by decide))
        · intro v w _ hv hne; simp only [F44] at hv ⊢; intro h; exact absurd (hv.trans (by rw [h])) hne
      · intro a w2 hw _ hf K hK
        have f0 := hf 28 rfl
        have f1 := hf 31 rfl
        simp only [F44] at f0 f1
        clear hf
        have e := hc4.out
        cases c3 with
        | true => go_simp; exact hK _ _ _ rfl (by show _ = _; rw [e]; rfl) hw (Below.refl _ _) (fun h => absurd h (by decide))
        | false => have f1 := f1 rfl; go_simp; exact hK _ _ _ rfl (by show _ = _; rw [e]; rfl) hw (Below.refl _ _) (fun h => absurd h (by decide))
      · intro a w2 hw _ hf K hK
        have f0 := hf 32 rfl
        simp only [F44] at f0
        clear hf
        go_simp
        exact hK _ _ _ rfl rfl hw (Below.refl _ _) (fun h => absurd h (by decide))
      · refine ⟨?_, ?_⟩
        · intro a w2 hw hg hf K hK
          have f0 := hf 6 rfl
          simp only [F44] at f0
          simp only [F44] at hg
          have hg := (Value.bool.inj hg).symm
          clear hf
          go_simp
          exact hK _ _ _ rfl (fun _ => rfl) hw (Below.refl _ _) (fun h => absurd h (by decide))
        · intro v w _ hv hne; simp only [F44] at hv ⊢; intro h; exact absurd (hv.trans (by rw [h])) hne
      · refine ⟨?_, ?_⟩
        · intro a w2 hw hg hf K hK
          have f0 := hf 34 rfl
          simp only [F44] at f0
          simp only [F44] at hg
          have hg := (Value.bool.inj hg).symm
          clear hf
          have f0 := f0 hg
          obtain ⟨x0, x1, x2, x3, x4, x5⟩ := hcell.out.1 w2 hw
          go_simp
          exact hK _ _ _ rfl (fun _ => rfl) hw (Below.refl _ _) (fun h => absurd h (by decide))
        · intro v w _ hv hne; simp only [F44] at hv ⊢; intro h; exact absurd (hv.trans (by rw [h])) hne
      · refine ⟨?_, ?_⟩
        · intro a w2 hw hg hf K hK
          have f0 := hf 5 rfl
          simp only [F44] at f0
          simp only [F44] at hg
          have hg := (Value.bool.inj hg).symm
          clear hf
          go_simp
          exact hK _ _ _ rfl (fun _ => rfl) hw (Below.refl _ _) (fun h => absurd h (by decide))
        · intro v w _ hv hne; simp only [F44] at hv ⊢; intro h; exact absurd (hv.trans (by rw [h])) hne
      · refine ⟨?_, ?_⟩
        · intro a w2 hw hg hf K hK
          have f0 := hf 36 rfl
          simp only [F44] at f0
          simp only [F44] at hg
          have hg := (Value.bool.inj hg).symm
          clear hf
          have f0 := f0 hg
          obtain ⟨p0, p1, p2, p3, p4, p5⟩ := hcell.out.2.1 w2 hw
          go_simp
          exact hK _ _ _ rfl (fun _ => rfl) hw (Below.refl _ _) (fun h => absurd h (by decide))
        · intro v w _ hv hne; simp only [F44] at hv ⊢; intro h; exact absurd (hv.trans (by rw [h])) hne
      · refine ⟨?_, ?_⟩
        · intro a w2 hw hg hf K hK
          have f0 := hf 6 rfl
          simp only [F44] at f0
          simp only [F44] at hg
          have hg := (Value.bool.inj hg).symm
          clear hf
          obtain ⟨x0, x1, x2, x3, x4, x5⟩ := hcell.out.1 w2 hw
          go_simp
          exact hK _ _ _ rfl (fun _ => rfl) hw (Below.refl _ _) (fun h => absurd h (by decide))
        · intro v w _ hv hne; simp only [F44] at hv ⊢; intro h; exact absurd (hv.trans (by rw [h])) hne
      · refine ⟨?_, ?_⟩
        · intro a w2 hw hg hf K hK
          have f0 := hf 37 rfl
          have f1 := hf 38 rfl
          simp only [F44] at f0 f1
          simp only [F44] at hg
          have hg := (Value.bool.inj hg).symm
          clear hf
          have f0 := f0 hg
          have f1 := f1 hg
          go_simp
          refine ⟨trivial, rfl, (CallsIn.inRound _ (callsIn_wide.2 (hhash.out w2))).mono ?_⟩; rintro e w5 ⟨rfl, hb⟩
          exact hK _ _ _ rfl (fun _ => rfl) (hw.trans (hb.mono hw.size)) hb (fun h => absurd h (by decide))
        · intro v w _ hv hne; simp only [F44] at hv ⊢; intro h; exact absurd (hv.trans (by rw [h])) hne
      · refine ⟨?_, ?_⟩
        · intro a w2 hw hg hf K hK
          have f0 := hf 35 rfl
          have f1 := hf 39 rfl
          simp only [F44] at f0 f1
          simp only [F44] at hg
          have hg := (Value.bool.inj hg).symm
          clear hf
          have f0 := f0 hg
          have f1 := f1 hg
          go_simp
          exact hK _ _ _ rfl (fun _ => congrArg Value.bool hb5.out) hw (Below.refl _ _) (fun h => absurd h (by decide))
        · intro v w _ hv hne; simp only [F44] at hv ⊢; intro h; exact absurd (hv.trans (by rw [h])) hne
      · intro a w2 hw _ hf K hK
        have f0 := hf 33 rfl
        have f1 := hf 40 rfl
        simp only [F44] at f0 f1
        clear hf
        have e := hc5.out
        cases c4 with
        | true => go_simp; exact hK _ _ _ rfl (by show _ = _; rw [e]; rfl) hw (Below.refl _ _) (fun h => absurd h (by decide))
        | false => have f1 := f1 rfl; go_simp; exact hK _ _ _ rfl (by show _ = _; rw [e]; rfl) hw (Below.refl _ _) (fun h => absurd h (by decide))
    · intro a' w9 hd hs hw hout hf _
      have h41 := hf 41 rfl
      simp only [F44] at h41
      have e2 : _ = some (Value.pointer (some ⟨s, 0, none⟩)) := hout 2 rfl
      have e3 : _ = some (Value.pointer (some ⟨s + 1, 0, none⟩)) := hout 3 rfl
      have e4 : _ = some (Value.pointer (some ⟨s + 1 + 1, 0, none⟩)) := hout 4 rfl
      obtain ⟨tm, df⟩ := a'
      simp only at hd hs h41 e2 e3 e4
      have e := lit_arr tm 46 hs
      rw [show (List.range 46).map (fun i => tm[i]?.getD undef) = [tm[0]?.getD undef, tm[1]?.getD undef, tm[2]?.getD undef, tm[3]?.getD undef, tm[4]?.getD undef, tm[5]?.getD undef, tm[6]?.getD undef, tm[7]?.getD undef, tm[8]?.getD undef, tm[9]?.getD undef, tm[10]?.getD undef, tm[11]?.getD undef, tm[12]?.getD undef, tm[13]?.getD undef, tm[14]?.getD undef, tm[15]?.getD undef, tm[16]?.getD undef, tm[17]?.getD undef, tm[18]?.getD undef, tm[19]?.getD undef, tm[20]?.getD undef, tm[21]?.getD undef, tm[22]?.getD undef, tm[23]?.getD undef, tm[24]?.getD undef, tm[25]?.getD undef, tm[26]?.getD undef, tm[27]?.getD undef, tm[28]?.getD undef, tm[29]?.getD undef, tm[30]?.getD undef, tm[31]?.getD undef, tm[32]?.getD undef, tm[33]?.getD undef, tm[34]?.getD undef, tm[35]?.getD undef, tm[36]?.getD undef, tm[37]?.getD undef, tm[38]?.getD undef, tm[39]?.getD undef, tm[40]?.getD undef, tm[41]?.getD undef, tm[42]?.getD undef, tm[43]?.getD undef, tm[44]?.getD undef, tm[45]?.getD undef] from rfl] at e
      simp only [h41, e2, e3, e4, Option.getD_some] at e
      clear hf hout hs
      rw [e, hd]
      clear e hd h41 e2 e3 e4
      generalize tm[0]?.getD undef = u0x
      generalize tm[1]?.getD undef = u1x
      generalize tm[5]?.getD undef = u5x
      generalize tm[6]?.getD undef = u6x
      generalize tm[7]?.getD undef = u7x
      generalize tm[8]?.getD undef = u8x
      generalize tm[9]?.getD undef = u9x
      generalize tm[10]?.getD undef = u10x
      generalize tm[11]?.getD undef = u11x
      generalize tm[12]?.getD undef = u12x
      generalize tm[13]?.getD undef = u13x
      generalize tm[14]?.getD undef = u14x
      generalize tm[15]?.getD undef = u15x
      generalize tm[16]?.getD undef = u16x
      generalize tm[17]?.getD undef = u17x
      generalize tm[18]?.getD undef = u18x
      generalize tm[19]?.getD undef = u19x
      generalize tm[20]?.getD undef = u20x
      generalize tm[21]?.getD undef = u21x
      generalize tm[22]?.getD undef = u22x
      generalize tm[23]?.getD undef = u23x
      generalize tm[24]?.getD undef = u24x
      generalize tm[25]?.getD undef = u25x
      generalize tm[26]?.getD undef = u26x
      generalize tm[27]?.getD undef = u27x
      generalize tm[28]?.getD undef = u28x
      generalize tm[29]?.getD undef = u29x
      generalize tm[30]?.getD undef = u30x
      generalize tm[31]?.getD undef = u31x
      generalize tm[32]?.getD undef = u32x
      generalize tm[33]?.getD undef = u33x
      generalize tm[34]?.getD undef = u34x
      generalize tm[35]?.getD undef = u35x
      generalize tm[36]?.getD undef = u36x
      generalize tm[37]?.getD undef = u37x
      generalize tm[38]?.getD undef = u38x
      generalize tm[39]?.getD undef = u39x
      generalize tm[40]?.getD undef = u40x
      generalize tm[42]?.getD undef = u42x
      generalize tm[43]?.getD undef = u43x
      generalize tm[44]?.getD undef = u44x
      generalize tm[45]?.getD undef = u45x
      have hkw := hw
      clear hcell hhash hw
      have z0 := hI2.out.r0.below hkw hI2.out.r0.lt
      have z1 := hI2.out.r1.below hkw hI2.out.r1.lt
      have z2 := hI2.out.i.below hkw hI2.out.i.lt
      have zb := hI2.out.b.trans (hkw.mono (by have := hI2.out.r0.lt; omega))
      have zw := hkw.mono (show s ≤ W2.heap.size by have := hI2.out.r0.lt; omega)
      have zk : ∀ b, b < W2.heap.size → w9.heap[b]? = W2.heap[b]? := fun b hb => hkw.block b hb
      have zs := hkw.size
      obtain ⟨y0, y1, y2, y3, y4, y5⟩ := (show w9.cell? ⟨s, 0, none⟩ = some (Value.int .i64 0) ∧ w9.cell? ⟨s + 1, 0, none⟩ = some (Value.int .i64 0) ∧ w9.cell? ⟨s + 1 + 1, 0, none⟩ = some (Value.int .i64 k) ∧ w9.frozen? ⟨s, 0, none⟩ = false ∧ w9.frozen? ⟨s + 1, 0, none⟩ = false ∧ w9.frozen? ⟨s + 1 + 1, 0, none⟩ = false from ⟨z0.cell 0, z1.cell 0, z2.cell 0, z0.frozen 0, z1.frozen 0, z2.frozen 0⟩)
      replace z0 := Lib.hid z0
      replace z1 := Lib.hid z1
      replace z2 := Lib.hid z2
      replace zb := Lib.hid zb
      replace zk := Lib.hid zk
      replace zw := Lib.hid zw
      replace zs := Lib.hid zs
      clear hkw
      cases c5 with
      | true =>
        rw [hres.out] at hst hgt
        have hN : verN L = k := by rw [hI2.out.v, hpk.out, hst.out]; rfl
        have hE7 : verE L = 7 := by rw [hE.out, hI2.out.g, hpk.out, hgt.out]; rfl
        replace hN := Lib.hid hN
        replace hE7 := Lib.hid hE7
        gi_wp2
        refine ⟨⟨?_, ?_, below_set (below_set zb.out (Nat.le_refl _) 0 _) (Nat.le_succ _) 0 _⟩, by simpa using zs.out, below_set (below_set zw.out (Nat.le_refl _) 0 _) (Nat.le_succ _) 0 _, fun b hb => ?_⟩
        · rw [hN.out]
          have := ((z0.out.set_ 0 (Value.int .i64 k)).far (p := ⟨s + 1, 0, none⟩) (by simp) (Value.int .i64 7))
          simpa using this
        · rw [hE7.out]
          have := ((z1.out.far (p := ⟨s, 0, none⟩) (by simp) (Value.int .i64 k)).set_ 0 (Value.int .i64 7))
          simpa using this
        · have h4 : s + 1 + 1 + 1 ≤ b ∧ b < W2.heap.size := by have := hbs.out; have := hsW.out; omega
          rw [Below.heap_setCell _ _ _ b (by show b ≠ s + 1; omega), Below.heap_setCell _ _ _ b (by show b ≠ s; omega)]
          exact zk.out b h4.2
      | false =>
        rw [hres.out] at hst hgt
        have hN : verN L = verF (prevL L (k + 1)) (k + 1) (L.drop (k + 1)) := by rw [hI2.out.v, hpk.out, hst.out]; rfl
        have hG : goodF noLn 0 L = goodF (prevL L (k + 1)) (k + 1) (L.drop (k + 1)) := by rw [hI2.out.g, hpk.out, hgt.out]; rfl
        replace hN := Lib.hid hN
        replace hG := Lib.hid hG
        gi_wp2
        refine ⟨⟨(z0.out.far (p := ⟨s + 1 + 1, 0, none⟩) (by simp; try omega) (Value.int .i64 (k + 1))), (z1.out.far (p := ⟨s + 1 + 1, 0, none⟩) (by simp; try omega) (Value.int .i64 (k + 1))), ?_, below_set zb.out (by omega) 0 _, hN.out, hG.out⟩, by simpa using zs.out, below_set zw.out (by omega) 0 _, fun b hb => ?_⟩
        · have := z2.out.set_ 0 (Value.int .i64 (k + 1))
          simpa using this
        · have h4 : s + 1 + 1 + 1 ≤ b ∧ b < W2.heap.size := by have := hbs.out; have := hsW.out; omega
          rw [Below.heap_setCell _ _ _ b (by show b ≠ s + 1 + 1; omega)]
          exact zk.out b h4.2
  · intro W hI hK
    obtain ⟨i0, i1, i2, i3, i4, i5⟩ := hI
    obtain ⟨y0, y1, y2, y3, y4, y5⟩ := (show W.cell? ⟨s, 0, none⟩ = some (Value.int .i64 0) ∧ W.cell? ⟨s + 1, 0, none⟩ = some (Value.int .i64 0) ∧ W.cell? ⟨s + 1 + 1, 0, none⟩ = some (Value.int .i64 n) ∧ W.frozen? ⟨s, 0, none⟩ = false ∧ W.frozen? ⟨s + 1, 0, none⟩ = false ∧ W.frozen? ⟨s + 1 + 1, 0, none⟩ = false from ⟨i0.cell 0, i1.cell 0, i2.cell 0, i0.frozen 0, i1.frozen 0, i2.frozen 0⟩)
    replace i0 := Lib.hid i0
    replace i1 := Lib.hid i1
    replace i2 := Lib.hid i2
    replace i4 := Lib.hid i4
    replace i5 := Lib.hid i5
    have hd : L.drop n = [] := List.drop_eq_nil_of_le (by have := hn.out; omega)
    have hN : verN L = n := by rw [i4.out, hd]; rfl
    have hE0 : verE L = 0 := by rw [hE.out, i5.out, hd]; rfl
    replace hN := Lib.hid hN
    replace hE0 := Lib.hid hE0
    gi_wp2
    have hK2 := (KeepsOthers.setCell (W.setCell ⟨s, 0, none⟩ (Value.int .i64 n)) ⟨s + 1, 0, none⟩ (Value.int .i64 0)).same _ _ ((KeepsOthers.setCell W ⟨s, 0, none⟩ (Value.int .i64 n)).same _ _ hK rfl) rfl
    have z0 : Blk ((W.setCell ⟨s, 0, none⟩ (Value.int .i64 n)).setCell ⟨s + 1, 0, none⟩ (Value.int .i64 0)) s 3 #[Value.int .i64 n] := by
      have := ((i0.out.set_ 0 (Value.int .i64 n)).far (p := ⟨s + 1, 0, none⟩) (by simp) (Value.int .i64 0))
      simpa using this
    have z1 : Blk ((W.setCell ⟨s, 0, none⟩ (Value.int .i64 n)).setCell ⟨s + 1, 0, none⟩ (Value.int .i64 0)) (s + 1) 41 #[Value.int .i64 0] := by
      have := ((i1.out.far (p := ⟨s, 0, none⟩) (by simp) (Value.int .i64 n)).set_ 0 (Value.int .i64 0))
      simpa using this
    have zb := below_set (below_set i3 (Nat.le_refl _) 0 (Value.int .i64 n)) (Nat.le_succ _) 0 (Value.int .i64 0)
    generalize (W.setCell ⟨s, 0, none⟩ (Value.int .i64 n)).setCell ⟨s + 1, 0, none⟩ (Value.int .i64 0) = W' at hK2 z0 z1 zb ⊢
    refine ⟨by simp, .inl ⟨_, _, rfl, run_takeDeferred hK2, ?_⟩⟩
    have hg := grownBy_putObj' W' w4.heap.size (.deferred none)
    have e0 := (z0.grown hg (by intro e; injection e with e; have := hsz.out; omega)).cell 0
    have e1 := (z1.grown hg (by intro e; injection e with e; have := hsz.out; omega)).cell 0
    refine ⟨.tuple #[.int .i64 n, .int .i64 0], ?_, by rw [hN.out, hE0.out], by rw [← hs2.out]; exact zb.grown hg (by have := z0.lt; omega) (fun r e => by cases e; have := hsz.out; omega)⟩
    simp at e0 e1
    simp [results, Try.results44, go_sem, e0, e1]
  · rintro W ⟨i0, i1, i3⟩ hK
    gi_wp2
    refine ⟨by simp, .inl ⟨_, _, rfl, run_takeDeferred hK, ?_⟩⟩
    have hg := grownBy_putObj' W w4.heap.size (.deferred none)
    have e0 := (i0.grown hg (by intro e; injection e with e; have := hsz.out; omega)).cell 0
    have e1 := (i1.grown hg (by intro e; injection e with e; have := hsz.out; omega)).cell 0
    refine ⟨.tuple #[.int .i64 (verN L), .int .i64 (verE L)], ?_, rfl, by rw [← hs2.out]; exact i3.grown hg (by have := i0.lt; omega) (fun r e => by cases e; have := hsz.out; omega)⟩
    simp at e0 e1
    simp [results, Try.results44, go_sem, e0, e1]
end Go.Proofs.Ytiggpgeldigknaa
