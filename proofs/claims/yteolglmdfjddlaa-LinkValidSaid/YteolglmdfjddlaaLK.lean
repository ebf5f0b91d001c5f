/- Links: the law LinkValid, walked. -/
import Derived.Test.YteolglmdfjddlaaLJ
set_option linter.unusedVariables false
set_option linter.unusedSimpArgs false
namespace Go.Proofs.Yteolglmdfjddlaa
open Go.RowKit
def F3 (g : Nat) (E : Int) (Xv : Array Value) : Tmp → Value → World → Prop
  | 1, v, _ => v = .pointer (some ⟨g, 0, none⟩)
  | 2, v, _ => v = .bool true
  | 31, v, _ => v = .agg Xv
  | 32, v, _ => v = .int .i64 E
  | 33, v, _ => v = .agg Xv
  | 34, v, _ => v = .int .i64 E
  | 35, v, _ => v = .bool true
  | 36, v, _ => v = .bool true
  | 37, v, _ => v = .bool true
  | 38, v, _ => v = .bool true
  | _, _, _ => True
theorem F3_more {g : Nat} {E : Int} {Xv : Array Value} (d t : Tmp) (v : Value) (w w' : World) (hR : Rb w w') (hne : t ≠ d) (hc : ([] : List (Tmp × Tmp)).contains (d, t) = false) (h : F3 g E Xv t v w) : F3 g E Xv t v w' := by
  unfold F3 at *
  split at h <;> first | exact h
set_option maxRecDepth 100000 in
set_option maxHeartbeats 8000000 in
theorem lawValid (l : Lk) (w : World) (h : LkOk w l) : Calls Try.prog 3 #[lkV l] w fun e w' => e = .returned (.bool true) ∧ Below w.heap.size w w' := by
  have hln := Lib.hid h.la.len
  have hbn := Lib.hid h.ba.len
  have hbd := Lib.hid h.bb
  have hld := Lib.hid h.lb
  have hA0 := Lib.hid (fun w2 (hb : Below w.heap.size w w2) (h1 : l.lose.length ≤ 1000) (h2 : l.box.length ≤ 1000) => valid_any l w2 (h.more hb) h1 h2)
  have hR0 := Lib.hid (fun w2 (hb : Below w.heap.size w w2) (h1 : l.lose.length ≤ 1000) (h2 : l.box.length ≤ 1000) => rvalid_any l w2 (h.more hb) h1 h2)
  obtain ⟨now, delay, cut, count, lA, ln, lc, lose, bA, bn, bc, box⟩ := l
  simp only [lkV, Lk.val] at *
  replace h := Lib.hid h
  have hX0 := Lib.hid (Blk.new w 25 #[Value.int .i64 now, Value.int .i64 delay, Value.bool cut, Value.int .i64 count, Value.slice lA ln lc, Value.slice bA bn bc])
  have hb0 := Lib.hid (a1 w (.cells #[Value.int .i64 now, Value.int .i64 delay, Value.bool cut, Value.int .i64 count, Value.slice lA ln lc, Value.slice bA bn bc] 25))
  have hbb := hb0
  obtain ⟨k0, k1, k2, k3, k4, k5⟩ := (show (w.alloc (.cells #[Value.int .i64 now, Value.int .i64 delay, Value.bool cut, Value.int .i64 count, Value.slice lA ln lc, Value.slice bA bn bc] 25)).cell? ⟨w.heap.size, 0, none⟩ = some (Value.int .i64 now) ∧ (w.alloc (.cells #[Value.int .i64 now, Value.int .i64 delay, Value.bool cut, Value.int .i64 count, Value.slice lA ln lc, Value.slice bA bn bc] 25)).cell? ⟨w.heap.size, 1, none⟩ = some (Value.int .i64 delay) ∧ (w.alloc (.cells #[Value.int .i64 now, Value.int .i64 delay, Value.bool cut, Value.int .i64 count, Value.slice lA ln lc, Value.slice bA bn bc] 25)).cell? ⟨w.heap.size, 2, none⟩ = some (Value.bool cut) ∧ (w.alloc (.cells #[Value.int .i64 now, Value.int .i64 delay, Value.bool cut, Value.int .i64 count, Value.slice lA ln lc, Value.slice bA bn bc] 25)).cell? ⟨w.heap.size, 3, none⟩ = some (Value.int .i64 count) ∧ (w.alloc (.cells #[Value.int .i64 now, Value.int .i64 delay, Value.bool cut, Value.int .i64 count, Value.slice lA ln lc, Value.slice bA bn bc] 25)).cell? ⟨w.heap.size, 4, none⟩ = some (Value.slice lA ln lc) ∧ (w.alloc (.cells #[Value.int .i64 now, Value.int .i64 delay, Value.bool cut, Value.int .i64 count, Value.slice lA ln lc, Value.slice bA bn bc] 25)).cell? ⟨w.heap.size, 5, none⟩ = some (Value.slice bA bn bc) from ⟨hX0.out.cell 0, hX0.out.cell 1, hX0.out.cell 2, hX0.out.cell 3, hX0.out.cell 4, hX0.out.cell 5⟩)
  by_cases q1 : 300 < ln
  · have q1i : (300 : Int) < (ln : Int) := by omega
    have q1d : decide ((300 : Int) < (ln : Int)) = true := by simp; omega
    go_enter Try.func3, Try.ntmps3
    go_wp2_with fail
    refine (ex_any _).mono ?_; rintro e w5 ⟨rfl, hq⟩
    go_wp2_with fail
    go_ret
    exact ⟨rfl, hbb.out.trans (hq.mono hbb.out.size)⟩
  have q1i : ¬ (300 : Int) < (ln : Int) := by omega
  have q1d : decide ((300 : Int) < (ln : Int)) = false := by simp; omega
  by_cases q2 : 300 < bn
  · have q2i : (300 : Int) < (bn : Int) := by omega
    have q2d : decide ((300 : Int) < (bn : Int)) = true := by simp; omega
    go_enter Try.func3, Try.ntmps3
    go_wp2_with fail
    refine (ex_any _).mono ?_; rintro e w5 ⟨rfl, hq⟩
    go_wp2_with fail
    go_ret
    exact ⟨rfl, hbb.out.trans (hq.mono hbb.out.size)⟩
  have q2i : ¬ (300 : Int) < (bn : Int) := by omega
  have q2d : decide ((300 : Int) < (bn : Int)) = false := by simp; omega
  go_enter Try.func3, Try.ntmps3
  go_wp2_with fail
  clear k0 k1 k2 k3 k4 k5
  go_loopw [18] (fun i wr => ∃ k : Nat, k ≤ bn ∧ i = .int .i64 k ∧ Hid (Blk wr w.heap.size 25 #[Value.int .i64 now, Value.int .i64 delay, Value.bool cut, Value.int .i64 count, Value.slice lA ln lc, Value.slice bA bn bc]) ∧ Hid (Below w.heap.size w wr)) (fun i _ => bn - (intOf i).toNat)
  case atStart => exact ⟨0, Nat.zero_le _, rfl, hX0.out, hb0.out⟩
  clear hX0 hb0 hbb
  case round =>
    obtain ⟨k, hkn, rfl, hX, hb⟩ := hrel
    have hbb := hb
    obtain ⟨k0, k1, k2, k3, k4, k5⟩ := (show wr.cell? ⟨w.heap.size, 0, none⟩ = some (Value.int .i64 now) ∧ wr.cell? ⟨w.heap.size, 1, none⟩ = some (Value.int .i64 delay) ∧ wr.cell? ⟨w.heap.size, 2, none⟩ = some (Value.bool cut) ∧ wr.cell? ⟨w.heap.size, 3, none⟩ = some (Value.int .i64 count) ∧ wr.cell? ⟨w.heap.size, 4, none⟩ = some (Value.slice lA ln lc) ∧ wr.cell? ⟨w.heap.size, 5, none⟩ = some (Value.slice bA bn bc) from ⟨hX.out.cell 0, hX.out.cell 1, hX.out.cell 2, hX.out.cell 3, hX.out.cell 4, hX.out.cell 5⟩)
    by_cases hlt : k < bn
    · have hk0 : (0 : Int) ≤ k := by omega
      have hk1 : (k : Int) < bn := by omega
      obtain ⟨ad, hA, -, -, e1⟩ := pk_cells (h.out.ba.below hb.out (Nat.le_refl _)) hlt
      (try simp only at hA e1)
      generalize hp : (box[k]'(by have := hbn.out; (try simp only at this); omega)) = p at e1
      replace hp := Lib.hid hp
      obtain ⟨due, pA, pn, pc, pd⟩ := p
      simp only at e1
      subst hA
      by_cases q : 1048576 < pn
      · have qi : (1048576 : Int) < (pn : Int) := by omega
        have qd : decide ((1048576 : Int) < (pn : Int)) = true := by simp; omega
        go_wp2_with fail
        refine (ex_any _).mono ?_; rintro e w5 ⟨rfl, hq⟩
        go_wp2_with fail
        go_ret
        exact ⟨rfl, hbb.out.trans (hq.mono hbb.out.size)⟩
      · have qi : ¬ (1048576 : Int) < (pn : Int) := by omega
        have qd : decide ((1048576 : Int) < (pn : Int)) = false := by simp; omega
        go_wp2_with fail
        go_roundw
        case rel => exact ⟨k + 1, by omega, by go_num, hX.out, hb.out⟩
        case measure => simp [intOf]; omega
    · obtain ⟨E, hE⟩ : ∃ E, E = validL ⟨now, delay, cut, count, lose, box.map Pk.val⟩ := ⟨_, rfl⟩
      have hv1 : Hid (∀ wz, Below wr.heap.size wr wz → Calls Try.prog 9 #[.agg #[Value.int .i64 now, Value.int .i64 delay, Value.bool cut, Value.int .i64 count, Value.slice lA ln lc, Value.slice bA bn bc]] wz fun e w' => e = .returned (.int .i64 E) ∧ Below wz.heap.size wz w') := fun wz hz => by
        rw [hE]; exact hA0.out wz (hb.out.trans (hz.mono hb.out.size)) (by have := hln.out; omega) (by have := hbn.out; omega)
      have hv2 : Hid (∀ wz, Below wr.heap.size wr wz → Calls Try.prog 10 #[.agg #[Value.int .i64 now, Value.int .i64 delay, Value.bool cut, Value.int .i64 count, Value.slice lA ln lc, Value.slice bA bn bc]] wz fun e w' => e = .returned (.int .i64 E) ∧ Below wz.heap.size wz w') := fun wz hz => by
        rw [hE]; exact hR0.out wz (hb.out.trans (hz.mono hb.out.size)) (by have := hln.out; omega) (by have := hbn.out; omega)
      have hex : Hid (∀ wz, Below wr.heap.size wr wz → Calls Try.prog 8 #[] wz fun e w' => e = .returned (.bool true) ∧ Below wz.heap.size wz w') := fun wz _ => ex_any wz
      have hcell : Hid (∀ wz, Below wr.heap.size wr wz → wz.cell? ⟨w.heap.size, 0, none⟩ = some (Value.int .i64 now) ∧ wz.cell? ⟨w.heap.size, 1, none⟩ = some (Value.int .i64 delay) ∧ wz.cell? ⟨w.heap.size, 2, none⟩ = some (Value.bool cut) ∧ wz.cell? ⟨w.heap.size, 3, none⟩ = some (Value.int .i64 count) ∧ wz.cell? ⟨w.heap.size, 4, none⟩ = some (Value.slice lA ln lc) ∧ wz.cell? ⟨w.heap.size, 5, none⟩ = some (Value.slice bA bn bc)) := fun wz hz => by
        have q := hX.out.below hz hX.out.lt
        exact ⟨q.cell 0, q.cell 1, q.cell 2, q.cell 3, q.cell 4, q.cell 5⟩
      clear hA0 hR0 hE k0 k1 k2 k3 k4 k5
      go_wp2_with fail
      refine RM.region [] [] (F := F3 w.heap.size E #[Value.int .i64 now, Value.int .i64 delay, Value.bool cut, Value.int .i64 count, Value.slice lA ln lc, Value.slice bA bn bc]) (W := fun wz => Below wr.heap.size wr wz) (R := fun _ => Rb) (S := noS) (G := noG) rfl F3_more (fun _ _ _ _ _ _ _ => trivial) (fun _ _ _ _ _ h => h.elim) (fun _ _ _ _ _ h => h.elim) (by kernel_rfl) (by kernel_rfl) (by kernel_rfl) (by kernel_rfl) (by kernel_rfl) ?_ ?_ ?_ (by kernel_rfl) ?_
      · exact (Below.refl _ _).drew
      · intro t ht
        unfold F3
        split <;> first | trivial | exact rfl | (exact absurd ht (by decide))
      · simp only [List.forall_mem_cons, List.not_mem_nil, false_implies, implies_true, and_true]
        refine ⟨?_, ?_, ?_, ?_, ?_, ?_, ?_, ?_, ?_⟩
        · intro a w2 hw _ hf K hK
          have f0 := hf 1 rfl
          simp only [F3] at f0
          clear hf
          obtain ⟨k0, k1, k2, k3, k4, k5⟩ := hcell.out w2 hw
          go_simp
          exact hK _ _ _ rfl rfl hw (Below.refl _ _) (fun h => absurd h (by decide))
        · intro a w2 hw _ hf K hK
          have f0 := hf 31 rfl
          simp only [F3] at f0
          clear hf
          go_simp
          refine (hv1.out w2 hw).mono ?_; rintro e w5 ⟨rfl, hbq⟩
          exact hK _ _ _ rfl rfl (hw.trans (hbq.mono hw.size)) hbq (fun h => absurd h (by decide))
        · intro a w2 hw _ hf K hK
          have f0 := hf 1 rfl
          simp only [F3] at f0
          clear hf
          obtain ⟨k0, k1, k2, k3, k4, k5⟩ := hcell.out w2 hw
          go_simp
          exact hK _ _ _ rfl rfl hw (Below.refl _ _) (fun h => absurd h (by decide))
        · intro a w2 hw _ hf K hK
          have f0 := hf 33 rfl
          simp only [F3] at f0
          clear hf
          go_simp
          refine (hv2.out w2 hw).mono ?_; rintro e w5 ⟨rfl, hbq⟩
          exact hK _ _ _ rfl rfl (hw.trans (hbq.mono hw.size)) hbq (fun h => absurd h (by decide))
        · intro a w2 hw _ hf K hK
          have f0 := hf 32 rfl
          have f1 := hf 34 rfl
          simp only [F3] at f0 f1
          clear hf
          go_simp
          exact hK _ _ _ rfl rfl hw (Below.refl _ _) (fun h => absurd h (by decide))
        · intro a w2 hw _ hf K hK
          have f0 := hf 35 rfl
          simp only [F3] at f0
          clear hf
          go_simp
          exact hK _ _ _ rfl rfl hw (Below.refl _ _) (fun h => absurd h (by decide))
        · refine ⟨?_, ?_⟩
          · intro a w2 hw hg hf K hK
            clear hf
            go_simp
            refine (hex.out w2 hw).mono ?_; rintro e w5 ⟨rfl, hbq⟩
            exact hK _ _ _ rfl rfl (hw.trans (hbq.mono hw.size)) hbq (fun h => absurd h (by decide))
          · exact fun v w _ hv hne => absurd hv hne
        · intro a w2 hw _ hf K hK
          have f0 := hf 36 rfl
          have f1 := hf 37 rfl
          simp only [F3] at f0 f1
          clear hf
          go_simp
          exact hK _ _ _ rfl rfl hw (Below.refl _ _) (fun h => absurd h (by decide))
        · intro a w2 hw _ hf K hK
          have f0 := hf 38 rfl
          simp only [F3] at f0
          clear hf
          go_simp
          exact hK _ _ _ rfl rfl hw (Below.refl _ _) (fun h => absurd h (by decide))
      · intro a' w9 hd hs hw hout hf _
        have h2 := hf 2 rfl
        simp only [F3] at h2
        have e0 : _ = some (Value.agg #[Value.int .i64 now, Value.int .i64 delay, Value.bool cut, Value.int .i64 count, Value.slice lA ln lc, Value.slice bA bn bc]) := hout 0 rfl
        obtain ⟨tm, df⟩ := a'
        simp only at hd hs h2 e0
        have e := lit_arr tm 39 hs
        rw [show (List.range 39).map (fun i => tm[i]?.getD undef) = [tm[0]?.getD undef, tm[1]?.getD undef, tm[2]?.getD undef, tm[3]?.getD undef, tm[4]?.getD undef, tm[5]?.getD undef, tm[6]?.getD undef, tm[7]?.getD undef, tm[8]?.getD undef, tm[9]?.getD undef, tm[10]?.getD undef, tm[11]?.getD undef, tm[12]?.getD undef, tm[13]?.getD undef, tm[14]?.getD undef, tm[15]?.getD undef, tm[16]?.getD undef, tm[17]?.getD undef, tm[18]?.getD undef, tm[19]?.getD undef, tm[20]?.getD undef, tm[21]?.getD undef, tm[22]?.getD undef, tm[23]?.getD undef, tm[24]?.getD undef, tm[25]?.getD undef, tm[26]?.getD undef, tm[27]?.getD undef, tm[28]?.getD undef, tm[29]?.getD undef, tm[30]?.getD undef, tm[31]?.getD undef, tm[32]?.getD undef, tm[33]?.getD undef, tm[34]?.getD undef, tm[35]?.getD undef, tm[36]?.getD undef, tm[37]?.getD undef, tm[38]?.getD undef] from rfl] at e
        simp only [h2, e0, Option.getD_some] at e
        clear hf hout hs
        rw [e, hd]
        clear e hd h2 e0
        generalize tm[1]?.getD undef = u1x
        generalize tm[3]?.getD undef = u3x
        generalize tm[4]?.getD undef = u4x
        generalize tm[5]?.getD undef = u5x
        generalize tm[6]?.getD undef = u6x
        generalize tm[7]?.getD undef = u7x
        generalize tm[8]?.getD undef = u8x
        generalize tm[9]?.getD undef = u9x
        generalize tm[10]?.getD undef = u10x
        generalize tm[11]?.getD undef = u11x
        generalize tm[12]?.getD undef = u12x
        generalize tm[13]?.getD undef = u13x
        generalize tm[14]?.getD undef = u14x
        generalize tm[15]?.getD undef = u15x
        generalize tm[16]?.getD undef = u16x
        generalize tm[17]?.getD undef = u17x
        generalize tm[18]?.getD undef = u18x
        generalize tm[19]?.getD undef = u19x
        generalize tm[20]?.getD undef = u20x
        generalize tm[21]?.getD undef = u21x
        generalize tm[22]?.getD undef = u22x
        generalize tm[23]?.getD undef = u23x
        generalize tm[24]?.getD undef = u24x
        generalize tm[25]?.getD undef = u25x
        generalize tm[26]?.getD undef = u26x
        generalize tm[27]?.getD undef = u27x
        generalize tm[28]?.getD undef = u28x
        generalize tm[29]?.getD undef = u29x
        generalize tm[30]?.getD undef = u30x
        generalize tm[31]?.getD undef = u31x
        generalize tm[32]?.getD undef = u32x
        generalize tm[33]?.getD undef = u33x
        generalize tm[34]?.getD undef = u34x
        generalize tm[35]?.getD undef = u35x
        generalize tm[36]?.getD undef = u36x
        generalize tm[37]?.getD undef = u37x
        generalize tm[38]?.getD undef = u38x
        have hb := Lib.hid (hb.out.trans (hw.mono hb.out.size))
        clear hw hcell hv1 hv2 hex
        go_wp2_with fail
        go_ret
        exact ⟨rfl, hb.out⟩
end Go.Proofs.Yteolglmdfjddlaa
