/- Certs: CertValids, walked. -/
import Derived.Test.YtiggpgeldigknaaCQ
import Derived.Test.YtiggpgeldigknaaRK
import Derived.Laws.IdiomStrings
set_option linter.unusedVariables false
set_option linter.unusedSimpArgs false
namespace Go.Proofs.Ytiggpgeldigknaa
open Go.RowKit
theorem sl_str {d : List UInt8} {v : Value} {w : World} (h : Sl d v w) (hd : 0 < d.length) : (convert 85 9 v).run Try.prog w = .ok (.string ⟨d.toArray⟩) w := by
  obtain ⟨A, n, c, rfl, hA, hc⟩ := h
  obtain ⟨ad, rfl, _, hcell⟩ := hA.bytes hd
  have := hA.len
  subst this
  exact run_convert_bytes_back w 85 9 5 ad c d Try.underlying85 Try.underlying5 Try.underlying9 hcell
theorem ctB_ne (c : Ct) (ci : Int) : 0 < (ctB c ci).length := by
  have : 0 < (fdB 1 (enc (zig c.serial))).length := by
    unfold fdB enc
    simp only [List.length_append]
    have : 0 < (encF 10 (zig 1)).length := by decide
    omega
  unfold ctB
  simp only [List.length_append]
  omega
def FV (g : Nat) (row : Array Value) (V : Int) (cb : List UInt8) : Tmp → Value → World → Prop
  | 1, v, _ => v = .pointer (some ⟨g, 0, none⟩)
  | 7, v, _ => v = .agg row
  | 9, v, _ => v = .agg row
  | 13, v, _ => v = .agg row
  | 16, v, _ => v = .agg row
  | 8, v, _ => v = .int .i64 V
  | 10, v, _ => v = .int .i64 V
  | 11, v, _ => v = .bool true
  | 12, v, _ => v = .bool true
  | 14, v, w => Sl cb v w
  | 17, v, w => Sl cb v w
  | 15, v, _ => v = .string ⟨cb.toArray⟩
  | 18, v, _ => v = .string ⟨cb.toArray⟩
  | 19, v, _ => v = .bool true
  | 20, v, _ => v = .bool true
  | 21, v, _ => v = .bool true
  | 22, v, _ => v = .bool true
  | 23, v, _ => v = .bool true
  | 2, v, _ => v = .bool true
  | _, _, _ => True
theorem FV_more {g : Nat} {row : Array Value} {V : Int} {cb : List UInt8} (t : Tmp) (v : Value) (w w' : World) (hR : Rb w w') (h : FV g row V cb t v w) : FV g row V cb t v w' := by
  unfold FV at *
  split at h <;> first | exact h | exact Sl.more h hR
def noS (_ : Value) (_ _ : World) : Prop := False
def noG (_ : Tmp) (_ : Value) (_ : World) : Prop := True
set_option maxRecDepth 100000 in
set_option maxHeartbeats 4000000 in
theorem lawValids (c : Ct) (w : World) (hr : CtR c) : Calls Try.prog 14 #[.agg (ctC c).toArray] w fun e w' => e = .returned (.bool true) ∧ Below w.heap.size w w' := by
  have hok := fun h => ct_ok (c := c) hr h
  obtain ⟨s, sb, is_, f, t, ca, ky, sl⟩ := c
  have px := Lib.hid (Blk.new w 52 #[Value.int .i64 s, Value.string sb, Value.string is_, Value.int .i64 f, Value.int .i64 t, Value.bool ca, Value.int .u64 ky, Value.int .u64 sl])
  have hb := Lib.hid (a1 w (.cells #[Value.int .i64 s, Value.string sb, Value.string is_, Value.int .i64 f, Value.int .i64 t, Value.bool ca, Value.int .u64 ky, Value.int .u64 sl] 52))
  go_enter Try.func14, Try.ntmps14
  unfold ctC
  obtain ⟨k0, k1, k2, k3, k4, k5, k6, k7⟩ := (show (w.alloc (.cells #[Value.int .i64 s, Value.string sb, Value.string is_, Value.int .i64 f, Value.int .i64 t, Value.bool ca, Value.int .u64 ky, Value.int .u64 sl] 52)).cell? ⟨w.heap.size, 0, none⟩ = some (Value.int .i64 s) ∧ (w.alloc (.cells #[Value.int .i64 s, Value.string sb, Value.string is_, Value.int .i64 f, Value.int .i64 t, Value.bool ca, Value.int .u64 ky, Value.int .u64 sl] 52)).cell? ⟨w.heap.size, 1, none⟩ = some (Value.string sb) ∧ (w.alloc (.cells #[Value.int .i64 s, Value.string sb, Value.string is_, Value.int .i64 f, Value.int .i64 t, Value.bool ca, Value.int .u64 ky, Value.int .u64 sl] 52)).cell? ⟨w.heap.size, 2, none⟩ = some (Value.string is_) ∧ (w.alloc (.cells #[Value.int .i64 s, Value.string sb, Value.string is_, Value.int .i64 f, Value.int .i64 t, Value.bool ca, Value.int .u64 ky, Value.int .u64 sl] 52)).cell? ⟨w.heap.size, 3, none⟩ = some (Value.int .i64 f) ∧ (w.alloc (.cells #[Value.int .i64 s, Value.string sb, Value.string is_, Value.int .i64 f, Value.int .i64 t, Value.bool ca, Value.int .u64 ky, Value.int .u64 sl] 52)).cell? ⟨w.heap.size, 4, none⟩ = some (Value.int .i64 t) ∧ (w.alloc (.cells #[Value.int .i64 s, Value.string sb, Value.string is_, Value.int .i64 f, Value.int .i64 t, Value.bool ca, Value.int .u64 ky, Value.int .u64 sl] 52)).cell? ⟨w.heap.size, 5, none⟩ = some (Value.bool ca) ∧ (w.alloc (.cells #[Value.int .i64 s, Value.string sb, Value.string is_, Value.int .i64 f, Value.int .i64 t, Value.bool ca, Value.int .u64 ky, Value.int .u64 sl] 52)).cell? ⟨w.heap.size, 6, none⟩ = some (Value.int .u64 ky) ∧ (w.alloc (.cells #[Value.int .i64 s, Value.string sb, Value.string is_, Value.int .i64 f, Value.int .i64 t, Value.bool ca, Value.int .u64 ky, Value.int .u64 sl] 52)).cell? ⟨w.heap.size, 7, none⟩ = some (Value.int .u64 sl) from ⟨px.out.cell 0, px.out.cell 1, px.out.cell 2, px.out.cell 3, px.out.cell 4, px.out.cell 5, px.out.cell 6, px.out.cell 7⟩)
  go_wp2_with fail
  clear k0 k1 k2 k3 k4 k5 k6 k7
  refine (short_any ⟨s, sb, is_, f, t, ca, ky, sl⟩ _).mono ?_; rintro e w2 ⟨rfl, hq⟩
  have px := Lib.hid (px.out.below hq px.out.lt)
  have hb := Lib.hid (hb.out.trans (hq.mono hb.out.size))
  clear hq
  cases hs : shortB ⟨s, sb, is_, f, t, ca, ky, sl⟩ with
  | false =>
    clear hok
    go_wp2_with fail
    refine (awake_any _).mono ?_; rintro e wa ⟨rfl, hq⟩
    have hb := Lib.hid (hb.out.trans (hq.mono hb.out.size))
    clear hq
    go_wp2_with fail
    go_ret
    exact ⟨rfl, hb.out⟩
  | true =>
    have hva := fun w => valid_any ⟨s, sb, is_, f, t, ca, ky, sl⟩ w
    have hvb := fun w => rvalid_any ⟨s, sb, is_, f, t, ca, ky, sl⟩ w
    have hca := fun w => content_any ⟨s, sb, is_, f, t, ca, ky, sl⟩ w (hok hs)
    have hcb := fun w => rcontent_any ⟨s, sb, is_, f, t, ca, ky, sl⟩ w (hok hs)
    have hne := ctB_ne ⟨s, sb, is_, f, t, ca, ky, sl⟩ (caI ca)
    dsimp only at hca hcb
    generalize ctB ⟨s, sb, is_, f, t, ca, ky, sl⟩ (caI ca) = cb at *
    generalize validE ⟨s, sb, is_, f, t, ca, ky, sl⟩ = V at *
    dsimp only [ctC] at hva hvb hca hcb
    replace hva := Lib.hid hva
    replace hvb := Lib.hid hvb
    replace hca := Lib.hid hca
    replace hcb := Lib.hid hcb
    replace hne := Lib.hid hne
    clear hok hs
    go_wp2_with fail
    refine RK.region [] [] (F := FV w.heap.size #[Value.int .i64 s, Value.string sb, Value.string is_, Value.int .i64 f, Value.int .i64 t, Value.bool ca, Value.int .u64 ky, Value.int .u64 sl] V cb) (W := fun wz => Below w2.heap.size w2 wz) (R := Rb) (S := noS) (G := noG) rfl FV_more (fun _ _ _ _ _ _ => trivial) (fun _ _ _ _ _ h => h.elim) (fun _ _ _ _ _ h => h.elim) (by kernel_rfl) (by kernel_rfl) (by kernel_rfl) (by kernel_rfl) (by kernel_rfl) ?_ ?_ ?_ ?_ (by decide) ?_
    · exact (Below.refl _ _).drew
    · intro t ht
      unfold FV
      split <;> first | trivial | exact rfl | (exact absurd ht (by decide))
    · have hcell : Hid (∀ wz, Below w2.heap.size w2 wz → wz.cell? ⟨w.heap.size, 0, none⟩ = some (Value.int .i64 s) ∧ wz.cell? ⟨w.heap.size, 1, none⟩ = some (Value.string sb) ∧ wz.cell? ⟨w.heap.size, 2, none⟩ = some (Value.string is_) ∧ wz.cell? ⟨w.heap.size, 3, none⟩ = some (Value.int .i64 f) ∧ wz.cell? ⟨w.heap.size, 4, none⟩ = some (Value.int .i64 t) ∧ wz.cell? ⟨w.heap.size, 5, none⟩ = some (Value.bool ca) ∧ wz.cell? ⟨w.heap.size, 6, none⟩ = some (Value.int .u64 ky) ∧ wz.cell? ⟨w.heap.size, 7, none⟩ = some (Value.int .u64 sl)) := fun wz h => by
        have q := px.out.below h px.out.lt
        exact ⟨q.cell 0, q.cell 1, q.cell 2, q.cell 3, q.cell 4, q.cell 5, q.cell 6, q.cell 7⟩
      simp only [List.forall_mem_cons, List.not_mem_nil, false_implies, implies_true, and_true]
      refine ⟨?_, ?_, ?_, ?_, ?_, ?_, ?_, ?_, ?_, ?_, ?_, ?_, ?_, ?_, ?_, ?_, ?_, ?_⟩
      · intro a w2 hw hf K hK
        have f0 := hf 1 rfl
        simp only [FV] at f0
        clear hf
        obtain ⟨c0, c1, c2, c3, c4, c5, c6, c7⟩ := hcell.out w2 hw
        go_simp
        exact hK _ _ _ rfl rfl hw (Below.refl _ _) (fun h => absurd h (by decide))
      · intro a w2 hw hf K hK
        have f0 := hf 7 rfl
        simp only [FV] at f0
        clear hf
        go_simp
        refine (hva.out w2).mono ?_; rintro e w5 ⟨rfl, hb⟩
        exact hK _ _ _ rfl rfl (hw.trans (hb.mono hw.size)) hb (fun h => absurd h (by decide))
      · intro a w2 hw hf K hK
        have f0 := hf 1 rfl
        simp only [FV] at f0
        clear hf
        obtain ⟨c0, c1, c2, c3, c4, c5, c6, c7⟩ := hcell.out w2 hw
        go_simp
        exact hK _ _ _ rfl rfl hw (Below.refl _ _) (fun h => absurd h (by decide))
      · intro a w2 hw hf K hK
        have f0 := hf 9 rfl
        simp only [FV] at f0
        clear hf
        go_simp
        refine (hvb.out w2).mono ?_; rintro e w5 ⟨rfl, hb⟩
        exact hK _ _ _ rfl rfl (hw.trans (hb.mono hw.size)) hb (fun h => absurd h (by decide))
      · intro a w2 hw hf K hK
        have f0 := hf 8 rfl
        have f1 := hf 10 rfl
        simp only [FV] at f0 f1
        clear hf
        go_simp
        exact hK _ _ _ rfl rfl hw (Below.refl _ _) (fun h => absurd h (by decide))
      · intro a w2 hw hf K hK
        have f0 := hf 11 rfl
        simp only [FV] at f0
        clear hf
        go_simp
        exact hK _ _ _ rfl rfl hw (Below.refl _ _) (fun h => absurd h (by decide))
      · intro a w2 hw hf K hK
        have f0 := hf 1 rfl
        simp only [FV] at f0
        clear hf
        obtain ⟨c0, c1, c2, c3, c4, c5, c6, c7⟩ := hcell.out w2 hw
        go_simp
        exact hK _ _ _ rfl rfl hw (Below.refl _ _) (fun h => absurd h (by decide))
      · intro a w2 hw hf K hK
        have f0 := hf 13 rfl
        simp only [FV] at f0
        clear hf
        go_simp
        refine (hca.out w2).mono ?_; rintro e w5 ⟨v, rfl, hv, hb⟩
        exact hK _ _ _ rfl hv (hw.trans (hb.mono hw.size)) hb (fun h => absurd h (by decide))
      · intro a w2 hw hf K hK
        have f0 := hf 14 rfl
        simp only [FV] at f0
        clear hf
        have hcv := sl_str f0 hne.out
        obtain ⟨A, n, c, f0, hA, hnc⟩ := f0
        rw [f0] at hcv
        replace hA := Lib.hid hA
        go_simp
        exact hK _ _ _ rfl rfl hw (Below.refl _ _) (fun h => absurd h (by decide))
      · intro a w2 hw hf K hK
        have f0 := hf 1 rfl
        simp only [FV] at f0
        clear hf
        obtain ⟨c0, c1, c2, c3, c4, c5, c6, c7⟩ := hcell.out w2 hw
        go_simp
        exact hK _ _ _ rfl rfl hw (Below.refl _ _) (fun h => absurd h (by decide))
      · intro a w2 hw hf K hK
        have f0 := hf 16 rfl
        simp only [FV] at f0
        clear hf
        go_simp
        refine (hcb.out w2).mono ?_; rintro e w5 ⟨v, rfl, hv, hb⟩
        exact hK _ _ _ rfl hv (hw.trans (hb.mono hw.size)) hb (fun h => absurd h (by decide))
      · intro a w2 hw hf K hK
        have f0 := hf 17 rfl
        simp only [FV] at f0
        clear hf
        have hcv := sl_str f0 hne.out
        obtain ⟨A, n, c, f0, hA, hnc⟩ := f0
        rw [f0] at hcv
        replace hA := Lib.hid hA
        go_simp
        exact hK _ _ _ rfl rfl hw (Below.refl _ _) (fun h => absurd h (by decide))
      · intro a w2 hw hf K hK
        have f0 := hf 15 rfl
        have f1 := hf 18 rfl
        simp only [FV] at f0 f1
        clear hf
        go_simp
        exact hK _ _ _ rfl rfl hw (Below.refl _ _) (fun h => absurd h (by decide))
      · intro a w2 hw hf K hK
        have f0 := hf 12 rfl
        have f1 := hf 19 rfl
        simp only [FV] at f0 f1
        clear hf
        go_simp
        exact hK _ _ _ rfl rfl hw (Below.refl _ _) (fun h => absurd h (by decide))
      · intro a w2 hw hf K hK
        have f0 := hf 20 rfl
        simp only [FV] at f0
        clear hf
        go_simp
        exact hK _ _ _ rfl rfl hw (Below.refl _ _) (fun h => absurd h (by decide))
      · intro a w2 hw hf K hK
        clear hf
        go_simp
        refine (awake_any w2).mono ?_; rintro e w5 ⟨rfl, hb⟩
        exact hK _ _ _ rfl rfl (hw.trans (hb.mono hw.size)) hb (fun h => absurd h (by decide))
      · intro a w2 hw hf K hK
        have f0 := hf 21 rfl
        have f1 := hf 22 rfl
        simp only [FV] at f0 f1
        clear hf
        go_simp
        exact hK _ _ _ rfl rfl hw (Below.refl _ _) (fun h => absurd h (by decide))
      · intro a w2 hw hf K hK
        have f0 := hf 23 rfl
        simp only [FV] at f0
        clear hf
        go_simp
        exact hK _ _ _ rfl rfl hw (Below.refl _ _) (fun h => absurd h (by decide))
    · simp only [List.forall_mem_cons, List.not_mem_nil, false_implies, implies_true, and_true]
      refine ⟨?_, ?_, ?_, ?_, ?_, ?_, ?_, ?_, ?_, ?_, ?_, ?_, ?_, ?_, ?_, ?_, ?_, ?_⟩
      all_goals first | exact trivial | (intro v w h; exact h)
    · intro a' w4 hd hs hw hout hf _
      have f2 := hf 2
      simp only [FV] at f2
      obtain ⟨tm, df⟩ := a'
      simp only at hd hs f2
      have e := lit_arr tm 24 hs
      rw [show (List.range 24).map (fun i => tm[i]?.getD undef) = [tm[0]?.getD undef, tm[1]?.getD undef, tm[2]?.getD undef, tm[3]?.getD undef, tm[4]?.getD undef, tm[5]?.getD undef, tm[6]?.getD undef, tm[7]?.getD undef, tm[8]?.getD undef, tm[9]?.getD undef, tm[10]?.getD undef, tm[11]?.getD undef, tm[12]?.getD undef, tm[13]?.getD undef, tm[14]?.getD undef, tm[15]?.getD undef, tm[16]?.getD undef, tm[17]?.getD undef, tm[18]?.getD undef, tm[19]?.getD undef, tm[20]?.getD undef, tm[21]?.getD undef, tm[22]?.getD undef, tm[23]?.getD undef] from rfl] at e
      simp only [f2] at e
      clear hf hout hs
      rw [e, hd]
      clear e hd f2
      generalize tm[0]?.getD undef = x0
      generalize tm[1]?.getD undef = x1
      generalize tm[3]?.getD undef = x3
      generalize tm[4]?.getD undef = x4
      generalize tm[5]?.getD undef = x5
      generalize tm[6]?.getD undef = x6
      generalize tm[7]?.getD undef = x7
      generalize tm[8]?.getD undef = x8
      generalize tm[9]?.getD undef = x9
      generalize tm[10]?.getD undef = x10
      generalize tm[11]?.getD undef = x11
      generalize tm[12]?.getD undef = x12
      generalize tm[13]?.getD undef = x13
      generalize tm[14]?.getD undef = x14
      generalize tm[15]?.getD undef = x15
      generalize tm[16]?.getD undef = x16
      generalize tm[17]?.getD undef = x17
      generalize tm[18]?.getD undef = x18
      generalize tm[19]?.getD undef = x19
      generalize tm[20]?.getD undef = x20
      generalize tm[21]?.getD undef = x21
      generalize tm[22]?.getD undef = x22
      generalize tm[23]?.getD undef = x23
      have hb := Lib.hid (hb.out.trans (hw.mono hb.out.size))
      clear hw
      go_wp2_with fail
      go_ret
      exact ⟨rfl, hb.out⟩
end Go.Proofs.Ytiggpgeldigknaa
