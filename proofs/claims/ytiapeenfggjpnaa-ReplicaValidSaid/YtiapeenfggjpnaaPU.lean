/- Replicated servers: the law ReplicaValid, walked. -/
import Derived.Test.YtiapeenfggjpnaaPT
set_option linter.unusedVariables false
set_option linter.unusedSimpArgs false
namespace Go.Proofs.Ytiapeenfggjpnaa
open Go.RowKit
def F7v (g : Nat) (E : Int) (Xv : Array Value) : Tmp → Value → World → Prop
  | 1, v, _ => v = .pointer (some ⟨g, 0, none⟩)
  | 2, v, _ => v = .bool true
  | 6, v, _ => v = .agg Xv
  | 7, v, _ => v = .int .i64 E
  | 8, v, _ => v = .agg Xv
  | 9, v, _ => v = .int .i64 E
  | 10, v, _ => v = .bool true
  | 11, v, _ => v = .bool true
  | 12, v, _ => v = .bool true
  | 13, v, _ => v = .bool true
  | _, _, _ => True
theorem F7v_more {g : Nat} {E : Int} {Xv : Array Value} (d t : Tmp) (v : Value) (w w' : World) (hR : Rb w w') (hne : t ≠ d) (hc : ([] : List (Tmp × Tmp)).contains (d, t) = false) (h : F7v g E Xv t v w) : F7v g E Xv t v w' := by
  unfold F7v at *
  split at h <;> first | exact h
set_option maxRecDepth 100000 in
set_option maxHeartbeats 8000000 in
theorem lawValid (k : Cm) (w : World) {Q : Nat → Prop} (h : CmAt w Q k) : Calls Try.prog 7 #[clV k] w fun e w' => e = .returned (.bool true) ∧ Below w.heap.size w w' := by
  have hA0 := Lib.hid (fun w2 (hb : Below w.heap.size w w2) => valid_any k w2 (h.more hb))
  have hR0 := Lib.hid (fun w2 (hb : Below w.heap.size w w2) hs => rvalid_any k w2 (h.more hb) hs)
  have hG0 := Lib.hid (fun w2 (hb : Below w.heap.size w w2) => big_any k w2 (h.more hb))
  obtain ⟨E, hE⟩ : ∃ E, E = validC k.val := ⟨_, rfl⟩
  rw [← hE] at hA0 hR0
  clear hE h
  obtain ⟨primary, view, commit, A, n, c, sl⟩ := k
  simp only [clV] at *
  have hX0 := Lib.hid (Blk.new w 24 #[Value.int .i64 primary, Value.int .i64 view, Value.int .i64 commit, Value.slice A n c])
  have hb0 := Lib.hid (a1 w (.cells #[Value.int .i64 primary, Value.int .i64 view, Value.int .i64 commit, Value.slice A n c] 24))
  obtain ⟨k0, k1, k2, k3⟩ := (show (w.alloc (.cells #[Value.int .i64 primary, Value.int .i64 view, Value.int .i64 commit, Value.slice A n c] 24)).cell? ⟨w.heap.size, 0, none⟩ = some (Value.int .i64 primary) ∧ (w.alloc (.cells #[Value.int .i64 primary, Value.int .i64 view, Value.int .i64 commit, Value.slice A n c] 24)).cell? ⟨w.heap.size, 1, none⟩ = some (Value.int .i64 view) ∧ (w.alloc (.cells #[Value.int .i64 primary, Value.int .i64 view, Value.int .i64 commit, Value.slice A n c] 24)).cell? ⟨w.heap.size, 2, none⟩ = some (Value.int .i64 commit) ∧ (w.alloc (.cells #[Value.int .i64 primary, Value.int .i64 view, Value.int .i64 commit, Value.slice A n c] 24)).cell? ⟨w.heap.size, 3, none⟩ = some (Value.slice A n c) from ⟨hX0.out.cell 0, hX0.out.cell 1, hX0.out.cell 2, hX0.out.cell 3⟩)
  go_enter Try.func7, Try.ntmps7
  go_wp2_with fail
  refine (hG0.out _ hb0.out).mono ?_; rintro e w1 ⟨⟨b, rfl, hnb⟩, hq⟩
  have hX := Lib.hid (hX0.out.below hq hX0.out.lt)
  have hb1 := Lib.hid (hb0.out.trans (hq.mono hb0.out.size))
  clear hq hX0 hb0 hG0 k0 k1 k2 k3
  cases b with
  | true =>
    clear hnb
    go_wp2_with fail
    refine (ex_any _).mono ?_; rintro e w5 ⟨rfl, hq⟩
    go_wp2_with fail
    go_ret
    exact ⟨rfl, hb1.out.trans (hq.mono hb1.out.size)⟩
  | false =>
    have hnb := Lib.hid (hnb rfl)
    have hv1 : Hid (∀ wz, Below w1.heap.size w1 wz → Calls Try.prog 25 #[.agg #[Value.int .i64 primary, Value.int .i64 view, Value.int .i64 commit, Value.slice A n c]] wz fun e w' => e = .returned (.int .i64 E) ∧ Below wz.heap.size wz w') := fun wz hz => hA0.out wz (hb1.out.trans (hz.mono hb1.out.size))
    have hv2 : Hid (∀ wz, Below w1.heap.size w1 wz → Calls Try.prog 11 #[.agg #[Value.int .i64 primary, Value.int .i64 view, Value.int .i64 commit, Value.slice A n c]] wz fun e w' => e = .returned (.int .i64 E) ∧ Below wz.heap.size wz w') := fun wz hz => hR0.out wz (hb1.out.trans (hz.mono hb1.out.size)) (fun s hs => (hnb.out.2 s hs).1)
    have hex : Hid (∀ wz, Below w1.heap.size w1 wz → Calls Try.prog 12 #[] wz fun e w' => e = .returned (.bool true) ∧ Below wz.heap.size wz w') := fun wz _ => ex_any wz
    have hcell : Hid (∀ wz, Below w1.heap.size w1 wz → wz.cell? ⟨w.heap.size, 0, none⟩ = some (Value.int .i64 primary) ∧ wz.cell? ⟨w.heap.size, 1, none⟩ = some (Value.int .i64 view) ∧ wz.cell? ⟨w.heap.size, 2, none⟩ = some (Value.int .i64 commit) ∧ wz.cell? ⟨w.heap.size, 3, none⟩ = some (Value.slice A n c)) := fun wz hz => by
      have q := hX.out.below hz hX.out.lt
      exact ⟨q.cell 0, q.cell 1, q.cell 2, q.cell 3⟩
    clear hA0 hR0 hnb hX
    go_wp2_with fail
    refine RM.region [] [] (F := F7v w.heap.size E #[Value.int .i64 primary, Value.int .i64 view, Value.int .i64 commit, Value.slice A n c]) (W := fun wz => Below w1.heap.size w1 wz) (R := fun _ => Rb) (S := noS) (G := noG) rfl F7v_more (fun _ _ _ _ _ _ _ => trivial) (fun _ _ _ _ _ h => h.elim) (fun _ _ _ _ _ h => h.elim) (by kernel_rfl) (by kernel_rfl) (by kernel_rfl) (by kernel_rfl) (by kernel_rfl) ?_ ?_ ?_ (by kernel_rfl) ?_
    · exact (Below.refl _ _).drew
    · intro t ht
      unfold F7v
      split <;> first | trivial | exact rfl | (exact absurd ht (by decide))
    · simp only [List.forall_mem_cons, List.not_mem_nil, false_implies, implies_true, and_true]
      refine ⟨?_, ?_, ?_, ?_, ?_, ?_, ?_, ?_, ?_⟩
      · intro a w2 hw _ hf K hK
        have f0 := hf 1 rfl
        simp only [F7v] at f0
        clear hf
        obtain ⟨k0, k1, k2, k3⟩ := hcell.out w2 hw
        go_simp
        exact hK _ _ _ rfl rfl hw (Below.refl _ _) (fun h => absurd h (by decide))
      · intro a w2 hw _ hf K hK
        have f0 := hf 6 rfl
        simp only [F7v] at f0
        clear hf
        go_simp
        refine (hv1.out w2 hw).mono ?_; rintro e w5 ⟨rfl, hbq⟩
        exact hK _ _ _ rfl rfl (hw.trans (hbq.mono hw.size)) hbq (fun h => absurd h (by decide))
      · intro a w2 hw _ hf K hK
        have f0 := hf 1 rfl
        simp only [F7v] at f0
        clear hf
        obtain ⟨k0, k1, k2, k3⟩ := hcell.out w2 hw
        go_simp
        exact hK _ _ _ rfl rfl hw (Below.refl _ _) (fun h => absurd h (by decide))
      · intro a w2 hw _ hf K hK
        have f0 := hf 8 rfl
        simp only [F7v] at f0
        clear hf
        go_simp
        refine (hv2.out w2 hw).mono ?_; rintro e w5 ⟨rfl, hbq⟩
        exact hK _ _ _ rfl rfl (hw.trans (hbq.mono hw.size)) hbq (fun h => absurd h (by decide))
      · intro a w2 hw _ hf K hK
        have f0 := hf 7 rfl
        have f1 := hf 9 rfl
        simp only [F7v] at f0 f1
        clear hf
        go_simp
        exact hK _ _ _ rfl rfl hw (Below.refl _ _) (fun h => absurd h (by decide))
      · intro a w2 hw _ hf K hK
        have f0 := hf 10 rfl
        simp only [F7v] at f0
        clear hf
        go_simp
        exact hK _ _ _ rfl rfl hw (Below.refl _ _) (fun h => absurd h (by decide))
      · refine ⟨?_, ?_⟩
        · intro a w2 hw hg hf K hK
          clear hf
          go_simp
          refine (hex.out w2 hw).mono ?_; rintro e w5 ⟨rfl, hbq⟩
          exact hK _ _ _ rfl rfl (hw.trans (hbq.mono hw.size)) hbq (fun h => absurd h (by decide))
        · exact fun v w _ hv hne => absurd hv hne
      · intro a w2 hw _ hf K hK
        have f0 := hf 11 rfl
        have f1 := hf 12 rfl
        simp only [F7v] at f0 f1
        clear hf
        go_simp
        exact hK _ _ _ rfl rfl hw (Below.refl _ _) (fun h => absurd h (by decide))
      · intro a w2 hw _ hf K hK
        have f0 := hf 13 rfl
        simp only [F7v] at f0
        clear hf
        go_simp
        exact hK _ _ _ rfl rfl hw (Below.refl _ _) (fun h => absurd h (by decide))
    · intro a' w9 hd hs hw hout hf _
      have h2 := hf 2 rfl
      simp only [F7v] at h2
      have e0 : _ = some (Value.agg #[Value.int .i64 primary, Value.int .i64 view, Value.int .i64 commit, Value.slice A n c]) := hout 0 rfl
      obtain ⟨tm, df⟩ := a'
      simp only at hd hs h2 e0
      have e := lit_arr tm 14 hs
      rw [show (List.range 14).map (fun i => tm[i]?.getD undef) = [tm[0]?.getD undef, tm[1]?.getD undef, tm[2]?.getD undef, tm[3]?.getD undef, tm[4]?.getD undef, tm[5]?.getD undef, tm[6]?.getD undef, tm[7]?.getD undef, tm[8]?.getD undef, tm[9]?.getD undef, tm[10]?.getD undef, tm[11]?.getD undef, tm[12]?.getD undef, tm[13]?.getD undef] from rfl] at e
      simp only [h2, e0, Option.getD_some] at e
      clear hf hout hs
      rw [e, hd]
      clear e hd h2 e0
      generalize tm[1]?.getD undef = u1x
      generalize tm[3]?.getD undef = u3x
      generalize tm[4]?.getD undef = u4x
      generalize tm[5]?.getD undef = u5x
      generalize tm[6]?.getD undef = u6x
      generalize tm[7]?.getD undef = u7x
      generalize tm[8]?.getD undef = u8x
      generalize tm[9]?.getD undef = u9x
      generalize tm[10]?.getD undef = u10x
      generalize tm[11]?.getD undef = u11x
      generalize tm[12]?.getD undef = u12x
      generalize tm[13]?.getD undef = u13x
      have hb := Lib.hid (hb1.out.trans (hw.mono hb1.out.size))
      clear hw hcell hv1 hv2 hex
      go_wp2_with fail
      go_ret
      exact ⟨rfl, hb.out⟩
end Go.Proofs.Ytiapeenfggjpnaa
