/- A session's quantities, rounded. -/
import Derived.Test.YtbngclibfnnejaaDoorBM
set_option linter.unusedVariables false
set_option linter.unusedSimpArgs false
namespace Go.Proofs.YtbngclibfnnejaaDoor
open Go.RowKit
set_option maxRecDepth 100000 in
set_option maxHeartbeats 4000000 in
theorem round_none (gh eA cA b : Nat) (cost rate start l0 l1 l2 S : Int) (w : World) (hs : Ses w gh eA cA b cost rate start l0 l1 l2 false S) : Calls Tryd.prog 24 #[.pointer (some ⟨gh, 0, none⟩)] w fun e w' => (∃ v, e = .returned v) ∧ Below w.heap.size w w' := by
  replace hs := Lib.hid hs
  go_enter Tryd.func24, Tryd.ntmps24
  go_wp2_with fail
  go_loopw [2] (fun i wr => ∃ k : Nat, k ≤ 3 ∧ i = .int .i64 (k + 2) ∧ Hid (Below w.heap.size w wr)) (fun i _ => 5 - (intOf i).toNat)
  case atStart => exact ⟨0, Nat.zero_le _, rfl, Below.refl _ _⟩
  case round =>
    obtain ⟨k, hk, rfl, hb⟩ := hrel
    have hB := Lib.hid (hs.out.s.below hb.out hs.out.s.lt)
    rcases (show k = 0 ∨ k = 1 ∨ k = 2 ∨ k = 3 by omega) with rfl | rfl | rfl | rfl
    · have c0 : wr.cell? ⟨gh, 20, none⟩ = some (Value.int .i64 l0) := hB.out.cell 20; have c1 : wr.cell? ⟨gh, 21, none⟩ = some (Value.int .i64 l1) := hB.out.cell 21; have c2 : wr.cell? ⟨gh, 22, none⟩ = some (Value.int .i64 l2) := hB.out.cell 22; have c3 : wr.cell? ⟨gh, 23, none⟩ = some (Value.bool false) := hB.out.cell 23
      have hN := Lib.hid (Blk.new wr 83 #[Value.int .i64 l0, Value.int .i64 l1, Value.int .i64 l2, Value.bool false])
      have hb2 : Hid (Below w.heap.size w (wr.alloc (.cells #[Value.int .i64 l0, Value.int .i64 l1, Value.int .i64 l2, Value.bool false] 83))) := hb.out.alloc hb.out.size _
      have n0 : ((wr.alloc (.cells #[Value.int .i64 l0, Value.int .i64 l1, Value.int .i64 l2, Value.bool false] 83))).cell? ⟨wr.heap.size, 0, none⟩ = some (Value.int .i64 l0) := (hN.out).cell 0; have n1 : ((wr.alloc (.cells #[Value.int .i64 l0, Value.int .i64 l1, Value.int .i64 l2, Value.bool false] 83))).cell? ⟨wr.heap.size, 1, none⟩ = some (Value.int .i64 l1) := (hN.out).cell 1; have n2 : ((wr.alloc (.cells #[Value.int .i64 l0, Value.int .i64 l1, Value.int .i64 l2, Value.bool false] 83))).cell? ⟨wr.heap.size, 2, none⟩ = some (Value.int .i64 l2) := (hN.out).cell 2; have n3 : ((wr.alloc (.cells #[Value.int .i64 l0, Value.int .i64 l1, Value.int .i64 l2, Value.bool false] 83))).cell? ⟨wr.heap.size, 3, none⟩ = some (Value.bool false) := (hN.out).cell 3
      clear hk hb
      go_wp2_with fail
      go_roundw
      case rel => exact ⟨1, by omega, by go_num, hb2.out⟩
      case measure => simp [intOf]
    · have c0 : wr.cell? ⟨gh, 24, none⟩ = some (Value.int .i64 0) := hB.out.cell 24; have c1 : wr.cell? ⟨gh, 25, none⟩ = some (Value.int .i64 0) := hB.out.cell 25; have c2 : wr.cell? ⟨gh, 26, none⟩ = some (Value.int .i64 0) := hB.out.cell 26; have c3 : wr.cell? ⟨gh, 27, none⟩ = some (Value.bool false) := hB.out.cell 27
      have hN := Lib.hid (Blk.new wr 83 #[Value.int .i64 0, Value.int .i64 0, Value.int .i64 0, Value.bool false])
      have hb2 : Hid (Below w.heap.size w (wr.alloc (.cells #[Value.int .i64 0, Value.int .i64 0, Value.int .i64 0, Value.bool false] 83))) := hb.out.alloc hb.out.size _
      have n0 : ((wr.alloc (.cells #[Value.int .i64 0, Value.int .i64 0, Value.int .i64 0, Value.bool false] 83))).cell? ⟨wr.heap.size, 0, none⟩ = some (Value.int .i64 0) := (hN.out).cell 0; have n1 : ((wr.alloc (.cells #[Value.int .i64 0, Value.int .i64 0, Value.int .i64 0, Value.bool false] 83))).cell? ⟨wr.heap.size, 1, none⟩ = some (Value.int .i64 0) := (hN.out).cell 1; have n2 : ((wr.alloc (.cells #[Value.int .i64 0, Value.int .i64 0, Value.int .i64 0, Value.bool false] 83))).cell? ⟨wr.heap.size, 2, none⟩ = some (Value.int .i64 0) := (hN.out).cell 2; have n3 : ((wr.alloc (.cells #[Value.int .i64 0, Value.int .i64 0, Value.int .i64 0, Value.bool false] 83))).cell? ⟨wr.heap.size, 3, none⟩ = some (Value.bool false) := (hN.out).cell 3
      clear hk hb
      go_wp2_with fail
      go_roundw
      case rel => exact ⟨2, by omega, by go_num, hb2.out⟩
      case measure => simp [intOf]
    · have c0 : wr.cell? ⟨gh, 28, none⟩ = some (Value.int .i64 0) := hB.out.cell 28; have c1 : wr.cell? ⟨gh, 29, none⟩ = some (Value.int .i64 0) := hB.out.cell 29; have c2 : wr.cell? ⟨gh, 30, none⟩ = some (Value.int .i64 0) := hB.out.cell 30; have c3 : wr.cell? ⟨gh, 31, none⟩ = some (Value.bool false) := hB.out.cell 31
      have hN := Lib.hid (Blk.new wr 83 #[Value.int .i64 0, Value.int .i64 0, Value.int .i64 0, Value.bool false])
      have hb2 : Hid (Below w.heap.size w (wr.alloc (.cells #[Value.int .i64 0, Value.int .i64 0, Value.int .i64 0, Value.bool false] 83))) := hb.out.alloc hb.out.size _
      have n0 : ((wr.alloc (.cells #[Value.int .i64 0, Value.int .i64 0, Value.int .i64 0, Value.bool false] 83))).cell? ⟨wr.heap.size, 0, none⟩ = some (Value.int .i64 0) := (hN.out).cell 0; have n1 : ((wr.alloc (.cells #[Value.int .i64 0, Value.int .i64 0, Value.int .i64 0, Value.bool false] 83))).cell? ⟨wr.heap.size, 1, none⟩ = some (Value.int .i64 0) := (hN.out).cell 1; have n2 : ((wr.alloc (.cells #[Value.int .i64 0, Value.int .i64 0, Value.int .i64 0, Value.bool false] 83))).cell? ⟨wr.heap.size, 2, none⟩ = some (Value.int .i64 0) := (hN.out).cell 2; have n3 : ((wr.alloc (.cells #[Value.int .i64 0, Value.int .i64 0, Value.int .i64 0, Value.bool false] 83))).cell? ⟨wr.heap.size, 3, none⟩ = some (Value.bool false) := (hN.out).cell 3
      clear hk hb
      go_wp2_with fail
      go_roundw
      case rel => exact ⟨3, by omega, by go_num, hb2.out⟩
      case measure => simp [intOf]
    · clear hk
      go_wp2_with fail
      go_end0
      exact ⟨⟨_, rfl⟩, hb.out⟩
def F24a (gh g3 b : Nat) (S : Int) : Tmp → Value → World → Prop
  | 0, v, _ => v = .pointer (some ⟨gh, 0, none⟩)
  | 3, v, _ => v = .pointer (some ⟨g3, 0, none⟩)
  | 23, v, _ => v = .pointer (some ⟨gh, 0, none⟩)
  | 24, v, _ => v = .pointer (some ⟨gh, 0, none⟩)
  | 25, v, _ => v = .pointer (some ⟨gh, 11, none⟩)
  | 26, v, _ => v = .map (some b)
  | 27, v, _ => v = .pointer (some ⟨g3, 0, none⟩)
  | 28, v, _ => v = .agg #[Value.int .i64 0, Value.int .i64 2]
  | 29, v, _ => v = .int .i64 S
  | 30, v, _ => v = .pointer (some ⟨g3, 2, none⟩)
  | 31, v, _ => v = .int .i64 1
  | _, _, _ => True
theorem F24a_more {gh g3 b : Nat} {S : Int} (d t : Tmp) (v : Value) (w w' : World) (hR : Rb w w') (hne : t ≠ d) (hc : ([] : List (Tmp × Tmp)).contains (d, t) = false) (h : F24a gh g3 b S t v w) : F24a gh g3 b S t v w' := by
  unfold F24a at *
  split at h <;> first | exact h
theorem F24a_lit (tm : Array Value) (hs : tm.size = 49) : tm = #[tm[0]?.getD undef, tm[1]?.getD undef, tm[2]?.getD undef, tm[3]?.getD undef, tm[4]?.getD undef, tm[5]?.getD undef, tm[6]?.getD undef, tm[7]?.getD undef, tm[8]?.getD undef, tm[9]?.getD undef, tm[10]?.getD undef, tm[11]?.getD undef, tm[12]?.getD undef, tm[13]?.getD undef, tm[14]?.getD undef, tm[15]?.getD undef, tm[16]?.getD undef, tm[17]?.getD undef, tm[18]?.getD undef, tm[19]?.getD undef, tm[20]?.getD undef, tm[21]?.getD undef, tm[22]?.getD undef, tm[23]?.getD undef, tm[24]?.getD undef, tm[25]?.getD undef, tm[26]?.getD undef, tm[27]?.getD undef, tm[28]?.getD undef, tm[29]?.getD undef, tm[30]?.getD undef, tm[31]?.getD undef, tm[32]?.getD undef, tm[33]?.getD undef, tm[34]?.getD undef, tm[35]?.getD undef, tm[36]?.getD undef, tm[37]?.getD undef, tm[38]?.getD undef, tm[39]?.getD undef, tm[40]?.getD undef, tm[41]?.getD undef, tm[42]?.getD undef, tm[43]?.getD undef, tm[44]?.getD undef, tm[45]?.getD undef, tm[46]?.getD undef, tm[47]?.getD undef, tm[48]?.getD undef] := lit_arr tm 49 hs
set_option maxRecDepth 100000 in
set_option maxHeartbeats 4000000 in
theorem round_yes (gh eA cA b : Nat) (cost rate start S : Int) (w : World) (hs : Ses w gh eA cA b cost rate start 0 2 1 true S) : Calls Tryd.prog 24 #[.pointer (some ⟨gh, 0, none⟩)] w fun e w' => (∃ v, e = .returned v) ∧ Below w.heap.size w w' := by
  have hM := Lib.hid hs.M
  replace hs := Lib.hid hs.s
  have e1 : S.tmod 1 = 0 := Int.tmod_one S
  go_enter Tryd.func24, Tryd.ntmps24
  go_wp2_with fail
  go_loopw [2] (fun i wr => ∃ k : Nat, k ≤ 3 ∧ i = .int .i64 (k + 2) ∧ Hid (Below w.heap.size w wr)) (fun i _ => 5 - (intOf i).toNat)
  case atStart => exact ⟨0, Nat.zero_le _, rfl, Below.refl _ _⟩
  case round =>
    obtain ⟨k, hk, rfl, hb⟩ := hrel
    have hB := Lib.hid (hs.out.below hb.out hs.out.lt)
    rcases (show k = 0 ∨ k = 1 ∨ k = 2 ∨ k = 3 by omega) with rfl | rfl | rfl | rfl
    · have c0 : wr.cell? ⟨gh, 20, none⟩ = some (Value.int .i64 0) := hB.out.cell 20; have c1 : wr.cell? ⟨gh, 21, none⟩ = some (Value.int .i64 2) := hB.out.cell 21; have c2 : wr.cell? ⟨gh, 22, none⟩ = some (Value.int .i64 1) := hB.out.cell 22; have c3 : wr.cell? ⟨gh, 23, none⟩ = some (Value.bool true) := hB.out.cell 23
      have hN := Lib.hid (Blk.new wr 83 #[Value.int .i64 0, Value.int .i64 2, Value.int .i64 1, Value.bool true])
      have hb2 : Hid (Below w.heap.size w (wr.alloc (.cells #[Value.int .i64 0, Value.int .i64 2, Value.int .i64 1, Value.bool true] 83))) := hb.out.alloc hb.out.size _
      have n0 : ((wr.alloc (.cells #[Value.int .i64 0, Value.int .i64 2, Value.int .i64 1, Value.bool true] 83))).cell? ⟨wr.heap.size, 0, none⟩ = some (Value.int .i64 0) := (hN.out).cell 0; have n1 : ((wr.alloc (.cells #[Value.int .i64 0, Value.int .i64 2, Value.int .i64 1, Value.bool true] 83))).cell? ⟨wr.heap.size, 1, none⟩ = some (Value.int .i64 2) := (hN.out).cell 1; have n2 : ((wr.alloc (.cells #[Value.int .i64 0, Value.int .i64 2, Value.int .i64 1, Value.bool true] 83))).cell? ⟨wr.heap.size, 2, none⟩ = some (Value.int .i64 1) := (hN.out).cell 2; have n3 : ((wr.alloc (.cells #[Value.int .i64 0, Value.int .i64 2, Value.int .i64 1, Value.bool true] 83))).cell? ⟨wr.heap.size, 3, none⟩ = some (Value.bool true) := (hN.out).cell 3
      have hbX := a1 wr (.cells #[Value.int .i64 0, Value.int .i64 2, Value.int .i64 1, Value.bool true] 83)
      have hcell : Hid (∀ wz, Below (wr.alloc (.cells #[Value.int .i64 0, Value.int .i64 2, Value.int .i64 1, Value.bool true] 83)).heap.size (wr.alloc (.cells #[Value.int .i64 0, Value.int .i64 2, Value.int .i64 1, Value.bool true] 83)) wz → wz.cell? ⟨gh, 11, none⟩ = some (Value.map (some b)) ∧ wz.cell? ⟨wr.heap.size, 0, none⟩ = some (Value.int .i64 0) ∧ wz.cell? ⟨wr.heap.size, 1, none⟩ = some (Value.int .i64 2) ∧ wz.cell? ⟨wr.heap.size, 2, none⟩ = some (Value.int .i64 1)) := fun wz h => by
        have q := hN.out.below h hN.out.lt
        have q2 := hB.out.below (hbX.trans (h.mono hbX.size)) hB.out.lt
        exact ⟨q2.cell 11, q.cell 0, q.cell 1, q.cell 2⟩
      have hmap : Hid (∀ wz, Below (wr.alloc (.cells #[Value.int .i64 0, Value.int .i64 2, Value.int .i64 1, Value.bool true] 83)).heap.size (wr.alloc (.cells #[Value.int .i64 0, Value.int .i64 2, Value.int .i64 1, Value.bool true] 83)) wz → MapSt wz b S) := fun wz h => by
        have q := (hb.out.trans (hbX.mono hb.out.size)).trans (h.mono (hb.out.trans (hbX.mono hb.out.size)).size)
        exact hM.out.same (q.block b hM.out.lt)
      clear hk hb hbX
      go_wp2_with fail
      refine RU.region [] [] 9 (F := F24a gh wr.heap.size b S) (W := fun wz => Below (wr.alloc (.cells #[Value.int .i64 0, Value.int .i64 2, Value.int .i64 1, Value.bool true] 83)).heap.size (wr.alloc (.cells #[Value.int .i64 0, Value.int .i64 2, Value.int .i64 1, Value.bool true] 83)) wz) (R := fun _ => Rb) rfl F24a_more (by kernel_rfl) (by kernel_rfl) (by kernel_rfl) (by kernel_rfl) (by kernel_rfl) (by kernel_rfl) ?_ ?_ ?_ ?_
      · exact (Below.refl _ _).drew
      · intro t ht
        unfold F24a
        split <;> first | trivial | exact rfl | (exact absurd ht (by decide))
      · intro i o hi ho
        have hcs : i = 0 ∨ i = 1 ∨ i = 2 ∨ i = 3 ∨ i = 4 ∨ i = 5 ∨ i = 6 ∨ i = 7 ∨ i = 8 := by omega
        rcases hcs with rfl | rfl | rfl | rfl | rfl | rfl | rfl | rfl | rfl <;> (injection ho with ho; subst ho)
        · intro a w2 hw _ hf K hK
          have f0 := hf 0 rfl
          simp only [F24a] at f0
          clear hf
          go_simp
          exact hK _ _ _ rfl rfl hw (Below.refl _ _) (fun h => absurd h (by decide))
        · intro a w2 hw _ hf K hK
          have f0 := hf 23 rfl
          simp only [F24a] at f0
          clear hf
          go_simp
          exact hK _ _ _ rfl rfl hw (Below.refl _ _) (fun h => absurd h (by decide))
        · intro a w2 hw _ hf K hK
          have f0 := hf 24 rfl
          simp only [F24a] at f0
          clear hf
          go_simp
          exact hK _ _ _ rfl rfl hw (Below.refl _ _) (fun h => absurd h (by decide))
        · intro a w2 hw _ hf K hK
          have f0 := hf 25 rfl
          simp only [F24a] at f0
          clear hf
          obtain ⟨k0, k1, k2, k3⟩ := hcell.out w2 hw
          go_simp
          exact hK _ _ _ rfl rfl hw (Below.refl _ _) (fun h => absurd h (by decide))
        · intro a w2 hw _ hf K hK
          have f0 := hf 3 rfl
          simp only [F24a] at f0
          clear hf
          go_simp
          exact hK _ _ _ rfl rfl hw (Below.refl _ _) (fun h => absurd h (by decide))
        · intro a w2 hw _ hf K hK
          have f0 := hf 27 rfl
          simp only [F24a] at f0
          clear hf
          obtain ⟨k0, k1, k2, k3⟩ := hcell.out w2 hw
          go_simp
          exact hK _ _ _ rfl rfl hw (Below.refl _ _) (fun h => absurd h (by decide))
        · intro a w2 hw _ hf K hK
          have f0 := hf 26 rfl
          have f1 := hf 28 rfl
          simp only [F24a] at f0 f1
          clear hf
          have e := look_hit (hmap.out w2 hw)
          unfold plK at e
          go_simp
          exact hK _ _ _ rfl rfl hw (Below.refl _ _) (fun h => absurd h (by decide))
        · intro a w2 hw _ hf K hK
          have f0 := hf 3 rfl
          simp only [F24a] at f0
          clear hf
          go_simp
          exact hK _ _ _ rfl rfl hw (Below.refl _ _) (fun h => absurd h (by decide))
        · intro a w2 hw _ hf K hK
          have f0 := hf 30 rfl
          simp only [F24a] at f0
          clear hf
          obtain ⟨k0, k1, k2, k3⟩ := hcell.out w2 hw
          go_simp
          exact hK _ _ _ rfl rfl hw (Below.refl _ _) (fun h => absurd h (by decide))
      · intro a' w9 hd hs hw hout hf
        have h29 := hf 6 29 (by decide) rfl rfl
        simp only [F24a] at h29
        have h31 := hf 8 31 (by decide) rfl rfl
        simp only [F24a] at h31
        have e0 : _ = some (Value.pointer (some ⟨gh, 0, none⟩)) := hout 0 rfl
        have e2 : _ = some (Value.int .i64 2) := hout 2 rfl
        have e3 : _ = some (Value.pointer (some ⟨wr.heap.size, 0, none⟩)) := hout 3 rfl
        have e1 := hout 1 rfl
        have e5 := hout 5 rfl
        have e6 := hout 6 rfl
        have e7 := hout 7 rfl
        have e8 := hout 8 rfl
        have e9 := hout 9 rfl
        have e10 := hout 10 rfl
        have e11 := hout 11 rfl
        have e12 := hout 12 rfl
        have e13 := hout 13 rfl
        have e14 := hout 14 rfl
        have e15 := hout 15 rfl
        have e16 := hout 16 rfl
        have e17 := hout 17 rfl
        have e18 := hout 18 rfl
        have e19 := hout 19 rfl
        have e20 := hout 20 rfl
        have e21 := hout 21 rfl
        have e22 := hout 22 rfl
        have e33 := hout 33 rfl
        have e34 := hout 34 rfl
        have e35 := hout 35 rfl
        have e36 := hout 36 rfl
        have e37 := hout 37 rfl
        have e38 := hout 38 rfl
        have e39 := hout 39 rfl
        have e40 := hout 40 rfl
        have e41 := hout 41 rfl
        have e42 := hout 42 rfl
        have e43 := hout 43 rfl
        have e44 := hout 44 rfl
        have e45 := hout 45 rfl
        have e46 := hout 46 rfl
        have e47 := hout 47 rfl
        have e48 := hout 48 rfl
        simp only [List.getElem?_toArray, List.getElem?_cons_succ, List.getElem?_cons_zero] at e1 e5 e6 e7 e8 e9 e10 e11 e12 e13 e14 e15 e16 e17 e18 e19 e20 e21 e22 e33 e34 e35 e36 e37 e38 e39 e40 e41 e42 e43 e44 e45 e46 e47 e48
        obtain ⟨tm, df⟩ := a'
        simp only at hd hs h29 h31 e0 e1 e2 e3 e5 e6 e7 e8 e9 e10 e11 e12 e13 e14 e15 e16 e17 e18 e19 e20 e21 e22 e33 e34 e35 e36 e37 e38 e39 e40 e41 e42 e43 e44 e45 e46 e47 e48
        have e := F24a_lit tm hs
        simp only [h29, h31, e0, e1, e2, e3, e5, e6, e7, e8, e9, e10, e11, e12, e13, e14, e15, e16, e17, e18, e19, e20, e21, e22, e33, e34, e35, e36, e37, e38, e39, e40, e41, e42, e43, e44, e45, e46, e47, e48, Option.getD_some] at e
        clear hf hout hs
        rw [e, hd]
        clear e hd h29 h31 e0 e1 e2 e3 e5 e6 e7 e8 e9 e10 e11 e12 e13 e14 e15 e16 e17 e18 e19 e20 e21 e22 e33 e34 e35 e36 e37 e38 e39 e40 e41 e42 e43 e44 e45 e46 e47 e48
        generalize tm[4]?.getD undef = v4x, tm[23]?.getD undef = v23x, tm[24]?.getD undef = v24x, tm[25]?.getD undef = v25x, tm[26]?.getD undef = v26x, tm[27]?.getD undef = v27x, tm[28]?.getD undef = v28x, tm[30]?.getD undef = v30x, tm[32]?.getD undef = v32x
        have hbk : Hid (Below w.heap.size w w9) := hb2.out.trans (hw.mono hb2.out.size)
        clear hcell hmap hw hb2
        simp only [List.drop_succ_cons, List.drop_zero]
        go_wp2_with fail
        go_roundw
        case rel => exact ⟨1, by omega, by go_num, hbk.out⟩
        case measure => simp [intOf]
    · have c0 : wr.cell? ⟨gh, 24, none⟩ = some (Value.int .i64 0) := hB.out.cell 24; have c1 : wr.cell? ⟨gh, 25, none⟩ = some (Value.int .i64 0) := hB.out.cell 25; have c2 : wr.cell? ⟨gh, 26, none⟩ = some (Value.int .i64 0) := hB.out.cell 26; have c3 : wr.cell? ⟨gh, 27, none⟩ = some (Value.bool false) := hB.out.cell 27
      have hN := Lib.hid (Blk.new wr 83 #[Value.int .i64 0, Value.int .i64 0, Value.int .i64 0, Value.bool false])
      have hb2 : Hid (Below w.heap.size w (wr.alloc (.cells #[Value.int .i64 0, Value.int .i64 0, Value.int .i64 0, Value.bool false] 83))) := hb.out.alloc hb.out.size _
      have n0 : ((wr.alloc (.cells #[Value.int .i64 0, Value.int .i64 0, Value.int .i64 0, Value.bool false] 83))).cell? ⟨wr.heap.size, 0, none⟩ = some (Value.int .i64 0) := (hN.out).cell 0; have n1 : ((wr.alloc (.cells #[Value.int .i64 0, Value.int .i64 0, Value.int .i64 0, Value.bool false] 83))).cell? ⟨wr.heap.size, 1, none⟩ = some (Value.int .i64 0) := (hN.out).cell 1; have n2 : ((wr.alloc (.cells #[Value.int .i64 0, Value.int .i64 0, Value.int .i64 0, Value.bool false] 83))).cell? ⟨wr.heap.size, 2, none⟩ = some (Value.int .i64 0) := (hN.out).cell 2; have n3 : ((wr.alloc (.cells #[Value.int .i64 0, Value.int .i64 0, Value.int .i64 0, Value.bool false] 83))).cell? ⟨wr.heap.size, 3, none⟩ = some (Value.bool false) := (hN.out).cell 3
      clear hk hb
      go_wp2_with fail
      go_roundw
      case rel => exact ⟨2, by omega, by go_num, hb2.out⟩
      case measure => simp [intOf]
    · have c0 : wr.cell? ⟨gh, 28, none⟩ = some (Value.int .i64 0) := hB.out.cell 28; have c1 : wr.cell? ⟨gh, 29, none⟩ = some (Value.int .i64 0) := hB.out.cell 29; have c2 : wr.cell? ⟨gh, 30, none⟩ = some (Value.int .i64 0) := hB.out.cell 30; have c3 : wr.cell? ⟨gh, 31, none⟩ = some (Value.bool false) := hB.out.cell 31
      have hN := Lib.hid (Blk.new wr 83 #[Value.int .i64 0, Value.int .i64 0, Value.int .i64 0, Value.bool false])
      have hb2 : Hid (Below w.heap.size w (wr.alloc (.cells #[Value.int .i64 0, Value.int .i64 0, Value.int .i64 0, Value.bool false] 83))) := hb.out.alloc hb.out.size _
      have n0 : ((wr.alloc (.cells #[Value.int .i64 0, Value.int .i64 0, Value.int .i64 0, Value.bool false] 83))).cell? ⟨wr.heap.size, 0, none⟩ = some (Value.int .i64 0) := (hN.out).cell 0; have n1 : ((wr.alloc (.cells #[Value.int .i64 0, Value.int .i64 0, Value.int .i64 0, Value.bool false] 83))).cell? ⟨wr.heap.size, 1, none⟩ = some (Value.int .i64 0) := (hN.out).cell 1; have n2 : ((wr.alloc (.cells #[Value.int .i64 0, Value.int .i64 0, Value.int .i64 0, Value.bool false] 83))).cell? ⟨wr.heap.size, 2, none⟩ = some (Value.int .i64 0) := (hN.out).cell 2; have n3 : ((wr.alloc (.cells #[Value.int .i64 0, Value.int .i64 0, Value.int .i64 0, Value.bool false] 83))).cell? ⟨wr.heap.size, 3, none⟩ = some (Value.bool false) := (hN.out).cell 3
      clear hk hb
      go_wp2_with fail
      go_roundw
      case rel => exact ⟨3, by omega, by go_num, hb2.out⟩
      case measure => simp [intOf]
    · clear hk
      go_wp2_with fail
      go_end0
      exact ⟨⟨_, rfl⟩, hb.out⟩
theorem round_any (gh eA cA b : Nat) (cost rate start l0 l1 l2 S : Int) (kn : Bool) (w : World) (hs : Ses w gh eA cA b cost rate start l0 l1 l2 kn S) (hl : LastOk l0 l1 l2 kn) : Calls Tryd.prog 24 #[.pointer (some ⟨gh, 0, none⟩)] w fun e w' => (∃ v, e = .returned v) ∧ Below w.heap.size w w' := by
  cases kn with
  | false => exact round_none gh eA cA b cost rate start l0 l1 l2 S w hs
  | true =>
    obtain ⟨rfl, rfl, rfl⟩ := hl rfl
    exact round_yes gh eA cA b cost rate start S w hs
end Go.Proofs.YtbngclibfnnejaaDoor
