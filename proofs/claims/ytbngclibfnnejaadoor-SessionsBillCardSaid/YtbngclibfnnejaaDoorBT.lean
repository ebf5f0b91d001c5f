/- The charges of a session. -/
import Derived.Test.YtbngclibfnnejaaDoorBN
import Derived.Test.YtbngclibfnnejaaDoorBR
set_option linter.unusedVariables false
set_option linter.unusedSimpArgs false
namespace Go.Proofs.YtbngclibfnnejaaDoor
open Go.RowKit
def chC (cost rate q : Int) : List Value := [Value.int .i64 2, Value.int .i64 cost, Value.int .i64 rate, Value.int .i64 q]
theorem chC_len (cost rate q : Int) : (chC cost rate q).length = 4 := rfl
theorem chC_one (cost rate : Int) (l : List Int) : ∀ u ∈ flat (chC cost rate) l, u.oneCell' = true := by
  intro u hu
  simp only [flat, List.mem_flatMap] at hu
  obtain ⟨x, -, hx⟩ := hu
  simp only [chC, List.mem_cons, List.not_mem_nil, or_false] at hx
  rcases hx with rfl | rfl | rfl | rfl <;> rfl
theorem ch_info : (Tryd.prog.info? 73).map (fun i => (i.zero, i.size, i.bytes)) = some (some (.agg #[.int .i64 0, .int .i64 0, .int .i64 0, .int .i64 0]), 4, 32) := by kernel_rfl
theorem ch_cells {w : World} {B n k : Nat} {A : Option Addr} {cost rate : Int} {L : List Int} (h : LAt (chC cost rate) 4 w B A n L) (hk : k < n) :
    ∃ ad, A = some ad ∧ ad.block < B ∧ w.cell? (ad.add (k * 4)) = some (Value.int .i64 2) ∧ w.cell? ⟨(ad.add (k * 4)).block, (ad.add (k * 4)).off + 1, none⟩ = some (Value.int .i64 cost) ∧ w.cell? ⟨(ad.add (k * 4)).block, (ad.add (k * 4)).off + 2, none⟩ = some (Value.int .i64 rate) ∧ w.cell? ⟨(ad.add (k * 4)).block, (ad.add (k * 4)).off + 3, none⟩ = some (Value.int .i64 (L[k]'(by rw [h.len]; exact hk))) := by
  obtain ⟨ad, rfl, hb, hc⟩ := h.at_ hk
  have g := fun j u hj => (add_next ad (k * 4) j) ▸ hc (j + 1) u hj
  exact ⟨ad, rfl, hb, hc 0 _ rfl, g 0 _ rfl, g 1 _ rfl, g 2 _ rfl⟩
/-- the charges for an energy -/
def chL (S : Int) : List Int := if S ≤ 0 then [] else [S]
theorem ne21 : plK 2 ≠ plK 1 := by simp [plK]
theorem ne23 : plK 2 ≠ plK 3 := by simp [plK]
theorem ne24 : plK 2 ≠ plK 4 := by simp [plK]
set_option maxRecDepth 100000 in
set_option maxHeartbeats 4000000 in
theorem charges_none (gh eA cA b : Nat) (cost rate start l0 l1 l2 S : Int) (kn : Bool) (w : World) (hs : Ses w gh eA cA b cost rate start l0 l1 l2 kn S) (hS0 : S = 0) : Calls Tryd.prog 25 #[.pointer (some ⟨gh, 0, none⟩)] w fun e w' => e = .returned (.slice none 0 0) ∧ Below w.heap.size w w' := by
  subst hS0
  replace hs := Lib.hid hs
  have k5 : (w).cell? ⟨gh, 5, none⟩ = some (Value.slice (some ⟨eA, 0, none⟩) 1 1) := (hs.out.s).cell 5
  go_enter Tryd.func25, Tryd.ntmps25
  go_wp2_with fail
  clear k5
  go_loopw [16, 3] (fun i v3 wr => ∃ k : Nat, k ≤ 1 ∧ i = .int .i64 k ∧ v3 = .slice none 0 0 ∧ Hid (Below w.heap.size w wr)) (fun i _ _ => 1 - (intOf i).toNat)
  case atStart => exact ⟨0, Nat.zero_le _, rfl, rfl, Below.refl _ _⟩
  case round =>
    obtain ⟨k, hk9, rfl, rfl, hb⟩ := hrel
    have hS := Lib.hid (Ses.below (B := 0) hs.out hb.out)
    rcases (show k = 0 ∨ k = 1 by omega) with rfl | rfl
    · have e0 : (wr).cell? ⟨eA, 0, none⟩ = some (Value.slice (some ⟨cA, 0, none⟩) 1 1) := (hS.out.T.el).cell 0; have e1 : (wr).cell? ⟨eA, 1, none⟩ = some (Value.int .i64 0) := (hS.out.T.el).cell 1; have e2 : (wr).cell? ⟨eA, 2, none⟩ = some (Value.int .i64 0) := (hS.out.T.el).cell 2; have e3 : (wr).cell? ⟨eA, 3, none⟩ = some (Value.int .i64 0) := (hS.out.T.el).cell 3; have e4 : (wr).cell? ⟨eA, 4, none⟩ = some (Value.int .i64 (-1)) := (hS.out.T.el).cell 4; have e5 : (wr).cell? ⟨eA, 5, none⟩ = some (Value.int .i64 (-1)) := (hS.out.T.el).cell 5; have e6 : (wr).cell? ⟨eA, 6, none⟩ = some (Value.int .i64 (-1)) := (hS.out.T.el).cell 6; have e7 : (wr).cell? ⟨eA, 7, none⟩ = some (Value.int .i64 (-1)) := (hS.out.T.el).cell 7; have e8 : (wr).cell? ⟨eA, 8, none⟩ = some (Value.int .i64 (-1)) := (hS.out.T.el).cell 8; have e9 : (wr).cell? ⟨eA, 9, none⟩ = some (Value.int .i64 (-1)) := (hS.out.T.el).cell 9; have e10 : (wr).cell? ⟨eA, 10, none⟩ = some (Value.int .i64 (-1)) := (hS.out.T.el).cell 10; have e11 : (wr).cell? ⟨eA, 11, none⟩ = some (Value.int .i64 (-1)) := (hS.out.T.el).cell 11
      have hE := Lib.hid (Blk.new wr 35 #[Value.slice (some ⟨cA, 0, none⟩) 1 1, Value.int .i64 0, Value.int .i64 0, Value.int .i64 0, Value.int .i64 (-1), Value.int .i64 (-1), Value.int .i64 (-1), Value.int .i64 (-1), Value.int .i64 (-1), Value.int .i64 (-1), Value.int .i64 (-1), Value.int .i64 (-1)])
      have hb2 : Hid (Below w.heap.size w (wr.alloc (.cells #[Value.slice (some ⟨cA, 0, none⟩) 1 1, Value.int .i64 0, Value.int .i64 0, Value.int .i64 0, Value.int .i64 (-1), Value.int .i64 (-1), Value.int .i64 (-1), Value.int .i64 (-1), Value.int .i64 (-1), Value.int .i64 (-1), Value.int .i64 (-1), Value.int .i64 (-1)] 35))) := hb.out.alloc hb.out.size _
      have n0 : ((wr.alloc (.cells #[Value.slice (some ⟨cA, 0, none⟩) 1 1, Value.int .i64 0, Value.int .i64 0, Value.int .i64 0, Value.int .i64 (-1), Value.int .i64 (-1), Value.int .i64 (-1), Value.int .i64 (-1), Value.int .i64 (-1), Value.int .i64 (-1), Value.int .i64 (-1), Value.int .i64 (-1)] 35))).cell? ⟨wr.heap.size, 0, none⟩ = some (Value.slice (some ⟨cA, 0, none⟩) 1 1) := (hE.out).cell 0; have n1 : ((wr.alloc (.cells #[Value.slice (some ⟨cA, 0, none⟩) 1 1, Value.int .i64 0, Value.int .i64 0, Value.int .i64 0, Value.int .i64 (-1), Value.int .i64 (-1), Value.int .i64 (-1), Value.int .i64 (-1), Value.int .i64 (-1), Value.int .i64 (-1), Value.int .i64 (-1), Value.int .i64 (-1)] 35))).cell? ⟨wr.heap.size, 1, none⟩ = some (Value.int .i64 0) := (hE.out).cell 1; have n2 : ((wr.alloc (.cells #[Value.slice (some ⟨cA, 0, none⟩) 1 1, Value.int .i64 0, Value.int .i64 0, Value.int .i64 0, Value.int .i64 (-1), Value.int .i64 (-1), Value.int .i64 (-1), Value.int .i64 (-1), Value.int .i64 (-1), Value.int .i64 (-1), Value.int .i64 (-1), Value.int .i64 (-1)] 35))).cell? ⟨wr.heap.size, 2, none⟩ = some (Value.int .i64 0) := (hE.out).cell 2; have n3 : ((wr.alloc (.cells #[Value.slice (some ⟨cA, 0, none⟩) 1 1, Value.int .i64 0, Value.int .i64 0, Value.int .i64 0, Value.int .i64 (-1), Value.int .i64 (-1), Value.int .i64 (-1), Value.int .i64 (-1), Value.int .i64 (-1), Value.int .i64 (-1), Value.int .i64 (-1), Value.int .i64 (-1)] 35))).cell? ⟨wr.heap.size, 3, none⟩ = some (Value.int .i64 0) := (hE.out).cell 3; have n4 : ((wr.alloc (.cells #[Value.slice (some ⟨cA, 0, none⟩) 1 1, Value.int .i64 0, Value.int .i64 0, Value.int .i64 0, Value.int .i64 (-1), Value.int .i64 (-1), Value.int .i64 (-1), Value.int .i64 (-1), Value.int .i64 (-1), Value.int .i64 (-1), Value.int .i64 (-1), Value.int .i64 (-1)] 35))).cell? ⟨wr.heap.size, 4, none⟩ = some (Value.int .i64 (-1)) := (hE.out).cell 4; have n5 : ((wr.alloc (.cells #[Value.slice (some ⟨cA, 0, none⟩) 1 1, Value.int .i64 0, Value.int .i64 0, Value.int .i64 0, Value.int .i64 (-1), Value.int .i64 (-1), Value.int .i64 (-1), Value.int .i64 (-1), Value.int .i64 (-1), Value.int .i64 (-1), Value.int .i64 (-1), Value.int .i64 (-1)] 35))).cell? ⟨wr.heap.size, 5, none⟩ = some (Value.int .i64 (-1)) := (hE.out).cell 5; have n6 : ((wr.alloc (.cells #[Value.slice (some ⟨cA, 0, none⟩) 1 1, Value.int .i64 0, Value.int .i64 0, Value.int .i64 0, Value.int .i64 (-1), Value.int .i64 (-1), Value.int .i64 (-1), Value.int .i64 (-1), Value.int .i64 (-1), Value.int .i64 (-1), Value.int .i64 (-1), Value.int .i64 (-1)] 35))).cell? ⟨wr.heap.size, 6, none⟩ = some (Value.int .i64 (-1)) := (hE.out).cell 6; have n7 : ((wr.alloc (.cells #[Value.slice (some ⟨cA, 0, none⟩) 1 1, Value.int .i64 0, Value.int .i64 0, Value.int .i64 0, Value.int .i64 (-1), Value.int .i64 (-1), Value.int .i64 (-1), Value.int .i64 (-1), Value.int .i64 (-1), Value.int .i64 (-1), Value.int .i64 (-1), Value.int .i64 (-1)] 35))).cell? ⟨wr.heap.size, 7, none⟩ = some (Value.int .i64 (-1)) := (hE.out).cell 7; have n8 : ((wr.alloc (.cells #[Value.slice (some ⟨cA, 0, none⟩) 1 1, Value.int .i64 0, Value.int .i64 0, Value.int .i64 0, Value.int .i64 (-1), Value.int .i64 (-1), Value.int .i64 (-1), Value.int .i64 (-1), Value.int .i64 (-1), Value.int .i64 (-1), Value.int .i64 (-1), Value.int .i64 (-1)] 35))).cell? ⟨wr.heap.size, 8, none⟩ = some (Value.int .i64 (-1)) := (hE.out).cell 8; have n9 : ((wr.alloc (.cells #[Value.slice (some ⟨cA, 0, none⟩) 1 1, Value.int .i64 0, Value.int .i64 0, Value.int .i64 0, Value.int .i64 (-1), Value.int .i64 (-1), Value.int .i64 (-1), Value.int .i64 (-1), Value.int .i64 (-1), Value.int .i64 (-1), Value.int .i64 (-1), Value.int .i64 (-1)] 35))).cell? ⟨wr.heap.size, 9, none⟩ = some (Value.int .i64 (-1)) := (hE.out).cell 9; have n10 : ((wr.alloc (.cells #[Value.slice (some ⟨cA, 0, none⟩) 1 1, Value.int .i64 0, Value.int .i64 0, Value.int .i64 0, Value.int .i64 (-1), Value.int .i64 (-1), Value.int .i64 (-1), Value.int .i64 (-1), Value.int .i64 (-1), Value.int .i64 (-1), Value.int .i64 (-1), Value.int .i64 (-1)] 35))).cell? ⟨wr.heap.size, 10, none⟩ = some (Value.int .i64 (-1)) := (hE.out).cell 10; have n11 : ((wr.alloc (.cells #[Value.slice (some ⟨cA, 0, none⟩) 1 1, Value.int .i64 0, Value.int .i64 0, Value.int .i64 0, Value.int .i64 (-1), Value.int .i64 (-1), Value.int .i64 (-1), Value.int .i64 (-1), Value.int .i64 (-1), Value.int .i64 (-1), Value.int .i64 (-1), Value.int .i64 (-1)] 35))).cell? ⟨wr.heap.size, 11, none⟩ = some (Value.int .i64 (-1)) := (hE.out).cell 11
      clear hk9 hb hS
      go_wp2_with fail
      clear e0 n0 e1 n1 e2 n2 e3 n3 e4 n4 e5 n5 e6 n6 e7 n7 e8 n8 e9 n9 e10 n10 e11 n11 hE
      generalize (wr.alloc (.cells #[Value.slice (some ⟨cA, 0, none⟩) 1 1, Value.int .i64 0, Value.int .i64 0, Value.int .i64 0, Value.int .i64 (-1), Value.int .i64 (-1), Value.int .i64 (-1), Value.int .i64 (-1), Value.int .i64 (-1), Value.int .i64 (-1), Value.int .i64 (-1), Value.int .i64 (-1)] 35)) = w2 at *
      generalize wr.heap.size = g5 at *
      go_loopw [6, 3] (fun i v3 w3 => ∃ k : Nat, k ≤ 4 ∧ i = .int .i64 (k + 1) ∧ v3 = .slice none 0 0 ∧ Hid (Below w.heap.size w w3)) (fun i _ _ => 5 - (intOf i).toNat)
      case atStart => exact ⟨0, Nat.zero_le _, rfl, rfl, hb2.out⟩
      case round =>
        clear hb2
        obtain ⟨k, hk9, rfl, rfl, hb⟩ := hrel
        have hS := Lib.hid (Ses.below (B := 0) hs.out hb.out)
        have c11 : wr.cell? ⟨gh, 11, none⟩ = some (Value.map (some b)) := hS.out.s.cell 11
        rcases (show k = 0 ∨ k = 1 ∨ k = 2 ∨ k = 3 ∨ k = 4 by omega) with rfl | rfl | rfl | rfl | rfl
        · have el := look_miss hS.out.M key_of1 ne21
          unfold plK at el
          clear hk9 hS
          go_wp2_with fail
          go_roundw
          case rel => exact ⟨1, by omega, by go_num, by go_num, hb.out⟩
          case measure => simp [intOf]
        · have el := look_hit hS.out.M
          unfold plK at el
          clear hk9 hS
          go_wp2_with fail
          go_roundw
          case rel => exact ⟨2, by omega, by go_num, by go_num, hb.out⟩
          case measure => simp [intOf]
        · have el := look_miss hS.out.M key_of3 ne23
          unfold plK at el
          clear hk9 hS
          go_wp2_with fail
          go_roundw
          case rel => exact ⟨3, by omega, by go_num, by go_num, hb.out⟩
          case measure => simp [intOf]
        · have el := look_miss hS.out.M key_of4 ne24
          unfold plK at el
          clear hk9 hS
          go_wp2_with fail
          go_roundw
          case rel => exact ⟨4, by omega, by go_num, by go_num, hb.out⟩
          case measure => simp [intOf]
        · clear hk9 hS
          go_wp2_with fail
          go_roundw
          case rel => exact ⟨1, by omega, by go_num, by go_num, hb.out⟩
          case measure => simp [intOf]
    · clear hk9 hS
      go_wp2_with fail
      go_ret
      exact ⟨rfl, hb.out⟩
set_option maxRecDepth 100000 in
set_option maxHeartbeats 4000000 in
theorem charges_one (gh eA cA b : Nat) (cost rate start l0 l1 l2 S : Int) (kn : Bool) (w : World) (hs : Ses w gh eA cA b cost rate start l0 l1 l2 kn S) (hS0 : 0 < S) : Calls Tryd.prog 25 #[.pointer (some ⟨gh, 0, none⟩)] w fun e w' => (∃ g c, e = .returned (.slice (some ⟨g, 0, none⟩) 1 c) ∧ w.heap.size ≤ g ∧ LAt (chC cost rate) 4 w' w'.heap.size (some ⟨g, 0, none⟩) 1 [S] ∧ 1 ≤ c ∧ c ≤ maxLen) ∧ Below w.heap.size w w' := by
  have dS : decide (S ≤ 0) = false := by simp; omega
  obtain ⟨i73, hi73, hz730, hz731, hz732⟩ := info_parts ch_info
  replace hi73 := Lib.hid hi73
  replace hz730 := Lib.hid hz730
  replace hz731 := Lib.hid hz731
  replace hz732 := Lib.hid hz732
  replace hS0 := Lib.hid hS0
  replace hs := Lib.hid hs
  have k5 : (w).cell? ⟨gh, 5, none⟩ = some (Value.slice (some ⟨eA, 0, none⟩) 1 1) := (hs.out.s).cell 5
  go_enter Tryd.func25, Tryd.ntmps25
  go_wp2_with fail
  clear k5
  go_loopw [16, 3] (fun i v3 wr => ∃ k : Nat, k ≤ 1 ∧ i = .int .i64 k ∧ (k = 0 → v3 = .slice none 0 0) ∧ Hid (k = 1 → LOwn (chC cost rate) 4 73 wr w.heap.size v3 [S]) ∧ Hid (Below w.heap.size w wr)) (fun i _ _ => 1 - (intOf i).toNat)
  case atStart => exact ⟨0, Nat.zero_le _, rfl, fun _ => rfl, Lib.hid (fun h => by cases h), Below.refl _ _⟩
  case round =>
    obtain ⟨k, hk9, rfl, hv3, hO, hb⟩ := hrel
    have hS := Lib.hid (Ses.below (B := 0) hs.out hb.out)
    rcases (show k = 0 ∨ k = 1 by omega) with rfl | rfl
    · have hv3 := hv3 rfl
      subst hv3
      have e0 : (wr).cell? ⟨eA, 0, none⟩ = some (Value.slice (some ⟨cA, 0, none⟩) 1 1) := (hS.out.T.el).cell 0; have e1 : (wr).cell? ⟨eA, 1, none⟩ = some (Value.int .i64 0) := (hS.out.T.el).cell 1; have e2 : (wr).cell? ⟨eA, 2, none⟩ = some (Value.int .i64 0) := (hS.out.T.el).cell 2; have e3 : (wr).cell? ⟨eA, 3, none⟩ = some (Value.int .i64 0) := (hS.out.T.el).cell 3; have e4 : (wr).cell? ⟨eA, 4, none⟩ = some (Value.int .i64 (-1)) := (hS.out.T.el).cell 4; have e5 : (wr).cell? ⟨eA, 5, none⟩ = some (Value.int .i64 (-1)) := (hS.out.T.el).cell 5; have e6 : (wr).cell? ⟨eA, 6, none⟩ = some (Value.int .i64 (-1)) := (hS.out.T.el).cell 6; have e7 : (wr).cell? ⟨eA, 7, none⟩ = some (Value.int .i64 (-1)) := (hS.out.T.el).cell 7; have e8 : (wr).cell? ⟨eA, 8, none⟩ = some (Value.int .i64 (-1)) := (hS.out.T.el).cell 8; have e9 : (wr).cell? ⟨eA, 9, none⟩ = some (Value.int .i64 (-1)) := (hS.out.T.el).cell 9; have e10 : (wr).cell? ⟨eA, 10, none⟩ = some (Value.int .i64 (-1)) := (hS.out.T.el).cell 10; have e11 : (wr).cell? ⟨eA, 11, none⟩ = some (Value.int .i64 (-1)) := (hS.out.T.el).cell 11
      have hE := Lib.hid (Blk.new wr 35 #[Value.slice (some ⟨cA, 0, none⟩) 1 1, Value.int .i64 0, Value.int .i64 0, Value.int .i64 0, Value.int .i64 (-1), Value.int .i64 (-1), Value.int .i64 (-1), Value.int .i64 (-1), Value.int .i64 (-1), Value.int .i64 (-1), Value.int .i64 (-1), Value.int .i64 (-1)])
      have hb2 : Hid (Below w.heap.size w (wr.alloc (.cells #[Value.slice (some ⟨cA, 0, none⟩) 1 1, Value.int .i64 0, Value.int .i64 0, Value.int .i64 0, Value.int .i64 (-1), Value.int .i64 (-1), Value.int .i64 (-1), Value.int .i64 (-1), Value.int .i64 (-1), Value.int .i64 (-1), Value.int .i64 (-1), Value.int .i64 (-1)] 35))) := hb.out.alloc hb.out.size _
      have n0 : ((wr.alloc (.cells #[Value.slice (some ⟨cA, 0, none⟩) 1 1, Value.int .i64 0, Value.int .i64 0, Value.int .i64 0, Value.int .i64 (-1), Value.int .i64 (-1), Value.int .i64 (-1), Value.int .i64 (-1), Value.int .i64 (-1), Value.int .i64 (-1), Value.int .i64 (-1), Value.int .i64 (-1)] 35))).cell? ⟨wr.heap.size, 0, none⟩ = some (Value.slice (some ⟨cA, 0, none⟩) 1 1) := (hE.out).cell 0; have n1 : ((wr.alloc (.cells #[Value.slice (some ⟨cA, 0, none⟩) 1 1, Value.int .i64 0, Value.int .i64 0, Value.int .i64 0, Value.int .i64 (-1), Value.int .i64 (-1), Value.int .i64 (-1), Value.int .i64 (-1), Value.int .i64 (-1), Value.int .i64 (-1), Value.int .i64 (-1), Value.int .i64 (-1)] 35))).cell? ⟨wr.heap.size, 1, none⟩ = some (Value.int .i64 0) := (hE.out).cell 1; have n2 : ((wr.alloc (.cells #[Value.slice (some ⟨cA, 0, none⟩) 1 1, Value.int .i64 0, Value.int .i64 0, Value.int .i64 0, Value.int .i64 (-1), Value.int .i64 (-1), Value.int .i64 (-1), Value.int .i64 (-1), Value.int .i64 (-1), Value.int .i64 (-1), Value.int .i64 (-1), Value.int .i64 (-1)] 35))).cell? ⟨wr.heap.size, 2, none⟩ = some (Value.int .i64 0) := (hE.out).cell 2; have n3 : ((wr.alloc (.cells #[Value.slice (some ⟨cA, 0, none⟩) 1 1, Value.int .i64 0, Value.int .i64 0, Value.int .i64 0, Value.int .i64 (-1), Value.int .i64 (-1), Value.int .i64 (-1), Value.int .i64 (-1), Value.int .i64 (-1), Value.int .i64 (-1), Value.int .i64 (-1), Value.int .i64 (-1)] 35))).cell? ⟨wr.heap.size, 3, none⟩ = some (Value.int .i64 0) := (hE.out).cell 3; have n4 : ((wr.alloc (.cells #[Value.slice (some ⟨cA, 0, none⟩) 1 1, Value.int .i64 0, Value.int .i64 0, Value.int .i64 0, Value.int .i64 (-1), Value.int .i64 (-1), Value.int .i64 (-1), Value.int .i64 (-1), Value.int .i64 (-1), Value.int .i64 (-1), Value.int .i64 (-1), Value.int .i64 (-1)] 35))).cell? ⟨wr.heap.size, 4, none⟩ = some (Value.int .i64 (-1)) := (hE.out).cell 4; have n5 : ((wr.alloc (.cells #[Value.slice (some ⟨cA, 0, none⟩) 1 1, Value.int .i64 0, Value.int .i64 0, Value.int .i64 0, Value.int .i64 (-1), Value.int .i64 (-1), Value.int .i64 (-1), Value.int .i64 (-1), Value.int .i64 (-1), Value.int .i64 (-1), Value.int .i64 (-1), Value.int .i64 (-1)] 35))).cell? ⟨wr.heap.size, 5, none⟩ = some (Value.int .i64 (-1)) := (hE.out).cell 5; have n6 : ((wr.alloc (.cells #[Value.slice (some ⟨cA, 0, none⟩) 1 1, Value.int .i64 0, Value.int .i64 0, Value.int .i64 0, Value.int .i64 (-1), Value.int .i64 (-1), Value.int .i64 (-1), Value.int .i64 (-1), Value.int .i64 (-1), Value.int .i64 (-1), Value.int .i64 (-1), Value.int .i64 (-1)] 35))).cell? ⟨wr.heap.size, 6, none⟩ = some (Value.int .i64 (-1)) := (hE.out).cell 6; have n7 : ((wr.alloc (.cells #[Value.slice (some ⟨cA, 0, none⟩) 1 1, Value.int .i64 0, Value.int .i64 0, Value.int .i64 0, Value.int .i64 (-1), Value.int .i64 (-1), Value.int .i64 (-1), Value.int .i64 (-1), Value.int .i64 (-1), Value.int .i64 (-1), Value.int .i64 (-1), Value.int .i64 (-1)] 35))).cell? ⟨wr.heap.size, 7, none⟩ = some (Value.int .i64 (-1)) := (hE.out).cell 7; have n8 : ((wr.alloc (.cells #[Value.slice (some ⟨cA, 0, none⟩) 1 1, Value.int .i64 0, Value.int .i64 0, Value.int .i64 0, Value.int .i64 (-1), Value.int .i64 (-1), Value.int .i64 (-1), Value.int .i64 (-1), Value.int .i64 (-1), Value.int .i64 (-1), Value.int .i64 (-1), Value.int .i64 (-1)] 35))).cell? ⟨wr.heap.size, 8, none⟩ = some (Value.int .i64 (-1)) := (hE.out).cell 8; have n9 : ((wr.alloc (.cells #[Value.slice (some ⟨cA, 0, none⟩) 1 1, Value.int .i64 0, Value.int .i64 0, Value.int .i64 0, Value.int .i64 (-1), Value.int .i64 (-1), Value.int .i64 (-1), Value.int .i64 (-1), Value.int .i64 (-1), Value.int .i64 (-1), Value.int .i64 (-1), Value.int .i64 (-1)] 35))).cell? ⟨wr.heap.size, 9, none⟩ = some (Value.int .i64 (-1)) := (hE.out).cell 9; have n10 : ((wr.alloc (.cells #[Value.slice (some ⟨cA, 0, none⟩) 1 1, Value.int .i64 0, Value.int .i64 0, Value.int .i64 0, Value.int .i64 (-1), Value.int .i64 (-1), Value.int .i64 (-1), Value.int .i64 (-1), Value.int .i64 (-1), Value.int .i64 (-1), Value.int .i64 (-1), Value.int .i64 (-1)] 35))).cell? ⟨wr.heap.size, 10, none⟩ = some (Value.int .i64 (-1)) := (hE.out).cell 10; have n11 : ((wr.alloc (.cells #[Value.slice (some ⟨cA, 0, none⟩) 1 1, Value.int .i64 0, Value.int .i64 0, Value.int .i64 0, Value.int .i64 (-1), Value.int .i64 (-1), Value.int .i64 (-1), Value.int .i64 (-1), Value.int .i64 (-1), Value.int .i64 (-1), Value.int .i64 (-1), Value.int .i64 (-1)] 35))).cell? ⟨wr.heap.size, 11, none⟩ = some (Value.int .i64 (-1)) := (hE.out).cell 11
      clear hk9 hb hS hO
      go_wp2_with fail
      clear e0 n0 e1 n1 e2 n2 e3 n3 e4 n4 e5 n5 e6 n6 e7 n7 e8 n8 e9 n9 e10 n10 e11 n11
      generalize (wr.alloc (.cells #[Value.slice (some ⟨cA, 0, none⟩) 1 1, Value.int .i64 0, Value.int .i64 0, Value.int .i64 0, Value.int .i64 (-1), Value.int .i64 (-1), Value.int .i64 (-1), Value.int .i64 (-1), Value.int .i64 (-1), Value.int .i64 (-1), Value.int .i64 (-1), Value.int .i64 (-1)] 35)) = w2 at *
      generalize wr.heap.size = g5 at *
      go_loopw [6, 3] (fun i v3 w3 => ∃ k : Nat, k ≤ 4 ∧ i = .int .i64 (k + 1) ∧ (k ≤ 1 → v3 = .slice none 0 0) ∧ Hid (2 ≤ k → LOwn (chC cost rate) 4 73 w3 w.heap.size v3 [S]) ∧ Hid (Below w2.heap.size w2 w3)) (fun i _ _ => 5 - (intOf i).toNat)
      case atStart => exact ⟨0, Nat.zero_le _, rfl, fun _ => rfl, Lib.hid (fun h => absurd h (by omega)), Below.refl _ _⟩
      case round =>
        obtain ⟨k, hk9, rfl, hv3, hO, hb⟩ := hrel
        have hbw : Hid (Below w.heap.size w wr) := hb2.out.trans (hb.out.mono hb2.out.size)
        have hS := Lib.hid (Ses.below (B := 0) hs.out hbw.out)
        have c11 : wr.cell? ⟨gh, 11, none⟩ = some (Value.map (some b)) := hS.out.s.cell 11
        rcases (show k = 0 ∨ k = 1 ∨ k = 2 ∨ k = 3 ∨ k = 4 by omega) with rfl | rfl | rfl | rfl | rfl
        · have hv3 := hv3 (by omega)
          subst hv3
          have el := look_miss hS.out.M key_of1 ne21
          unfold plK at el
          clear hk9 hS hO dS
          go_wp2_with fail
          go_roundw
          case rel => exact ⟨1, by omega, by go_num, fun _ => rfl, Lib.hid (fun h => absurd h (by omega)), hb.out⟩
          case measure => simp [intOf]
        · have hv3 := hv3 (by omega)
          subst hv3
          have el := look_hit hS.out.M
          unfold plK at el
          have hEr := Lib.hid (hE.out.below hb.out hE.out.lt)
          have n0 : wr.cell? ⟨g5, 0, none⟩ = some (Value.slice (some ⟨cA, 0, none⟩) 1 1) := hEr.out.cell 0
          have c0 : (wr).cell? ⟨cA, 0, none⟩ = some (Value.int .i64 2) := (hS.out.T.co).cell 0; have c1 : (wr).cell? ⟨cA, 1, none⟩ = some (Value.int .i64 cost) := (hS.out.T.co).cell 1; have c2 : (wr).cell? ⟨cA, 2, none⟩ = some (Value.int .i64 1) := (hS.out.T.co).cell 2; have c3 : (wr).cell? ⟨cA, 3, none⟩ = some (Value.int .i64 rate) := (hS.out.T.co).cell 3
          clear hk9 hO
          go_wp2_with fail
          go_loopw [38, 3] (fun i v3 w5 => i = .int .i64 0 ∧ v3 = .slice none 0 0 ∧ w5 = wr) (fun _ _ _ => 0)
          case atStart => exact ⟨rfl, rfl, rfl⟩
          case round =>
            obtain ⟨rfl, rfl, rfl⟩ := hrel
            have hN := Lib.hid (Blk.new wr 32 #[Value.int .i64 2, Value.int .i64 cost, Value.int .i64 1, Value.int .i64 rate])
            have hbN := a1 wr (.cells #[Value.int .i64 2, Value.int .i64 cost, Value.int .i64 1, Value.int .i64 rate] 32)
            have m0 : ((wr.alloc (.cells #[Value.int .i64 2, Value.int .i64 cost, Value.int .i64 1, Value.int .i64 rate] 32))).cell? ⟨wr.heap.size, 0, none⟩ = some (Value.int .i64 2) := (hN.out).cell 0; have m1 : ((wr.alloc (.cells #[Value.int .i64 2, Value.int .i64 cost, Value.int .i64 1, Value.int .i64 rate] 32))).cell? ⟨wr.heap.size, 1, none⟩ = some (Value.int .i64 cost) := (hN.out).cell 1; have m2 : ((wr.alloc (.cells #[Value.int .i64 2, Value.int .i64 cost, Value.int .i64 1, Value.int .i64 rate] 32))).cell? ⟨wr.heap.size, 2, none⟩ = some (Value.int .i64 1) := (hN.out).cell 2; have m3 : ((wr.alloc (.cells #[Value.int .i64 2, Value.int .i64 cost, Value.int .i64 1, Value.int .i64 rate] 32))).cell? ⟨wr.heap.size, 3, none⟩ = some (Value.int .i64 rate) := (hN.out).cell 3
            have hbX := hbN.trans ((a1 (wr.alloc (.cells #[Value.int .i64 2, Value.int .i64 cost, Value.int .i64 1, Value.int .i64 rate] 32)) (.cells #[Value.int .i64 2, Value.int .i64 cost, Value.int .i64 rate, Value.int .i64 S] 73)).mono (by simp))
            have hrd : Hid (Reads ((wr.alloc (.cells #[Value.int .i64 2, Value.int .i64 cost, Value.int .i64 1, Value.int .i64 rate] 32)).alloc (.cells #[Value.int .i64 2, Value.int .i64 cost, Value.int .i64 rate, Value.int .i64 S] 73)) ((wr.alloc (.cells #[Value.int .i64 2, Value.int .i64 cost, Value.int .i64 1, Value.int .i64 rate] 32)).alloc (.cells #[Value.int .i64 2, Value.int .i64 cost, Value.int .i64 rate, Value.int .i64 S] 73)).heap.size 4 (some ⟨(wr.alloc (.cells #[Value.int .i64 2, Value.int .i64 cost, Value.int .i64 1, Value.int .i64 rate] 32)).heap.size, 0, none⟩) 1 (flat (chC cost rate) [S])) := (lat_blk (chC_len cost rate) (Blk.new (wr.alloc (.cells #[Value.int .i64 2, Value.int .i64 cost, Value.int .i64 1, Value.int .i64 rate] 32)) 73 #[Value.int .i64 2, Value.int .i64 cost, Value.int .i64 rate, Value.int .i64 S]) [S] 1 rfl (by simp [flat, chC])).2
            replace hbX := Lib.hid hbX
            rw [show (wr.alloc (.cells #[Value.int .i64 2, Value.int .i64 cost, Value.int .i64 1, Value.int .i64 rate] 32)).heap.size = wr.heap.size + 1 by simp] at hrd
            clear hS el n0 hEr hbN
            go_wp2_with (at_builtin; refine wpList_append_any _ rfl (.tmp 46) (.tmp 54) _ rfl w.heap.size 73 i73 _ 4 32 Tryd.underlying47 hi73.out hz730.out hz731.out hz732.out rfl (by omega) (Value.slice none 0 0) 0 [] rfl ⟨by simp, .inl ⟨rfl, rfl⟩⟩ _ (some ⟨wr.heap.size + 1, 0, none⟩) 1 1 (flat (chC cost rate) [S]) rfl hrd.out (chC_one _ _ _) (by simp only [maxLen]; omega) (by omega) (Nat.le_trans hbw.out.size hbX.out.size) ?_
                         intro v' w1 hown1 hg1 hat1
                         rw [Nat.zero_add, List.nil_append] at hown1
                         have hnew : Hid (LOwn (chC cost rate) 4 73 w1 w.heap.size v' [S]) := ⟨chC_len cost rate, hown1⟩
                         have hb1 : Hid (Below wr.heap.size wr w1) := hbX.out.grown hg1 hbX.out.size (fun k hk => by simp [Value.ownBlock] at hk)
                         clear hown1 hg1 hat1)
            go_roundw
            case rel => exact ⟨2, by omega, by go_num, fun h => absurd h (by omega), Lib.hid (fun _ => hnew.out), hb.out.trans (hb1.out.mono hb.out.size)⟩
            case measure => simp [intOf]
        · have el := look_miss hS.out.M key_of3 ne23
          unfold plK at el
          clear hk9 hS dS hv3
          go_wp2_with fail
          go_roundw
          case rel => exact ⟨3, by omega, by go_num, fun h => absurd h (by omega), Lib.hid (fun _ => hO.out (by omega)), hb.out⟩
          case measure => simp [intOf]
        · have el := look_miss hS.out.M key_of4 ne24
          unfold plK at el
          clear hk9 hS dS hv3
          go_wp2_with fail
          go_roundw
          case rel => exact ⟨4, by omega, by go_num, fun h => absurd h (by omega), Lib.hid (fun _ => hO.out (by omega)), hb.out⟩
          case measure => simp [intOf]
        · clear hk9 hS hv3
          go_wp2_with fail
          go_roundw
          case rel => exact ⟨1, by omega, by go_num, fun h => absurd h (by omega), Lib.hid (fun _ => hO.out (by omega)), hbw.out⟩
          case measure => simp [intOf]
    · clear hk9 hS hv3
      obtain ⟨A7, c7, rfl, q1, q2, hA, hR⟩ := (hO.out rfl).form
      obtain ⟨ad, rfl, -, -⟩ := hR.at_ (show 0 < [S].length by simp)
      obtain ⟨e9, e8, -⟩ := hA _ rfl
      obtain ⟨gb, go, gx⟩ := ad
      simp only [Addr.mk.injEq, true_and] at e9
      obtain ⟨rfl, rfl⟩ := e9
      have hfin : Hid (w.heap.size ≤ gb ∧ LAt (chC cost rate) 4 wr wr.heap.size (some ⟨gb, 0, none⟩) 1 [S] ∧ 1 ≤ c7 ∧ c7 ≤ maxLen) := ⟨e8, hR, q1, q2⟩
      clear e8 hR q1 q2 hA hO
      simp only [List.length_cons, List.length_nil, Nat.zero_add]
      go_wp2_with fail
      go_ret
      exact ⟨⟨_, _, rfl, hfin.out⟩, hb.out⟩
/-- what 'charges' hands back -/
def ResCh (cost rate S : Int) (w w' : World) (e : Ending) : Prop := ∃ A n c, e = .returned (.slice A n c) ∧ LAt (chC cost rate) 4 w' w'.heap.size A n (chL S) ∧ n ≤ c ∧ c ≤ maxLen
theorem charges_any (gh eA cA b : Nat) (cost rate start l0 l1 l2 S : Int) (kn : Bool) (w : World) (hs : Ses w gh eA cA b cost rate start l0 l1 l2 kn S) (hS0 : 0 ≤ S) : Calls Tryd.prog 25 #[.pointer (some ⟨gh, 0, none⟩)] w fun e w' => ResCh cost rate S w w' e ∧ Below w.heap.size w w' := by
  by_cases h : S = 0
  · refine (charges_none gh eA cA b cost rate start l0 l1 l2 S kn w hs h).mono ?_
    rintro e w' ⟨rfl, hb⟩
    refine ⟨⟨none, 0, 0, rfl, ?_, Nat.le_refl _, Nat.zero_le _⟩, hb⟩
    unfold chL
    rw [if_pos (by omega)]
    exact LAt.nil (chC_len cost rate) _ _
  · refine (charges_one gh eA cA b cost rate start l0 l1 l2 S kn w hs (by omega)).mono ?_
    rintro e w' ⟨⟨g, c, rfl, h1, h2, h3, h4⟩, hb⟩
    refine ⟨⟨_, _, _, rfl, ?_, h3, h4⟩, hb⟩
    unfold chL
    rw [if_neg (by omega)]
    exact h2
end Go.Proofs.YtbngclibfnnejaaDoor
