/- Readings: the uses, walked. -/
import Derived.Test.YtbngclibfnnejaaDoorBH
set_option linter.unusedVariables false
set_option linter.unusedSimpArgs false
namespace Go.Proofs.YtbngclibfnnejaaDoor
open Go.RowKit
def usC (x : Int) : List Value := [Value.int .i64 x, Value.bool (x == 0)]
theorem usC_len (x : Int) : (usC x).length = 2 := rfl
theorem usC_one (l : List Int) : ∀ u ∈ flat usC l, u.oneCell' = true := by
  intro u hu
  simp only [flat, List.mem_flatMap] at hu
  obtain ⟨x, -, hx⟩ := hu
  simp only [usC, List.mem_cons, List.not_mem_nil, or_false] at hx
  rcases hx with rfl | rfl <;> rfl
theorem us_info : (Tryd.prog.info? 78).map (fun i => (i.zero, i.size, i.bytes)) = some (some (.agg #[.int .i64 0, .bool false]), 2, 16) := by kernel_rfl
theorem us_cells {w : World} {B n k : Nat} {A : Option Addr} {L : List Int} (h : LAt usC 2 w B A n L) (hk : k < n) :
    ∃ ad, A = some ad ∧ ad.block < B ∧ w.cell? (ad.add (k * 2)) = some (Value.int .i64 (L[k]'(by rw [h.len]; exact hk))) ∧ w.cell? ⟨(ad.add (k * 2)).block, (ad.add (k * 2)).off + 1, none⟩ = some (Value.bool (L[k]'(by rw [h.len]; exact hk) == 0)) := by
  obtain ⟨ad, rfl, hb, hc⟩ := h.at_ hk
  have g := fun j u hj => (add_next ad (k * 2) j) ▸ hc (j + 1) u hj
  exact ⟨ad, rfl, hb, hc 0 _ rfl, g 0 _ rfl⟩
theorem i_cells {w : World} {B n k : Nat} {A : Option Addr} {L : List Int} (h : LAt iC 1 w B A n L) (hk : k < n) :
    ∃ ad, A = some ad ∧ ad.block < B ∧ w.cell? (ad.add (k * 1)) = some (Value.int .i64 (L[k]'(by rw [h.len]; exact hk))) := by
  obtain ⟨ad, rfl, hb, hc⟩ := h.at_ hk
  exact ⟨ad, rfl, hb, hc 0 _ rfl⟩
set_option maxRecDepth 100000 in
set_option maxHeartbeats 4000000 in
theorem uses_any (A : Option Addr) (n cp : Nat) (L : List Rd) (w : World) (h : RdAt w A n L) (hn1 : 1 ≤ n) (hn : n ≤ 60) (hv : vGo none L = 0) (h3 : ((minR L).length : Int) ≤ 3000) : Calls Tryd.prog 9 #[.slice A n cp, .int .i64 1000000] w fun e w' => (∃ g, e = .returned (.tuple #[.slice (some ⟨g, 0, none⟩) (minR L).length (minR L).length, .int .i64 0]) ∧ w.heap.size ≤ g ∧ LAt usC 2 w' w'.heap.size (some ⟨g, 0, none⟩) (minR L).length (minR L)) ∧ Below w.heap.size w w' := by
  have hmi := Lib.hid (minutes_any A n cp L w h hn1 hn hv h3)
  clear h hv hn1 hn
  obtain ⟨i78, hi78, hz780, hz781, hz782⟩ := info_parts us_info
  generalize minR L = M at *
  obtain ⟨NN, hNN⟩ : ∃ m, m = M.length := ⟨_, rfl⟩
  rw [← hNN] at hmi h3 ⊢
  replace hNN := Lib.hid hNN
  replace hi78 := Lib.hid hi78
  replace hz780 := Lib.hid hz780
  replace hz781 := Lib.hid hz781
  replace hz782 := Lib.hid hz782
  go_enter Tryd.func9, Tryd.ntmps9
  go_wp2_with fail
  refine hmi.out.mono ?_; rintro e w1 ⟨⟨g, rfl, hg, hM⟩, hq⟩
  replace hq := Lib.hid hq
  replace hM := Lib.hid hM
  replace hg := Lib.hid hg
  clear hmi
  have hmk := made_row (P := Tryd.prog) w1 44 78 i78 _ 2 Tryd.underlying44 hi78.out hz780.out hz781.out 0 NN 0 (NN : Int) rfl rfl (Nat.zero_le _) (by rw [hz782.out]; omega) (by omega)
  have hMs := size_madeCells (Value.agg #[Value.int .i64 0, Value.bool false]).cells (NN * 2)
  obtain ⟨M1, hM1⟩ : ∃ M1, M1 = madeCells (Value.agg #[Value.int .i64 0, Value.bool false]).cells (NN * 2) := ⟨_, rfl⟩
  rw [← hM1] at hmk hMs
  have hR0 : Hid (LOwn usC 2 78 (w1.alloc (.cells M1 78)) w1.heap.size (.slice (some ⟨w1.heap.size, 0, none⟩) 0 NN) []) := made_nil usC_len 78 w1 M1 NN hMs (by simp only [maxLen]; omega)
  clear hMs hM1
  go_wp2_with fail
  clear hmk
  have hbS : Hid (Below w1.heap.size w1 (w1.alloc (.cells M1 78))) := a1 w1 _
  generalize w1.alloc (.cells M1 78) = w4 at *
  go_loopw [25, 8] (fun i v5 wr => ∃ k : Nat, k ≤ NN ∧ i = .int .i64 k ∧ v5 = .slice (some ⟨w1.heap.size, 0, none⟩) k NN ∧ Hid (LOwn usC 2 78 wr w1.heap.size (.slice (some ⟨w1.heap.size, 0, none⟩) k NN) (M.take k)) ∧ Hid (Below w1.heap.size w1 wr)) (fun i _ _ => NN - (intOf i).toNat)
  case atStart => exact ⟨0, Nat.zero_le _, rfl, rfl, hR0.out, hbS.out⟩
  case round =>
    clear hR0 hbS
    obtain ⟨k, hkn, rfl, rfl, hR, hb⟩ := hrel
    by_cases hlt : k < NN
    · have hkl : k < M.length := by have := hNN.out; omega
      have hk0 : (0 : Int) ≤ k := by omega
      have hk1 : (k : Int) < NN := by omega
      have hst : Hid (M.take (k + 1) = M.take k ++ [M[k]]) := by show _ = _; rw [List.take_succ_eq_append_getElem hkl]
      obtain ⟨ad, hA, -, e0⟩ := i_cells (hM.out.below hb.out (Nat.le_refl _)) hlt
      injection hA with hA
      subst hA
      rw [add_row, Nat.mul_one] at e0
      generalize M[k] = x at *
      have hRX := Lib.hid (hR.out.alloc (.cells #[Value.int .i64 x, Value.bool (x == 0)] 78))
      have hbX : Hid (Below w1.heap.size w1 (wr.alloc (.cells #[Value.int .i64 x, Value.bool (x == 0)] 78))) := hb.out.alloc hb.out.size _
      have hrd : Hid (Reads (wr.alloc (.cells #[Value.int .i64 x, Value.bool (x == 0)] 78)) (wr.alloc (.cells #[Value.int .i64 x, Value.bool (x == 0)] 78)).heap.size 2 (some ⟨wr.heap.size, 0, none⟩) 1 (flat usC [x])) := (lat_blk usC_len (Blk.new wr 78 #[Value.int .i64 x, Value.bool (x == 0)]) [x] 1 rfl (by simp [flat, usC])).2
      have hlk : Hid (k = (M.take k).length) := by show _ = _; rw [List.length_take]; omega
      clear hR hb
      go_wp2_with (at_builtin; refine wpList_append_in _ rfl (.tmp 29) (.tmp 34) _ rfl w1.heap.size 78 i78 2 Tryd.underlying44 hi78.out hz781.out w1.heap.size k NN rfl hRX.out hlk.out _ (some ⟨wr.heap.size, 0, none⟩) 1 1 rfl hrd.out rfl (usC_one _) (by omega) ?_
                   intro w5 hown1 hg1
                   have hR1 : Hid (LOwn usC 2 78 w5 w1.heap.size (.slice (some ⟨w1.heap.size, 0, none⟩) (k + 1) NN) (M.take (k + 1))) := by rw [hst.out]; exact hown1
                   have hb1 : Hid (Below w1.heap.size w1 w5) := hbX.out.grown hg1 hbX.out.size (fun g8 e8 => by injection e8 with e8; omega)
                   clear hown1 hg1)
      go_roundw
      case rel => exact ⟨k + 1, by omega, by go_num, by go_num, hR1.out, hb1.out⟩
      case measure => simp [intOf]; omega
    · obtain rfl : k = NN := by omega
      have htk : M.take k = M := List.take_of_length_le (by have := hNN.out; omega)
      rw [htk] at hR
      clear htk
      have hbw : Hid (Below w.heap.size w wr) := hq.out.trans (hb.out.mono hq.out.size)
      go_wp2_with fail
      refine bodyPost_ret (v := .tuple #[.slice (some ⟨w1.heap.size, 0, none⟩) k k, .int .i64 0]) (by simp [results, Tryd.results9, go_sem]) rfl ⟨⟨w1.heap.size, rfl, hq.out.size, hR.out.reads hNN.out⟩, hbw.out⟩
end Go.Proofs.YtbngclibfnnejaaDoor
