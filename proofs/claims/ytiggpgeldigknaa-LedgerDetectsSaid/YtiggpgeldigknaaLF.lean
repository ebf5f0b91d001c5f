/- Ledger: Append. -/
import Derived.Test.YtiggpgeldigknaaLFh
set_option linter.unusedVariables false
set_option linter.unusedSimpArgs false
namespace Go.Proofs.Ytiggpgeldigknaa
open Go.RowKit
def F39 (g n cp : Nat) (A : Option Addr) (hd hv : Int) (Xr : Int → Array Value) : Tmp → Value → World → Prop
  | 0, v, _ => v = .slice A n cp
  | 13, v, _ => v = .pointer (some ⟨g, 0, none⟩)
  | 61, v, _ => v = .slice A n cp
  | 62, v, _ => v = .int .u64 hd
  | 63, v, _ => ∃ s : Int, v = .agg (Xr s)
  | 64, v, _ => v = .int .u64 hv
  | 65, v, _ => v = .pointer (some ⟨g, 5, none⟩)
  | _, _, _ => True
theorem F39_more {g n cp : Nat} {A : Option Addr} {hd hv : Int} {Xr : Int → Array Value} (d t : Tmp) (v : Value) (w w' : World) (hR : Rb w w') (hne : t ≠ d) (hc : ([] : List (Tmp × Tmp)).contains (d, t) = false) (h : F39 g n cp A hd hv Xr t v w) : F39 g n cp A hd hv Xr t v w' := by
  unfold F39 at *
  split at h <;> first | exact h
def GF39 (g : Nat) (X : Array Value) : Tmp → Value → World → Prop
  | 65, v, w => v = .pointer (some ⟨g, 5, none⟩) ∧ Blk w g 67 X
  | _, _, _ => True
theorem GF39_more {g : Nat} {X : Array Value} (d t : Tmp) (v : Value) (w w' : World) (hR : Rb w w') (h : GF39 g X t v w) : GF39 g X t v w' := by
  unfold GF39 at *
  split at h <;> first | exact h | exact ⟨h.1, h.2.below hR h.2.lt⟩
theorem GF39_st {g : Nat} {X : Array Value} (u : Value) (t : Tmp) (v : Value) (w w' : World) (hS : u = .pointer (some ⟨g, 5, none⟩)) (hne : v ≠ u) (h : GF39 g X t v w) : GF39 g X t v w' := by
  unfold GF39 at *
  split at h <;> first | exact absurd (h.1.trans hS.symm) hne | exact h
theorem F39_st {g n cp : Nat} {A : Option Addr} {hd hv : Int} {Xr : Int → Array Value} (u : Value) (t : Tmp) (v : Value) (w w' : World) (hS : u = .pointer (some ⟨g, 5, none⟩)) (h : F39 g n cp A hd hv Xr t v w) : F39 g n cp A hd hv Xr t v w' := by
  unfold F39 at *
  split at h <;> exact h
set_option maxRecDepth 100000 in
set_option maxHeartbeats 8000000 in
theorem append_any (A : Option Addr) (n cp : Nat) (L : List Ln) (at_ : Int) (who what on : ByteArray) (w : World) (h : LAt lnC 6 w w.heap.size A n L) (hmx : n ≤ 1000) (hnc : n ≤ cp) (ha : -9223372036854775808 ≤ at_ ∧ at_ ≤ 9223372036854775807) (hs : t3 who what on = true) :
    Calls Try.prog 39 #[.slice A n cp, .int .i64 at_, .string who, .string what, .string on] w fun e w' => ResL (appR L ⟨at_, who, what, on⟩) e w' ∧ Below w.heap.size w w' := by
  have hn := Lib.hid h.len
  replace h := Lib.hid h
  have hap : Hid (appR L ⟨at_, who, what, on⟩ = if 4096 ≤ L.length then (L, 3) else if badAt L ⟨at_, who, what, on⟩ = true then (L, 2) else if (nameB who && nameB what) = false then (L, 4) else if 64 < on.size then (L, 3) else (L ++ [lineOf L ⟨at_, who, what, on⟩], 0)) := rfl
  have hbd : Hid (badAt L ⟨at_, who, what, on⟩ = (decide (at_ < 0) || (decide (268435456 < at_) || (decide (0 < L.length) && decide (at_ < (lastF noLn L).at_))))) := rfl
  rw [if_neg (by have := hn.out; omega)] at hap
  rw [hn.out] at hbd
  have hn4 : (n : Int) < 4096 := by omega
  simp only [t3, Bool.and_eq_true, decide_eq_true_eq] at hs
  obtain ⟨s1, s2, s3⟩ := hs
  by_cases q1 : at_ < 0
  · have q1d : decide (at_ < 0) = true := by simpa using q1
    go_enter Try.func39, Try.ntmps39
    have hS : Hid (appR L ⟨at_, who, what, on⟩ = (L, 2)) := by show _ = _; rw [hap.out]; rw [hbd.out]; simp [q1]
    go_wp2_with fail
    go_ret2
    exact ⟨⟨A, n, cp, by rw [hS.out]; rfl, by rw [hS.out]; exact h.out.more (Below.refl _ _), hnc⟩, Below.refl _ _⟩
  have q1d : decide (at_ < 0) = false := by simpa using q1
  by_cases q2 : 268435456 < at_
  · have q2d : decide (268435456 < at_) = true := by simpa using q2
    go_enter Try.func39, Try.ntmps39
    have hS : Hid (appR L ⟨at_, who, what, on⟩ = (L, 2)) := by show _ = _; rw [hap.out]; rw [hbd.out]; simp [q2]
    go_wp2_with fail
    go_ret2
    exact ⟨⟨A, n, cp, by rw [hS.out]; rfl, by rw [hS.out]; exact h.out.more (Below.refl _ _), hnc⟩, Below.refl _ _⟩
  have q2d : decide (268435456 < at_) = false := by simpa using q2
  have hm : n = 0 ∨ ∃ m, n = m + 1 ∧ (lastF noLn L).at_ = (L.getD m noLn).at_ := by
    by_cases h0 : n = 0
    · exact .inl h0
    · refine .inr ⟨n - 1, by omega, ?_⟩
      have hl := hn.out
      rw [lastF_get _ _ (fun e => h0 (by rw [← hl, e]; rfl)), hl]
  rcases hm with h0 | ⟨m, hm, hla⟩
  · have h0p : decide ((0 : Int) < (n : Int)) = false := by simp; omega
    have h0q : ¬ (0 : Int) < (n : Int) := by omega
    have hbf : Hid (badAt L ⟨at_, who, what, on⟩ = false) := by show _ = _; rw [hbd.out]; simp [q1, q2, h0]
    replace h0 := Lib.hid h0
    clear hbd
    go_enter Try.func39, Try.ntmps39
    go_wp2_with fail
    rw [if_neg (by rw [hbf.out]; decide)] at hap
    clear hbf
    refine (name_any who w).mono ?_; rintro e w3 ⟨rfl, hb⟩
    replace hb := Lib.hid hb
    cases v1 : nameB who with
    | false =>
      rw [v1, Bool.false_and, if_pos rfl] at hap
      have hS : Hid (appR L ⟨at_, who, what, on⟩ = (L, 4)) := by show _ = _; rw [hap.out]; skip
      go_wp2_with fail
      go_ret2
      exact ⟨⟨A, n, cp, by rw [hS.out]; rfl, by rw [hS.out]; exact h.out.more (hb.out), hnc⟩, hb.out⟩
    | true =>
      rw [v1, Bool.true_and] at hap
      go_wp2_with fail
      refine (name_any what w3).mono ?_; rintro e w6 ⟨rfl, hb2⟩
      have hb := Lib.hid (hb.out.trans (hb2.mono hb.out.size))
      clear hb2
      cases v2 : nameB what with
      | false =>
        rw [v2, if_pos rfl] at hap
        have hS : Hid (appR L ⟨at_, who, what, on⟩ = (L, 4)) := by show _ = _; rw [hap.out]; skip
        go_wp2_with fail
        go_ret2
        exact ⟨⟨A, n, cp, by rw [hS.out]; rfl, by rw [hS.out]; exact h.out.more (hb.out), hnc⟩, hb.out⟩
      | true =>
        rw [v2, if_neg (by decide)] at hap
        by_cases v3 : 64 < on.size
        · have v3i : (64 : Int) < on.size := by omega
          rw [if_pos v3] at hap
          have hS : Hid (appR L ⟨at_, who, what, on⟩ = (L, 3)) := by show _ = _; rw [hap.out]; skip
          go_wp2_with fail
          go_ret2
          exact ⟨⟨A, n, cp, by rw [hS.out]; rfl, by rw [hS.out]; exact h.out.more (hb.out), hnc⟩, hb.out⟩
        · have v3i : (on.size : Int) ≤ 64 := by omega
          rw [if_neg v3] at hap
          replace v1 := Lib.hid v1
          replace v2 := Lib.hid v2
          have h := Lib.hid (h.out.more hb.out)
          have hhash : Hid (∀ (s : Int) w, Calls Try.prog 76 #[.int .u64 (headL L), .agg #[Value.int .i64 ((n : Int) + 1), Value.int .i64 at_, Value.string who, Value.string what, Value.string on, Value.int .u64 s]] w fun e w' => e = .returned (.int .u64 (hashL (headL L) ⟨(n : Int) + 1, at_, who, what, on, 0⟩)) ∧ Below w.heap.size w w') := fun s w => hash_any (headL L) ⟨(n : Int) + 1, at_, who, what, on, s⟩ w ⟨by show _ ≤ (n : Int) + 1 ∧ (n : Int) + 1 ≤ _; omega, ha, by show who.size + (what.size + on.size) ≤ _; omega⟩
          have hlo : Hid (lineOf L ⟨at_, who, what, on⟩ = ⟨(n : Int) + 1, at_, who, what, on, (hashL (headL L) ⟨(n : Int) + 1, at_, who, what, on, 0⟩)⟩) := by
            show _ = _
            have e : lineX L ⟨at_, who, what, on⟩ = ⟨(n : Int) + 1, at_, who, what, on, 0⟩ := by unfold lineX; rw [hn.out]
            unfold lineOf
            rw [e]
          have hhead : Hid (∀ w2, Below w6.heap.size w6 w2 → Calls Try.prog 42 #[.slice A n cp] w2 fun e w' => e = .returned (.int .u64 (headL L)) ∧ w' = w2) := fun w2 hq => head_any A n cp L w2 (h.out.more hq) (by omega)
          generalize hashL (headL L) ⟨(n : Int) + 1, at_, who, what, on, 0⟩ = hv at hhash hlo
          generalize headL L = hd at hhash hhead
          go_wp2_with fail
          obtain ⟨g, hge⟩ : ∃ g, g = w6.heap.size := ⟨_, rfl⟩
          have pl := Lib.hid (Blk.new w6 67 #[Value.int .i64 ((n : Int) + 1), Value.int .i64 at_, Value.string who, Value.string what, Value.string on, Value.int .u64 0])
          have hbg := Lib.hid (a1 w6 (.cells #[Value.int .i64 ((n : Int) + 1), Value.int .i64 at_, Value.string who, Value.string what, Value.string on, Value.int .u64 0] 67))
          have hgw : Hid (w6.heap.size ≤ g) := Nat.le_of_eq hge.symm
          rw [← hge] at pl ⊢
          replace hge := Lib.hid hge
          generalize hw7 : w6.alloc (.cells #[Value.int .i64 ((n : Int) + 1), Value.int .i64 at_, Value.string who, Value.string what, Value.string on, Value.int .u64 0] 67) = w7 at *
          refine RM.region [] [65] (F := F39 g n cp A hd hv (fun s => #[Value.int .i64 ((n : Int) + 1), Value.int .i64 at_, Value.string who, Value.string what, Value.string on, Value.int .u64 s])) (W := fun wz => Below w6.heap.size w6 wz ∧ ∃ s : Int, Blk wz g 67 #[Value.int .i64 ((n : Int) + 1), Value.int .i64 at_, Value.string who, Value.string what, Value.string on, Value.int .u64 s]) (R := fun _ => Rb) (S := fun u _ _ => u = .pointer (some ⟨g, 5, none⟩)) (G := GF39 g #[Value.int .i64 ((n : Int) + 1), Value.int .i64 at_, Value.string who, Value.string what, Value.string on, Value.int .u64 hv]) rfl F39_more GF39_more F39_st GF39_st (by kernel_rfl) (by kernel_rfl) (by kernel_rfl) (by kernel_rfl) (by kernel_rfl) ?_ ?_ ?_ (by kernel_rfl) ?_
          · exact ⟨hbg.out.drew, 0, pl.out⟩
          · intro t ht
            unfold F39
            split <;> first | trivial | exact rfl | (exact absurd ht (by decide))
          · simp only [List.forall_mem_cons, List.not_mem_nil, false_implies, implies_true, and_true]
            refine ⟨?_, ?_, ?_, ?_, ?_, ?_⟩
            · intro a w2 hw _ hf K hK
              have f0 := hf 0 rfl
              simp only [F39] at f0
              clear hf
              go_simp
              exact hK _ _ _ rfl rfl hw (Below.refl _ _) (fun h => absurd h (by decide))
            · intro a w2 hw _ hf K hK
              have f0 := hf 61 rfl
              simp only [F39] at f0
              clear hf
              go_simp
              refine (hhead.out w2 (below_set0 hw.1)).mono ?_; rintro e w5 ⟨rfl, rfl⟩
              exact hK _ _ _ rfl rfl hw (Below.refl _ _) (fun h => absurd h (by decide))
            · intro a w2 hw _ hf K hK
              have f0 := hf 13 rfl
              simp only [F39] at f0
              clear hf
              obtain ⟨s, hs⟩ := hw.2
              obtain ⟨k0, k1, k2, k3, k4, k5⟩ := (show w2.cell? ⟨g, 0, none⟩ = some (Value.int .i64 ((n : Int) + 1)) ∧ w2.cell? ⟨g, 1, none⟩ = some (Value.int .i64 at_) ∧ w2.cell? ⟨g, 2, none⟩ = some (Value.string who) ∧ w2.cell? ⟨g, 3, none⟩ = some (Value.string what) ∧ w2.cell? ⟨g, 4, none⟩ = some (Value.string on) ∧ w2.cell? ⟨g, 5, none⟩ = some (Value.int .u64 s) from ⟨hs.cell 0, hs.cell 1, hs.cell 2, hs.cell 3, hs.cell 4, hs.cell 5⟩)
              go_simp
              exact hK _ _ _ rfl ⟨s, rfl⟩ hw (Below.refl _ _) (fun h => absurd h (by decide))
            · intro a w2 hw _ hf K hK
              have f0 := hf 62 rfl
              have f1 := hf 63 rfl
              simp only [F39] at f0 f1
              clear hf
              obtain ⟨s, f1⟩ := f1
              go_simp
              refine (hhash.out s w2).mono ?_; rintro e w5 ⟨rfl, hb⟩
              exact hK _ _ _ rfl rfl ⟨hw.1.trans (hb.mono hw.1.size), hw.2.elim fun s hs => ⟨s, hs.below hb hs.lt⟩⟩ hb (fun h => absurd h (by decide))
            · intro a w2 hw _ hf K hK
              have f0 := hf 13 rfl
              simp only [F39] at f0
              clear hf
              go_simp
              exact hK _ _ _ rfl rfl hw (Below.refl _ _) (fun _ t u hne ht _ => absurd (by simpa using ht) hne)
            · intro a w2 hw hf K hK
              have f0 := hf 65 rfl
              have f1 := hf 64 rfl
              simp only [F39] at f0 f1
              clear hf
              obtain ⟨s, hs⟩ := hw.2
              have z5 : w2.frozen? ⟨g, 5, none⟩ = false := hs.frozen 5
              have k5 : w2.cell? ⟨g, 5, none⟩ = some (Value.int .u64 s) := hs.cell 5
              replace hs := Lib.hid hs
              go_simp
              have hB : Blk _ g 67 #[Value.int .i64 ((n : Int) + 1), Value.int .i64 at_, Value.string who, Value.string what, Value.string on, Value.int .u64 hv] := hs.out.set_ 5 (Value.int .u64 hv)
              refine hK undef _ ⟨hw.1.setCell (p := ⟨g, 5, none⟩) hgw.out _, hv, hB⟩ ?_ ?_
              · show _ = _; exact f0
              · exact ⟨f0, hB⟩
          · intro a' w9 hd hs hw hout hf hg
            simp only [List.forall_mem_cons] at hg
            have hG : GF39 g #[Value.int .i64 ((n : Int) + 1), Value.int .i64 at_, Value.string who, Value.string what, Value.string on, Value.int .u64 hv] 65 _ w9 := hg.2.2.2.2.2.1 trivial
            have hB : Blk w9 g 67 #[Value.int .i64 ((n : Int) + 1), Value.int .i64 at_, Value.string who, Value.string what, Value.string on, Value.int .u64 hv] := hG.2
            clear hg hG
            have e0 : _ = some (Value.slice A n cp) := hout 0 rfl
            have e13 : _ = some (Value.pointer (some ⟨g, 0, none⟩)) := hout 13 rfl
            have e12 : _ = some (Value.int .i64 n) := hout 12 rfl
            obtain ⟨tm, df⟩ := a'
            simp only at hd hs e0 e13 e12
            have e := lit_arr tm 77 hs
            rw [show (List.range 77).map (fun i => tm[i]?.getD undef) = [tm[0]?.getD undef, tm[1]?.getD undef, tm[2]?.getD undef, tm[3]?.getD undef, tm[4]?.getD undef, tm[5]?.getD undef, tm[6]?.getD undef, tm[7]?.getD undef, tm[8]?.getD undef, tm[9]?.getD undef, tm[10]?.getD undef, tm[11]?.getD undef, tm[12]?.getD undef, tm[13]?.getD undef, tm[14]?.getD undef, tm[15]?.getD undef, tm[16]?.getD undef, tm[17]?.getD undef, tm[18]?.getD undef, tm[19]?.getD undef, tm[20]?.getD undef, tm[21]?.getD undef, tm[22]?.getD undef, tm[23]?.getD undef, tm[24]?.getD undef, tm[25]?.getD undef, tm[26]?.getD undef, tm[27]?.getD undef, tm[28]?.getD undef, tm[29]?.getD undef, tm[30]?.getD undef, tm[31]?.getD undef, tm[32]?.getD undef, tm[33]?.getD undef, tm[34]?.getD undef, tm[35]?.getD undef, tm[36]?.getD undef, tm[37]?.getD undef, tm[38]?.getD undef, tm[39]?.getD undef, tm[40]?.getD undef, tm[41]?.getD undef, tm[42]?.getD undef, tm[43]?.getD undef, tm[44]?.getD undef, tm[45]?.getD undef, tm[46]?.getD undef, tm[47]?.getD undef, tm[48]?.getD undef, tm[49]?.getD undef, tm[50]?.getD undef, tm[51]?.getD undef, tm[52]?.getD undef, tm[53]?.getD undef, tm[54]?.getD undef, tm[55]?.getD undef, tm[56]?.getD undef, tm[57]?.getD undef, tm[58]?.getD undef, tm[59]?.getD undef, tm[60]?.getD undef, tm[61]?.getD undef, tm[62]?.getD undef, tm[63]?.getD undef, tm[64]?.getD undef, tm[65]?.getD undef, tm[66]?.getD undef, tm[67]?.getD undef, tm[68]?.getD undef, tm[69]?.getD undef, tm[70]?.getD undef, tm[71]?.getD undef, tm[72]?.getD undef, tm[73]?.getD undef, tm[74]?.getD undef, tm[75]?.getD undef, tm[76]?.getD undef] from rfl] at e
            simp only [e0, e13, e12, Option.getD_some] at e
            clear hf hout hs
            rw [e, hd]
            clear e hd e0 e13 e12
            generalize tm[1]?.getD undef = u1x
            generalize tm[2]?.getD undef = u2x
            generalize tm[3]?.getD undef = u3x
            generalize tm[4]?.getD undef = u4x
            generalize tm[5]?.getD undef = u5x
            generalize tm[6]?.getD undef = u6x
            generalize tm[7]?.getD undef = u7x
            generalize tm[8]?.getD undef = u8x
            generalize tm[9]?.getD undef = u9x
            generalize tm[10]?.getD undef = u10x
            generalize tm[11]?.getD undef = u11x
            generalize tm[14]?.getD undef = u14x
            generalize tm[15]?.getD undef = u15x
            generalize tm[16]?.getD undef = u16x
            generalize tm[17]?.getD undef = u17x
            generalize tm[18]?.getD undef = u18x
            generalize tm[19]?.getD undef = u19x
            generalize tm[20]?.getD undef = u20x
            generalize tm[21]?.getD undef = u21x
            generalize tm[22]?.getD undef = u22x
            generalize tm[23]?.getD undef = u23x
            generalize tm[24]?.getD undef = u24x
            generalize tm[25]?.getD undef = u25x
            generalize tm[26]?.getD undef = u26x
            generalize tm[27]?.getD undef = u27x
            generalize tm[28]?.getD undef = u28x
            generalize tm[29]?.getD undef = u29x
            generalize tm[30]?.getD undef = u30x
            generalize tm[31]?.getD undef = u31x
            generalize tm[32]?.getD undef = u32x
            generalize tm[33]?.getD undef = u33x
            generalize tm[34]?.getD undef = u34x
            generalize tm[35]?.getD undef = u35x
            generalize tm[36]?.getD undef = u36x
            generalize tm[37]?.getD undef = u37x
            generalize tm[38]?.getD undef = u38x
            generalize tm[39]?.getD undef = u39x
            generalize tm[40]?.getD undef = u40x
            generalize tm[41]?.getD undef = u41x
            generalize tm[42]?.getD undef = u42x
            generalize tm[43]?.getD undef = u43x
            generalize tm[44]?.getD undef = u44x
            generalize tm[45]?.getD undef = u45x
            generalize tm[46]?.getD undef = u46x
            generalize tm[47]?.getD undef = u47x
            generalize tm[48]?.getD undef = u48x
            generalize tm[49]?.getD undef = u49x
            generalize tm[50]?.getD undef = u50x
            generalize tm[51]?.getD undef = u51x
            generalize tm[52]?.getD undef = u52x
            generalize tm[53]?.getD undef = u53x
            generalize tm[54]?.getD undef = u54x
            generalize tm[55]?.getD undef = u55x
            generalize tm[56]?.getD undef = u56x
            generalize tm[57]?.getD undef = u57x
            generalize tm[58]?.getD undef = u58x
            generalize tm[59]?.getD undef = u59x
            generalize tm[60]?.getD undef = u60x
            generalize tm[61]?.getD undef = u61x
            generalize tm[62]?.getD undef = u62x
            generalize tm[63]?.getD undef = u63x
            generalize tm[64]?.getD undef = u64x
            generalize tm[65]?.getD undef = u65x
            generalize tm[66]?.getD undef = u66x
            generalize tm[67]?.getD undef = u67x
            generalize tm[68]?.getD undef = u68x
            generalize tm[69]?.getD undef = u69x
            generalize tm[70]?.getD undef = u70x
            generalize tm[71]?.getD undef = u71x
            generalize tm[72]?.getD undef = u72x
            generalize tm[73]?.getD undef = u73x
            generalize tm[74]?.getD undef = u74x
            generalize tm[75]?.getD undef = u75x
            generalize tm[76]?.getD undef = u76x
            have hb := Lib.hid (hb.out.trans (hw.1.mono hb.out.size))
            have hB := Lib.hid hB
            have h := Lib.hid (h.out.below hw.1 (Nat.le_refl _))
            have hgw := hgw.out
            have hgl := hB.out.lt
            clear hw hhead hhash
            obtain ⟨i0, hi0, hz0, hz1, hz2⟩ := info_parts ln_info
            have hmk := made_row (P := Try.prog) w9 62 67 i0 _ 6 Try.underlying62 hi0 hz0 hz1 n (n + 1) n (n + 1) rfl (by omega) (by omega) (by rw [hz2]; omega) (by omega)
            have hMs := size_madeCells (Value.agg #[.int .i64 0, .int .i64 0, .string ⟨#[]⟩, .string ⟨#[]⟩, .string ⟨#[]⟩, .int .u64 0]).cells ((n + 1) * 6)
            generalize madeCells (Value.agg #[.int .i64 0, .int .i64 0, .string ⟨#[]⟩, .string ⟨#[]⟩, .string ⟨#[]⟩, .int .u64 0]).cells ((n + 1) * 6) = M at *
            have hcp := run_copy_reads (P := Try.prog) (w9.alloc (.cells M 67)) 62 62 3 67 i0 6 w9.heap.size n (n + 1) w9.heap.size A n cp M 67 (flat lnC L) Try.underlying62 hi0 hz1 (heap_alloc_new w9 _) ((h.out.mono (by have := hB.out.lt; omega)).2.alloc (Nat.le_refl _) _) (Nat.le_refl _) (by rw [hMs]; omega) (ln_one L)
            rw [setRow_new] at hcp
            obtain ⟨C, hC⟩ : ∃ C, C = (flat lnC L ++ M.toList.drop (n * 6)).toArray := ⟨_, rfl⟩
            rw [← hC] at hcp
            have hown : Hid (LOwn lnC 6 67 (w9.alloc (.cells C 67)) w9.heap.size (.slice (some ⟨w9.heap.size, 0, none⟩) n (n + 1)) L) := by
              have hl : (flat lnC L).length = n * 6 := by rw [flat_len lnC_len, hn.out]
              have h0 := copied_own (w := w9.alloc (.cells C 67)) (base := w9.heap.size) (g := w9.heap.size) (l := L) lnC_len (c := n + 1) (heap_alloc_new w9 (.cells C 67)) (by rw [hC, hn.out]; simp [hl]) (by rw [hC]; simp [hl, hMs]; omega) (Nat.le_refl _) (by rw [hn.out]; omega) (by simp only [maxLen]; omega)
              rw [hn.out] at h0
              exact h0
            replace hMs := Lib.hid hMs
            replace hC := Lib.hid hC
            replace hi0 := Lib.hid hi0
            replace hz0 := Lib.hid hz0
            replace hz1 := Lib.hid hz1
            replace hz2 := Lib.hid hz2
            replace hcp : (Builtin.copy_ #[62, 62] 3 #[.slice (some ⟨w9.heap.size, 0, none⟩) n (n + 1), .slice A n cp]).run Try.prog (w9.alloc (.cells M 67)) = .ok (.int .i64 n) (w9.alloc (.cells C 67)) := hcp
            have hown2 : Hid (LOwn lnC 6 67 ((w9.alloc (.cells C 67)).alloc (.cells #[Value.int .i64 ((n : Int) + 1), Value.int .i64 at_, Value.string who, Value.string what, Value.string on, Value.int .u64 hv] 67)) w9.heap.size (.slice (some ⟨w9.heap.size, 0, none⟩) n (n + 1)) L) := hown.out.alloc _
            have hrd : Hid (Reads ((w9.alloc (.cells C 67)).alloc (.cells #[Value.int .i64 ((n : Int) + 1), Value.int .i64 at_, Value.string who, Value.string what, Value.string on, Value.int .u64 hv] 67)) ((w9.alloc (.cells C 67)).heap.size + 1) 6 (some ⟨(w9.alloc (.cells C 67)).heap.size, 0, none⟩) 1 (flat lnC [(⟨(n : Int) + 1, at_, who, what, on, hv⟩ : Ln)])) := (lit_at (e := 67) lnC_len (w9.alloc (.cells C 67)) [(⟨(n : Int) + 1, at_, who, what, on, hv⟩ : Ln)] #[Value.int .i64 ((n : Int) + 1), Value.int .i64 at_, Value.string who, Value.string what, Value.string on, Value.int .u64 hv] (by simp [flat, lnC])).2
            rw [show (w9.alloc (.cells C 67)).heap.size = w9.heap.size + 1 by simp] at hrd
            obtain ⟨k0, k1, k2, k3, k4, k5⟩ := (show (w9.alloc (.cells C 67)).cell? ⟨g, 0, none⟩ = some (Value.int .i64 ((n : Int) + 1)) ∧ (w9.alloc (.cells C 67)).cell? ⟨g, 1, none⟩ = some (Value.int .i64 at_) ∧ (w9.alloc (.cells C 67)).cell? ⟨g, 2, none⟩ = some (Value.string who) ∧ (w9.alloc (.cells C 67)).cell? ⟨g, 3, none⟩ = some (Value.string what) ∧ (w9.alloc (.cells C 67)).cell? ⟨g, 4, none⟩ = some (Value.string on) ∧ (w9.alloc (.cells C 67)).cell? ⟨g, 5, none⟩ = some (Value.int .u64 hv) from ⟨(hB.out.alloc (.cells C 67)).cell 0, (hB.out.alloc (.cells C 67)).cell 1, (hB.out.alloc (.cells C 67)).cell 2, (hB.out.alloc (.cells C 67)).cell 3, (hB.out.alloc (.cells C 67)).cell 4, (hB.out.alloc (.cells C 67)).cell 5⟩)
            go_wp2_with (at_builtin; refine wpList_append_any _ rfl (.tmp 73) (.tmp 75) _ rfl w9.heap.size 67 i0 _ 6 72 Try.underlying62 hi0.out hz0.out hz1.out hz2.out rfl (by omega) (.slice (some ⟨w9.heap.size, 0, none⟩) n (n + 1)) n (flat lnC L) rfl (hn.out ▸ hown2.out.2) (w9.heap.size + 1 + 1) (some ⟨w9.heap.size + 1, 0, none⟩) 1 1 (flat lnC [(⟨(n : Int) + 1, at_, who, what, on, hv⟩ : Ln)]) rfl hrd.out (ln_one _) (by simp only [maxLen]; omega) (by omega) (by simp; try omega) ?_
                         intro v' w10 hown1 hg1 hat1
                         obtain ⟨A', c', rfl, hcc, -, -, hL⟩ := (show LOwn lnC 6 67 w10 w9.heap.size v' (L ++ [⟨(n : Int) + 1, at_, who, what, on, hv⟩]) from ⟨lnC_len, by have := hown1; simpa [flat, hn.out] using this⟩).form
                         have hb := Lib.hid (hb.out.trans (((below_new (a1 w9 (.cells C 67)) (.cells #[Value.int .i64 ((n : Int) + 1), Value.int .i64 at_, Value.string who, Value.string what, Value.string on, Value.int .u64 hv] 67)).grown hg1 (by simp; omega) (fun k hk => by simp [Value.ownBlock] at hk; omega)).mono hb.out.size))
                         have hS : Hid (appR L ⟨at_, who, what, on⟩ = (L ++ [⟨(n : Int) + 1, at_, who, what, on, hv⟩], 0)) := by show _ = _; rw [hap.out, hlo.out]
                         replace hL := Lib.hid hL
                         clear hown1 hg1 hat1)
            go_ret2
            exact ⟨⟨A', _, c', by rw [hS.out]; rfl, by rw [hS.out]; simpa using hL.out, by simpa using hcc⟩, hb.out⟩
  · have hm0 : (0 : Int) ≤ (m : Int) := by omega
    have hm1 : (m : Int) < (n : Int) := by omega
    have hnm : (n : Int) - 1 = (m : Int) := by omega
    have h0p : decide ((0 : Int) < (n : Int)) = true := by simp; omega
    have h0q : (0 : Int) < (n : Int) := by omega
    have hml : m < L.length := by have := hn.out; omega
    obtain ⟨ad, hA, hadb, -, e1, -, -, -, -⟩ := ln_cells h.out (show m < n by omega)
    rw [List.getD_eq_getElem?_getD, List.getElem?_eq_getElem hml, Option.getD_some] at hla
    generalize L[m].at_ = la at *
    by_cases q3 : at_ < la
    · have q3d : decide (at_ < la) = true := by simpa using q3
      have hbt : Hid (badAt L ⟨at_, who, what, on⟩ = true) := by show _ = _; rw [hbd.out, hla]; simp [q1, q2, q3]; omega
      replace hm := Lib.hid hm
      subst hA
      go_enter Try.func39, Try.ntmps39
      have hS : Hid (appR L ⟨at_, who, what, on⟩ = (L, 2)) := by show _ = _; rw [hap.out, hbt.out]; rfl
      go_wp2_with fail
      go_ret2
      exact ⟨⟨some ad, n, cp, by rw [hS.out]; rfl, by rw [hS.out]; exact h.out, hnc⟩, Below.refl _ _⟩
    · have q3d : decide (at_ < la) = false := by simpa using q3
      have hbf : Hid (badAt L ⟨at_, who, what, on⟩ = false) := by show _ = _; rw [hbd.out, hla]; simp [q1, q2, q3]
      replace hm := Lib.hid hm
      subst hA
      clear hbd
      go_enter Try.func39, Try.ntmps39
      go_wp2_with fail
      generalize hA : some ad = A at *
      clear e1 hadb
      rw [if_neg (by rw [hbf.out]; decide)] at hap
      clear hbf
      refine (name_any who w).mono ?_; rintro e w3 ⟨rfl, hb⟩
      replace hb := Lib.hid hb
      cases v1 : nameB who with
      | false =>
        rw [v1, Bool.false_and, if_pos rfl] at hap
        have hS : Hid (appR L ⟨at_, who, what, on⟩ = (L, 4)) := by show _ = _; rw [hap.out]; skip
        go_wp2_with fail
        go_ret2
        exact ⟨⟨A, n, cp, by rw [hS.out]; rfl, by rw [hS.out]; exact h.out.more (hb.out), hnc⟩, hb.out⟩
      | true =>
        rw [v1, Bool.true_and] at hap
        go_wp2_with fail
        refine (name_any what w3).mono ?_; rintro e w6 ⟨rfl, hb2⟩
        have hb := Lib.hid (hb.out.trans (hb2.mono hb.out.size))
        clear hb2
        cases v2 : nameB what with
        | false =>
          rw [v2, if_pos rfl] at hap
          have hS : Hid (appR L ⟨at_, who, what, on⟩ = (L, 4)) := by show _ = _; rw [hap.out]; skip
          go_wp2_with fail
          go_ret2
          exact ⟨⟨A, n, cp, by rw [hS.out]; rfl, by rw [hS.out]; exact h.out.more (hb.out), hnc⟩, hb.out⟩
        | true =>
          rw [v2, if_neg (by decide)] at hap
          by_cases v3 : 64 < on.size
          · have v3i : (64 : Int) < on.size := by omega
            rw [if_pos v3] at hap
            have hS : Hid (appR L ⟨at_, who, what, on⟩ = (L, 3)) := by show _ = _; rw [hap.out]; skip
            go_wp2_with fail
            go_ret2
            exact ⟨⟨A, n, cp, by rw [hS.out]; rfl, by rw [hS.out]; exact h.out.more (hb.out), hnc⟩, hb.out⟩
          · have v3i : (on.size : Int) ≤ 64 := by omega
            rw [if_neg v3] at hap
            replace v1 := Lib.hid v1
            replace v2 := Lib.hid v2
            have h := Lib.hid (h.out.more hb.out)
            have hhash : Hid (∀ (s : Int) w, Calls Try.prog 76 #[.int .u64 (headL L), .agg #[Value.int .i64 ((n : Int) + 1), Value.int .i64 at_, Value.string who, Value.string what, Value.string on, Value.int .u64 s]] w fun e w' => e = .returned (.int .u64 (hashL (headL L) ⟨(n : Int) + 1, at_, who, what, on, 0⟩)) ∧ Below w.heap.size w w') := fun s w => hash_any (headL L) ⟨(n : Int) + 1, at_, who, what, on, s⟩ w ⟨by show _ ≤ (n : Int) + 1 ∧ (n : Int) + 1 ≤ _; omega, ha, by show who.size + (what.size + on.size) ≤ _; omega⟩
            have hlo : Hid (lineOf L ⟨at_, who, what, on⟩ = ⟨(n : Int) + 1, at_, who, what, on, (hashL (headL L) ⟨(n : Int) + 1, at_, who, what, on, 0⟩)⟩) := by
              show _ = _
              have e : lineX L ⟨at_, who, what, on⟩ = ⟨(n : Int) + 1, at_, who, what, on, 0⟩ := by unfold lineX; rw [hn.out]
              unfold lineOf
              rw [e]
            have hhead : Hid (∀ w2, Below w6.heap.size w6 w2 → Calls Try.prog 42 #[.slice A n cp] w2 fun e w' => e = .returned (.int .u64 (headL L)) ∧ w' = w2) := fun w2 hq => head_any A n cp L w2 (h.out.more hq) (by omega)
            generalize hashL (headL L) ⟨(n : Int) + 1, at_, who, what, on, 0⟩ = hv at hhash hlo
            generalize headL L = hd at hhash hhead
            go_wp2_with fail
            obtain ⟨g, hge⟩ : ∃ g, g = w6.heap.size := ⟨_, rfl⟩
            have pl := Lib.hid (Blk.new w6 67 #[Value.int .i64 ((n : Int) + 1), Value.int .i64 at_, Value.string who, Value.string what, Value.string on, Value.int .u64 0])
            have hbg := Lib.hid (a1 w6 (.cells #[Value.int .i64 ((n : Int) + 1), Value.int .i64 at_, Value.string who, Value.string what, Value.string on, Value.int .u64 0] 67))
            have hgw : Hid (w6.heap.size ≤ g) := Nat.le_of_eq hge.symm
            rw [← hge] at pl ⊢
            replace hge := Lib.hid hge
            generalize hw7 : w6.alloc (.cells #[Value.int .i64 ((n : Int) + 1), Value.int .i64 at_, Value.string who, Value.string what, Value.string on, Value.int .u64 0] 67) = w7 at *
            refine RM.region [] [65] (F := F39 g n cp A hd hv (fun s => #[Value.int .i64 ((n : Int) + 1), Value.int .i64 at_, Value.string who, Value.string what, Value.string on, Value.int .u64 s])) (W := fun wz => Below w6.heap.size w6 wz ∧ ∃ s : Int, Blk wz g 67 #[Value.int .i64 ((n : Int) + 1), Value.int .i64 at_, Value.string who, Value.string what, Value.string on, Value.int .u64 s]) (R := fun _ => Rb) (S := fun u _ _ => u = .pointer (some ⟨g, 5, none⟩)) (G := GF39 g #[Value.int .i64 ((n : Int) + 1), Value.int .i64 at_, Value.string who, Value.string what, Value.string on, Value.int .u64 hv]) rfl F39_more GF39_more F39_st GF39_st (by kernel_rfl) (by kernel_rfl) (by kernel_rfl) (by kernel_rfl) (by kernel_rfl) ?_ ?_ ?_ (by kernel_rfl) ?_
            · exact ⟨hbg.out.drew, 0, pl.out⟩
            · intro t ht
              unfold F39
              split <;> first | trivial | exact rfl | (exact absurd ht (by decide))
            · simp only [List.forall_mem_cons, List.not_mem_nil, false_implies, implies_true, and_true]
              refine ⟨?_, ?_, ?_, ?_, ?_, ?_⟩
              · intro a w2 hw _ hf K hK
                have f0 := hf 0 rfl
                simp only [F39] at f0
                clear hf
                go_simp
                exact hK _ _ _ rfl rfl hw (Below.refl _ _) (fun h => absurd h (by decide))
              · intro a w2 hw _ hf K hK
                have f0 := hf 61 rfl
                simp only [F39] at f0
                clear hf
                go_simp
                refine (hhead.out w2 (below_set0 hw.1)).mono ?_; rintro e w5 ⟨rfl, rfl⟩
                exact hK _ _ _ rfl rfl hw (Below.refl _ _) (fun h => absurd h (by decide))
              · intro a w2 hw _ hf K hK
                have f0 := hf 13 rfl
                simp only [F39] at f0
                clear hf
                obtain ⟨s, hs⟩ := hw.2
                obtain ⟨k0, k1, k2, k3, k4, k5⟩ := (show w2.cell? ⟨g, 0, none⟩ = some (Value.int .i64 ((n : Int) + 1)) ∧ w2.cell? ⟨g, 1, none⟩ = some (Value.int .i64 at_) ∧ w2.cell? ⟨g, 2, none⟩ = some (Value.string who) ∧ w2.cell? ⟨g, 3, none⟩ = some (Value.string what) ∧ w2.cell? ⟨g, 4, none⟩ = some (Value.string on) ∧ w2.cell? ⟨g, 5, none⟩ = some (Value.int .u64 s) from ⟨hs.cell 0, hs.cell 1, hs.cell 2, hs.cell 3, hs.cell 4, hs.cell 5⟩)
                go_simp
                exact hK _ _ _ rfl ⟨s, rfl⟩ hw (Below.refl _ _) (fun h => absurd h (by decide))
              · intro a w2 hw _ hf K hK
                have f0 := hf 62 rfl
                have f1 := hf 63 rfl
                simp only [F39] at f0 f1
                clear hf
                obtain ⟨s, f1⟩ := f1
                go_simp
                refine (hhash.out s w2).mono ?_; rintro e w5 ⟨rfl, hb⟩
                exact hK _ _ _ rfl rfl ⟨hw.1.trans (hb.mono hw.1.size), hw.2.elim fun s hs => ⟨s, hs.below hb hs.lt⟩⟩ hb (fun h => absurd h (by decide))
              · intro a w2 hw _ hf K hK
                have f0 := hf 13 rfl
                simp only [F39] at f0
                clear hf
                go_simp
                exact hK _ _ _ rfl rfl hw (Below.refl _ _) (fun _ t u hne ht _ => absurd (by simpa using ht) hne)
              · intro a w2 hw hf K hK
                have f0 := hf 65 rfl
                have f1 := hf 64 rfl
                simp only [F39] at f0 f1
                clear hf
                obtain ⟨s, hs⟩ := hw.2
                have z5 : w2.frozen? ⟨g, 5, none⟩ = false := hs.frozen 5
                have k5 : w2.cell? ⟨g, 5, none⟩ = some (Value.int .u64 s) := hs.cell 5
                replace hs := Lib.hid hs
                go_simp
                have hB : Blk _ g 67 #[Value.int .i64 ((n : Int) + 1), Value.int .i64 at_, Value.string who, Value.string what, Value.string on, Value.int .u64 hv] := hs.out.set_ 5 (Value.int .u64 hv)
                refine hK undef _ ⟨hw.1.setCell (p := ⟨g, 5, none⟩) hgw.out _, hv, hB⟩ ?_ ?_
                · show _ = _; exact f0
                · exact ⟨f0, hB⟩
            · intro a' w9 hd hs hw hout hf hg
              simp only [List.forall_mem_cons] at hg
              have hG : GF39 g #[Value.int .i64 ((n : Int) + 1), Value.int .i64 at_, Value.string who, Value.string what, Value.string on, Value.int .u64 hv] 65 _ w9 := hg.2.2.2.2.2.1 trivial
              have hB : Blk w9 g 67 #[Value.int .i64 ((n : Int) + 1), Value.int .i64 at_, Value.string who, Value.string what, Value.string on, Value.int .u64 hv] := hG.2
              clear hg hG
              have e0 : _ = some (Value.slice A n cp) := hout 0 rfl
              have e13 : _ = some (Value.pointer (some ⟨g, 0, none⟩)) := hout 13 rfl
              have e12 : _ = some (Value.int .i64 n) := hout 12 rfl
              obtain ⟨tm, df⟩ := a'
              simp only at hd hs e0 e13 e12
              have e := lit_arr tm 77 hs
              rw [show (List.range 77).map (fun i => tm[i]?.getD undef) = [tm[0]?.getD undef, tm[1]?.getD undef, tm[2]?.getD undef, tm[3]?.getD undef, tm[4]?.getD undef, tm[5]?.getD undef, tm[6]?.getD undef, tm[7]?.getD undef, tm[8]?.getD undef, tm[9]?.getD undef, tm[10]?.getD undef, tm[11]?.getD undef, tm[12]?.getD undef, tm[13]?.getD undef, tm[14]?.getD undef, tm[15]?.getD undef, tm[16]?.getD undef, tm[17]?.getD undef, tm[18]?.getD undef, tm[19]?.getD undef, tm[20]?.getD undef, tm[21]?.getD undef, tm[22]?.getD undef, tm[23]?.getD undef, tm[24]?.getD undef, tm[25]?.getD undef, tm[26]?.getD undef, tm[27]?.getD undef, tm[28]?.getD undef, tm[29]?.getD undef, tm[30]?.getD undef, tm[31]?.getD undef, tm[32]?.getD undef, tm[33]?.getD undef, tm[34]?.getD undef, tm[35]?.getD undef, tm[36]?.getD undef, tm[37]?.getD undef, tm[38]?.getD undef, tm[39]?.getD undef, tm[40]?.getD undef, tm[41]?.getD undef, tm[42]?.getD undef, tm[43]?.getD undef, tm[44]?.getD undef, tm[45]?.getD undef, tm[46]?.getD undef, tm[47]?.getD undef, tm[48]?.getD undef, tm[49]?.getD undef, tm[50]?.getD undef, tm[51]?.getD undef, tm[52]?.getD undef, tm[53]?.getD undef, tm[54]?.getD undef, tm[55]?.getD undef, tm[56]?.getD undef, tm[57]?.getD undef, tm[58]?.getD undef, tm[59]?.getD undef, tm[60]?.getD undef, tm[61]?.getD undef, tm[62]?.getD undef, tm[63]?.getD undef, tm[64]?.getD undef, tm[65]?.getD undef, tm[66]?.getD undef, tm[67]?.getD undef, tm[68]?.getD undef, tm[69]?.getD undef, tm[70]?.getD undef, tm[71]?.getD undef, tm[72]?.getD undef, tm[73]?.getD undef, tm[74]?.getD undef, tm[75]?.getD undef, tm[76]?.getD undef] from rfl] at e
              simp only [e0, e13, e12, Option.getD_some] at e
              clear hf hout hs
              rw [e, hd]
              clear e hd e0 e13 e12
              generalize tm[1]?.getD undef = u1x
              generalize tm[2]?.getD undef = u2x
              generalize tm[3]?.getD undef = u3x
              generalize tm[4]?.getD undef = u4x
              generalize tm[5]?.getD undef = u5x
              generalize tm[6]?.getD undef = u6x
              generalize tm[7]?.getD undef = u7x
              generalize tm[8]?.getD undef = u8x
              generalize tm[9]?.getD undef = u9x
              generalize tm[10]?.getD undef = u10x
              generalize tm[11]?.getD undef = u11x
              generalize tm[14]?.getD undef = u14x
              generalize tm[15]?.getD undef = u15x
              generalize tm[16]?.getD undef = u16x
              generalize tm[17]?.getD undef = u17x
              generalize tm[18]?.getD undef = u18x
              generalize tm[19]?.getD undef = u19x
              generalize tm[20]?.getD undef = u20x
              generalize tm[21]?.getD undef = u21x
              generalize tm[22]?.getD undef = u22x
              generalize tm[23]?.getD undef = u23x
              generalize tm[24]?.getD undef = u24x
              generalize tm[25]?.getD undef = u25x
              generalize tm[26]?.getD undef = u26x
              generalize tm[27]?.getD undef = u27x
              generalize tm[28]?.getD undef = u28x
              generalize tm[29]?.getD undef = u29x
              generalize tm[30]?.getD undef = u30x
              generalize tm[31]?.getD undef = u31x
              generalize tm[32]?.getD undef = u32x
              generalize tm[33]?.getD undef = u33x
              generalize tm[34]?.getD undef = u34x
              generalize tm[35]?.getD undef = u35x
              generalize tm[36]?.getD undef = u36x
              generalize tm[37]?.getD undef = u37x
              generalize tm[38]?.getD undef = u38x
              generalize tm[39]?.getD undef = u39x
              generalize tm[40]?.getD undef = u40x
              generalize tm[41]?.getD undef = u41x
              generalize tm[42]?.getD undef = u42x
              generalize tm[43]?.getD undef = u43x
              generalize tm[44]?.getD undef = u44x
              generalize tm[45]?.getD undef = u45x
              generalize tm[46]?.getD undef = u46x
              generalize tm[47]?.getD undef = u47x
              generalize tm[48]?.getD undef = u48x
              generalize tm[49]?.getD undef = u49x
              generalize tm[50]?.getD undef = u50x
              generalize tm[51]?.getD undef = u51x
              generalize tm[52]?.getD undef = u52x
              generalize tm[53]?.getD undef = u53x
              generalize tm[54]?.getD undef = u54x
              generalize tm[55]?.getD undef = u55x
              generalize tm[56]?.getD undef = u56x
              generalize tm[57]?.getD undef = u57x
              generalize tm[58]?.getD undef = u58x
              generalize tm[59]?.getD undef = u59x
              generalize tm[60]?.getD undef = u60x
              generalize tm[61]?.getD undef = u61x
              generalize tm[62]?.getD undef = u62x
              generalize tm[63]?.getD undef = u63x
              generalize tm[64]?.getD undef = u64x
              generalize tm[65]?.getD undef = u65x
              generalize tm[66]?.getD undef = u66x
              generalize tm[67]?.getD undef = u67x
              generalize tm[68]?.getD undef = u68x
              generalize tm[69]?.getD undef = u69x
              generalize tm[70]?.getD undef = u70x
              generalize tm[71]?.getD undef = u71x
              generalize tm[72]?.getD undef = u72x
              generalize tm[73]?.getD undef = u73x
              generalize tm[74]?.getD undef = u74x
              generalize tm[75]?.getD undef = u75x
              generalize tm[76]?.getD undef = u76x
              have hb := Lib.hid (hb.out.trans (hw.1.mono hb.out.size))
              have hB := Lib.hid hB
              have h := Lib.hid (h.out.below hw.1 (Nat.le_refl _))
              have hgw := hgw.out
              have hgl := hB.out.lt
              clear hw hhead hhash
              obtain ⟨i0, hi0, hz0, hz1, hz2⟩ := info_parts ln_info
              have hmk := made_row (P := Try.prog) w9 62 67 i0 _ 6 Try.underlying62 hi0 hz0 hz1 n (n + 1) n (n + 1) rfl (by omega) (by omega) (by rw [hz2]; omega) (by omega)
              have hMs := size_madeCells (Value.agg #[.int .i64 0, .int .i64 0, .string ⟨#[]⟩, .string ⟨#[]⟩, .string ⟨#[]⟩, .int .u64 0]).cells ((n + 1) * 6)
              generalize madeCells (Value.agg #[.int .i64 0, .int .i64 0, .string ⟨#[]⟩, .string ⟨#[]⟩, .string ⟨#[]⟩, .int .u64 0]).cells ((n + 1) * 6) = M at *
              have hcp := run_copy_reads (P := Try.prog) (w9.alloc (.cells M 67)) 62 62 3 67 i0 6 w9.heap.size n (n + 1) w9.heap.size A n cp M 67 (flat lnC L) Try.underlying62 hi0 hz1 (heap_alloc_new w9 _) ((h.out.mono (by have := hB.out.lt; omega)).2.alloc (Nat.le_refl _) _) (Nat.le_refl _) (by rw [hMs]; omega) (ln_one L)
              rw [setRow_new] at hcp
              obtain ⟨C, hC⟩ : ∃ C, C = (flat lnC L ++ M.toList.drop (n * 6)).toArray := ⟨_, rfl⟩
              rw [← hC] at hcp
              have hown : Hid (LOwn lnC 6 67 (w9.alloc (.cells C 67)) w9.heap.size (.slice (some ⟨w9.heap.size, 0, none⟩) n (n + 1)) L) := by
                have hl : (flat lnC L).length = n * 6 := by rw [flat_len lnC_len, hn.out]
                have h0 := copied_own (w := w9.alloc (.cells C 67)) (base := w9.heap.size) (g := w9.heap.size) (l := L) lnC_len (c := n + 1) (heap_alloc_new w9 (.cells C 67)) (by rw [hC, hn.out]; simp [hl]) (by rw [hC]; simp [hl, hMs]; omega) (Nat.le_refl _) (by rw [hn.out]; omega) (by simp only [maxLen]; omega)
                rw [hn.out] at h0
                exact h0
              replace hMs := Lib.hid hMs
              replace hC := Lib.hid hC
              replace hi0 := Lib.hid hi0
              replace hz0 := Lib.hid hz0
              replace hz1 := Lib.hid hz1
              replace hz2 := Lib.hid hz2
              replace hcp : (Builtin.copy_ #[62, 62] 3 #[.slice (some ⟨w9.heap.size, 0, none⟩) n (n + 1), .slice A n cp]).run Try.prog (w9.alloc (.cells M 67)) = .ok (.int .i64 n) (w9.alloc (.cells C 67)) := hcp
              have hown2 : Hid (LOwn lnC 6 67 ((w9.alloc (.cells C 67)).alloc (.cells #[Value.int .i64 ((n : Int) + 1), Value.int .i64 at_, Value.string who, Value.string what, Value.string on, Value.int .u64 hv] 67)) w9.heap.size (.slice (some ⟨w9.heap.size, 0, none⟩) n (n + 1)) L) := hown.out.alloc _
              have hrd : Hid (Reads ((w9.alloc (.cells C 67)).alloc (.cells #[Value.int .i64 ((n : Int) + 1), Value.int .i64 at_, Value.string who, Value.string what, Value.string on, Value.int .u64 hv] 67)) ((w9.alloc (.cells C 67)).heap.size + 1) 6 (some ⟨(w9.alloc (.cells C 67)).heap.size, 0, none⟩) 1 (flat lnC [(⟨(n : Int) + 1, at_, who, what, on, hv⟩ : Ln)])) := (lit_at (e := 67) lnC_len (w9.alloc (.cells C 67)) [(⟨(n : Int) + 1, at_, who, what, on, hv⟩ : Ln)] #[Value.int .i64 ((n : Int) + 1), Value.int .i64 at_, Value.string who, Value.string what, Value.string on, Value.int .u64 hv] (by simp [flat, lnC])).2
              rw [show (w9.alloc (.cells C 67)).heap.size = w9.heap.size + 1 by simp] at hrd
              obtain ⟨k0, k1, k2, k3, k4, k5⟩ := (show (w9.alloc (.cells C 67)).cell? ⟨g, 0, none⟩ = some (Value.int .i64 ((n : Int) + 1)) ∧ (w9.alloc (.cells C 67)).cell? ⟨g, 1, none⟩ = some (Value.int .i64 at_) ∧ (w9.alloc (.cells C 67)).cell? ⟨g, 2, none⟩ = some (Value.string who) ∧ (w9.alloc (.cells C 67)).cell? ⟨g, 3, none⟩ = some (Value.string what) ∧ (w9.alloc (.cells C 67)).cell? ⟨g, 4, none⟩ = some (Value.string on) ∧ (w9.alloc (.cells C 67)).cell? ⟨g, 5, none⟩ = some (Value.int .u64 hv) from ⟨(hB.out.alloc (.cells C 67)).cell 0, (hB.out.alloc (.cells C 67)).cell 1, (hB.out.alloc (.cells C 67)).cell 2, (hB.out.alloc (.cells C 67)).cell 3, (hB.out.alloc (.cells C 67)).cell 4, (hB.out.alloc (.cells C 67)).cell 5⟩)
              go_wp2_with (at_builtin; refine wpList_append_any _ rfl (.tmp 73) (.tmp 75) _ rfl w9.heap.size 67 i0 _ 6 72 Try.underlying62 hi0.out hz0.out hz1.out hz2.out rfl (by omega) (.slice (some ⟨w9.heap.size, 0, none⟩) n (n + 1)) n (flat lnC L) rfl (hn.out ▸ hown2.out.2) (w9.heap.size + 1 + 1) (some ⟨w9.heap.size + 1, 0, none⟩) 1 1 (flat lnC [(⟨(n : Int) + 1, at_, who, what, on, hv⟩ : Ln)]) rfl hrd.out (ln_one _) (by simp only [maxLen]; omega) (by omega) (by simp; try omega) ?_
                           intro v' w10 hown1 hg1 hat1
                           obtain ⟨A', c', rfl, hcc, -, -, hL⟩ := (show LOwn lnC 6 67 w10 w9.heap.size v' (L ++ [⟨(n : Int) + 1, at_, who, what, on, hv⟩]) from ⟨lnC_len, by have := hown1; simpa [flat, hn.out] using this⟩).form
                           have hb := Lib.hid (hb.out.trans (((below_new (a1 w9 (.cells C 67)) (.cells #[Value.int .i64 ((n : Int) + 1), Value.int .i64 at_, Value.string who, Value.string what, Value.string on, Value.int .u64 hv] 67)).grown hg1 (by simp; omega) (fun k hk => by simp [Value.ownBlock] at hk; omega)).mono hb.out.size))
                           have hS : Hid (appR L ⟨at_, who, what, on⟩ = (L ++ [⟨(n : Int) + 1, at_, who, what, on, hv⟩], 0)) := by show _ = _; rw [hap.out, hlo.out]
                           replace hL := Lib.hid hL
                           clear hown1 hg1 hat1)
              go_ret2
              exact ⟨⟨A', _, c', by rw [hS.out]; rfl, by rw [hS.out]; simpa using hL.out, by simpa using hcc⟩, hb.out⟩
end Go.Proofs.Ytiggpgeldigknaa
