/- Ledger: awake. -/
import Derived.Test.YtiggpgeldigknaaLI
import Derived.Test.YtiggpgeldigknaaLJ
import Derived.Test.YtiggpgeldigknaaLF
import Derived.Test.YtiggpgeldigknaaLG
import Derived.Test.YtiggpgeldigknaaRM
set_option linter.unusedVariables false
set_option linter.unusedSimpArgs false
namespace Go.Proofs.Ytiggpgeldigknaa
open Go.RowKit
def F38a (ad : Addr) (c : Nat) : Tmp → Value → World → Prop
  | 1, v, _ => v = .slice (some ad) 1 c
  | 2, v, _ => v = .int .i64 0
  | 3, v, _ => v = .int .i64 1
  | 4, v, _ => v = .int .i64 0
  | 21, v, _ => v = .slice (some ad) 1 c
  | 22, v, _ => v = .int .i64 1
  | 23, v, _ => v = .bool false
  | 24, v, _ => v = .bool false
  | 25, v, _ => v = .slice (some ad) 1 c
  | 26, v, _ => v = .pointer (some ad)
  | 27, v, _ => v = .pointer (some ad)
  | 28, v, _ => v = .int .i64 1
  | 29, v, _ => v = .bool false
  | 30, v, _ => v = .bool false
  | 31, v, _ => v = .bool false
  | 32, v, _ => v = .slice (some ad) 1 c
  | 33, v, _ => v = .pointer (some ad)
  | 34, v, _ => v = .pointer (some ⟨ad.block, ad.off + 5, none⟩)
  | 35, v, _ => v = .int .u64 6809166935739889879
  | 36, v, _ => v = .slice (some ad) 1 c
  | 37, v, _ => v = .pointer (some ad)
  | 38, v, _ => v = .agg #[Value.int .i64 1, Value.int .i64 5, Value.string ⟨#[97, 110, 110]⟩, Value.string ⟨#[111, 114, 100, 101, 114, 45, 49, 54]⟩, Value.string ⟨#[83, 49]⟩, Value.int .u64 6809166935739889879]
  | 39, v, _ => v = .int .u64 6809166935739889879
  | 40, v, _ => v = .bool false
  | 41, v, _ => v = .bool false
  | 42, v, _ => v = .bool false
  | 43, v, _ => v = .int .i64 0
  | 44, v, _ => v = .bool false
  | 45, v, _ => v = .bool false
  | 46, v, _ => v = .bool false
  | 47, v, _ => v = .int .i64 1
  | 48, v, _ => v = .bool false
  | 49, v, _ => v = .bool false
  | 50, v, _ => v = .bool false
  | 51, v, _ => v = .int .i64 0
  | 52, v, _ => v = .bool false
  | 53, v, _ => v = .bool false
  | _, _, _ => True
theorem F38a_more {ad : Addr} {c : Nat} (d t : Tmp) (v : Value) (w w' : World) (hR : Rb w w') (hne : t ≠ d) (hc : ([] : List (Tmp × Tmp)).contains (d, t) = false) (h : F38a ad c t v w) : F38a ad c t v w' := by
  unfold F38a at *
  split at h <;> first | exact h
def F38b (ad : Addr) (c : Nat) (A2 : Option Addr) (c2 : Nat) : Tmp → Value → World → Prop
  | 0, v, _ => v = .bool true
  | 1, v, _ => v = .slice (some ad) 1 c
  | 7, v, _ => v = .int .i64 2
  | 9, v, _ => v = .int .i64 7
  | 10, v, _ => v = .slice A2 1 c2
  | 11, v, _ => v = .bool true
  | 76, v, _ => v = .int .i64 2
  | 77, v, _ => v = .bool true
  | 78, v, _ => v = .bool true
  | 79, v, _ => v = .int .i64 7
  | 80, v, _ => v = .bool true
  | 81, v, _ => v = .bool true
  | 82, v, _ => v = .bool true
  | 83, v, _ => v = .slice A2 1 c2
  | 84, v, _ => v = .int .i64 1
  | 85, v, _ => v = .bool true
  | 86, v, _ => v = .bool true
  | 87, v, _ => v = .bool true
  | 88, v, _ => v = .bool true
  | 89, v, _ => v = .bool true
  | 90, v, _ => v = .bool true
  | 91, v, _ => v = .slice (some ad) 1 c
  | 92, v, _ => v = .int .u64 6809166935739889879
  | 93, v, _ => v = .slice (some ad) 1 c
  | 94, v, _ => v = .pointer (some ad)
  | 95, v, _ => v = .pointer (some ⟨ad.block, ad.off + 5, none⟩)
  | 96, v, _ => v = .int .u64 6809166935739889879
  | 97, v, _ => v = .bool true
  | 98, v, _ => v = .bool true
  | _, _, _ => True
theorem F38b_more {ad : Addr} {c : Nat} {A2 : Option Addr} {c2 : Nat} (d t : Tmp) (v : Value) (w w' : World) (hR : Rb w w') (hne : t ≠ d) (hc : ([] : List (Tmp × Tmp)).contains (d, t) = false) (h : F38b ad c A2 c2 t v w) : F38b ad c A2 c2 t v w' := by
  unfold F38b at *
  split at h <;> first | exact h
def xZ : Ln := ⟨1, 5, ⟨#[97, 110, 110]⟩, ⟨#[111, 114, 100, 101, 114, 45, 49, 54]⟩, ⟨#[83, 49]⟩, 6809166935739889879⟩
def xY : Ln := ⟨1, 5, ⟨#[97, 110, 110]⟩, ⟨#[111, 114, 100, 101, 114, 45, 49, 54]⟩, ⟨#[83, 50]⟩, 6809166935739889879⟩
theorem aw1 : appR [] ⟨5, ⟨#[97, 110, 110]⟩, ⟨#[111, 114, 100, 101, 114, 45, 49, 54]⟩, ⟨#[83, 49]⟩⟩ = ([xZ], 0) := by kernel_rfl
theorem aw2 : verN [xZ] = 1 := by kernel_rfl
theorem aw3 : verE [xZ] = 0 := by kernel_rfl
theorem aw4 : hashL 0 xZ = 6809166935739889879 := by kernel_rfl
theorem aw5 : appR [xZ] ⟨4, ⟨#[97, 110, 110]⟩, ⟨#[120]⟩, ⟨#[]⟩⟩ = ([xZ], 2) := by kernel_rfl
theorem aw6 : verE [xY] = 7 := by kernel_rfl
theorem aw7 : sinceL [xZ] 0 = ([xZ], true) := rfl
theorem aw8 : headL [xZ] = 6809166935739889879 := rfl
theorem xZ_ok : LnOk xZ := ⟨by decide, by decide, by decide⟩
theorem xY_ok : LnOk xY := ⟨by decide, by decide, by decide⟩
theorem add_zero0 (ad : Addr) : ad.add (0 * 6) = ad := by unfold Addr.add; simp
set_option maxRecDepth 100000 in
set_option maxHeartbeats 8000000 in
theorem awakeL_any (w : World) : Calls Try.prog 38 #[] w fun e w' => e = .returned (.bool true) ∧ Below w.heap.size w w' := by
  have hA := append_any none 0 0 [] 5 ⟨#[97, 110, 110]⟩ ⟨#[111, 114, 100, 101, 114, 45, 49, 54]⟩ ⟨#[83, 49]⟩ w (LAt.nil lnC_len _ _) (by decide) (by decide) (by decide) (by decide)
  rw [aw1] at hA
  replace hA := Lib.hid hA
  go_enter Try.func38, Try.ntmps38
  go_wp2_with fail
  refine hA.out.mono ?_; rintro e w1 ⟨⟨A, n, c, rfl, hL, hnc⟩, hb⟩
  obtain rfl : 1 = n := hL.len
  obtain ⟨ad, hAd, -⟩ := ln_cells hL (show 0 < 1 by decide)
  subst hAd
  replace hL := Lib.hid hL
  replace hb := Lib.hid hb
  clear hA
  have hV := verify_log (some ad) 1 c [xZ] w1 hL.out (by intro x hx; rw [List.mem_singleton] at hx; subst hx; exact xZ_ok) (by decide)
  rw [aw2, aw3] at hV
  replace hV := Lib.hid hV
  go_wp2_with fail
  refine hV.out.mono ?_; rintro e w3 ⟨rfl, hq⟩
  have hb := Lib.hid (hb.out.trans (hq.mono hb.out.size))
  have hL := Lib.hid (hL.out.more hq)
  clear hq hV
  go_wp2_with fail
  have hcell : Hid (∀ wz, Below w3.heap.size w3 wz → wz.cell? ad = some (Value.int .i64 1) ∧ wz.cell? ⟨ad.block, ad.off + 1, none⟩ = some (Value.int .i64 5) ∧ wz.cell? ⟨ad.block, ad.off + 2, none⟩ = some (Value.string ⟨#[97, 110, 110]⟩) ∧ wz.cell? ⟨ad.block, ad.off + 3, none⟩ = some (Value.string ⟨#[111, 114, 100, 101, 114, 45, 49, 54]⟩) ∧ wz.cell? ⟨ad.block, ad.off + 4, none⟩ = some (Value.string ⟨#[83, 49]⟩) ∧ wz.cell? ⟨ad.block, ad.off + 5, none⟩ = some (Value.int .u64 6809166935739889879)) := fun wz h => by
    obtain ⟨ad', e, -, e0, e1, e2, e3, e4, e5⟩ := ln_cells (hL.out.more h) (show 0 < 1 by decide)
    injection e with e
    subst e
    rw [add_zero0] at e0 e1 e2 e3 e4 e5
    exact ⟨e0, e1, e2, e3, e4, e5⟩
  have hhash : Hid (∀ w, Calls Try.prog 49 #[.int .u64 0, .agg #[Value.int .i64 1, Value.int .i64 5, Value.string ⟨#[97, 110, 110]⟩, Value.string ⟨#[111, 114, 100, 101, 114, 45, 49, 54]⟩, Value.string ⟨#[83, 49]⟩, Value.int .u64 6809166935739889879]] w fun e w' => e = .returned (.int .u64 6809166935739889879) ∧ Below w.heap.size w w') := fun w => by
    have := rhash_any 0 xZ w xZ_ok
    rw [aw4] at this
    exact this
  refine RM.region [] [] (F := F38a ad c) (W := fun wz => Below w3.heap.size w3 wz) (R := fun _ => Rb) (S := noS) (G := noG) rfl F38a_more (fun _ _ _ _ _ _ _ => trivial) (fun _ _ _ _ _ h => h.elim) (fun _ _ _ _ _ h => h.elim) (by kernel_rfl) (by kernel_rfl) (by kernel_rfl) (by kernel_rfl) (by kernel_rfl) ?_ ?_ ?_ (by kernel_rfl) ?_
  · exact (Below.refl _ _).drew
  · intro t ht
    unfold F38a
    split <;> first | trivial | exact rfl | (exact absurd ht (by decide))
  · simp only [List.forall_mem_cons, List.not_mem_nil, false_implies, implies_true, and_true]
    refine ⟨?_, ?_, ?_, ?_, ?_, ?_, ?_, ?_, ?_, ?_, ?_, ?_, ?_, ?_, ?_, ?_, ?_, ?_, ?_, ?_, ?_, ?_, ?_, ?_, ?_, ?_, ?_, ?_, ?_, ?_, ?_, ?_, ?_⟩
    · intro a w2 hw _ hf K hK
      have f0 := hf 1 rfl
      simp only [F38a] at f0
      clear hf
      go_simp
      exact hK _ _ _ rfl rfl hw (Below.refl _ _) (fun h => absurd h (by decide))
    · intro a w2 hw _ hf K hK
      have f0 := hf 21 rfl
      simp only [F38a] at f0
      clear hf
      go_simp
      exact hK _ _ _ rfl rfl hw (Below.refl _ _) (fun h => absurd h (by decide))
    · intro a w2 hw _ hf K hK
      have f0 := hf 22 rfl
      simp only [F38a] at f0
      clear hf
      go_simp
      exact hK _ _ _ rfl rfl hw (Below.refl _ _) (fun h => absurd h (by decide))
    · intro a w2 hw _ hf K hK
      have f0 := hf 23 rfl
      simp only [F38a] at f0
      clear hf
      go_simp
      exact hK _ _ _ rfl rfl hw (Below.refl _ _) (fun h => absurd h (by decide))
    · refine ⟨?_, ?_⟩
      · intro a w2 hw hg hf K hK
        have f0 := hf 1 rfl
        simp only [F38a] at f0
        clear hf
        go_simp
        exact hK _ _ _ rfl rfl hw (Below.refl _ _) (fun h => absurd h (by decide))
      · exact fun v w _ hv hne => absurd hv hne
    · refine ⟨?_, ?_⟩
      · intro a w2 hw hg hf K hK
        have f0 := hf 25 rfl
        simp only [F38a] at f0
        clear hf
        go_simp
        exact hK _ _ _ rfl rfl hw (Below.refl _ _) (fun h => absurd h (by decide))
      · exact fun v w _ hv hne => absurd hv hne
    · refine ⟨?_, ?_⟩
      · intro a w2 hw hg hf K hK
        have f0 := hf 26 rfl
        simp only [F38a] at f0
        clear hf
        go_simp
        exact hK _ _ _ rfl rfl hw (Below.refl _ _) (fun h => absurd h (by decide))
      · exact fun v w _ hv hne => absurd hv hne
    · refine ⟨?_, ?_⟩
      · intro a w2 hw hg hf K hK
        have f0 := hf 27 rfl
        simp only [F38a] at f0
        clear hf
        obtain ⟨k0, k1, k2, k3, k4, k5⟩ := hcell.out w2 hw
        go_simp
        exact hK _ _ _ rfl rfl hw (Below.refl _ _) (fun h => absurd h (by decide))
      · exact fun v w _ hv hne => absurd hv hne
    · refine ⟨?_, ?_⟩
      · intro a w2 hw hg hf K hK
        have f0 := hf 28 rfl
        simp only [F38a] at f0
        clear hf
        go_simp
        exact hK _ _ _ rfl rfl hw (Below.refl _ _) (fun h => absurd h (by decide))
      · exact fun v w _ hv hne => absurd hv hne
    · intro a w2 hw _ hf K hK
      have f0 := hf 24 rfl
      have f1 := hf 29 rfl
      simp only [F38a] at f0 f1
      clear hf
      go_simp
      exact hK _ _ _ rfl rfl hw (Below.refl _ _) (fun h => absurd h (by decide))
    · intro a w2 hw _ hf K hK
      have f0 := hf 30 rfl
      simp only [F38a] at f0
      clear hf
      go_simp
      exact hK _ _ _ rfl rfl hw (Below.refl _ _) (fun h => absurd h (by decide))
    · refine ⟨?_, ?_⟩
      · intro a w2 hw hg hf K hK
        have f0 := hf 1 rfl
        simp only [F38a] at f0
        clear hf
        go_simp
        exact hK _ _ _ rfl rfl hw (Below.refl _ _) (fun h => absurd h (by decide))
      · exact fun v w _ hv hne => absurd hv hne
    · refine ⟨?_, ?_⟩
      · intro a w2 hw hg hf K hK
        have f0 := hf 32 rfl
        simp only [F38a] at f0
        clear hf
        go_simp
        exact hK _ _ _ rfl rfl hw (Below.refl _ _) (fun h => absurd h (by decide))
      · exact fun v w _ hv hne => absurd hv hne
    · refine ⟨?_, ?_⟩
      · intro a w2 hw hg hf K hK
        have f0 := hf 33 rfl
        simp only [F38a] at f0
        clear hf
        go_simp
        exact hK _ _ _ rfl rfl hw (Below.refl _ _) (fun h => absurd h (by decide))
      · exact fun v w _ hv hne => absurd hv hne
    · refine ⟨?_, ?_⟩
      · intro a w2 hw hg hf K hK
        have f0 := hf 34 rfl
        simp only [F38a] at f0
        clear hf
        obtain ⟨k0, k1, k2, k3, k4, k5⟩ := hcell.out w2 hw
        go_simp
        exact hK _ _ _ rfl rfl hw (Below.refl _ _) (fun h => absurd h (by decide))
      · exact fun v w _ hv hne => absurd hv hne
    · refine ⟨?_, ?_⟩
      · intro a w2 hw hg hf K hK
        have f0 := hf 1 rfl
        simp only [F38a] at f0
        clear hf
        go_simp
        exact hK _ _ _ rfl rfl hw (Below.refl _ _) (fun h => absurd h (by decide))
      · exact fun v w _ hv hne => absurd hv hne
    · refine ⟨?_, ?_⟩
      · intro a w2 hw hg hf K hK
        have f0 := hf 36 rfl
        simp only [F38a] at f0
        clear hf
        go_simp
        exact hK _ _ _ rfl rfl hw (Below.refl _ _) (fun h => absurd h (by decide))
      · exact fun v w _ hv hne => absurd hv hne
    · refine ⟨?_, ?_⟩
      · intro a w2 hw hg hf K hK
        have f0 := hf 37 rfl
        simp only [F38a] at f0
        clear hf
        obtain ⟨k0, k1, k2, k3, k4, k5⟩ := hcell.out w2 hw
        go_simp
        exact hK _ _ _ rfl rfl hw (Below.refl _ _) (fun h => absurd h (by decide))
      · exact fun v w _ hv hne => absurd hv hne
    · refine ⟨?_, ?_⟩
      · intro a w2 hw hg hf K hK
        have f0 := hf 38 rfl
        simp only [F38a] at f0
        clear hf
        go_simp
        refine (hhash.out w2).mono ?_; rintro e w5 ⟨rfl, hb⟩
        exact hK _ _ _ rfl rfl (hw.trans (hb.mono hw.size)) hb (fun h => absurd h (by decide))
      · exact fun v w _ hv hne => absurd hv hne
    · refine ⟨?_, ?_⟩
      · intro a w2 hw hg hf K hK
        have f0 := hf 35 rfl
        have f1 := hf 39 rfl
        simp only [F38a] at f0 f1
        clear hf
        go_simp
        exact hK _ _ _ rfl rfl hw (Below.refl _ _) (fun h => absurd h (by decide))
      · exact fun v w _ hv hne => absurd hv hne
    · intro a w2 hw _ hf K hK
      have f0 := hf 31 rfl
      have f1 := hf 40 rfl
      simp only [F38a] at f0 f1
      clear hf
      go_simp
      exact hK _ _ _ rfl rfl hw (Below.refl _ _) (fun h => absurd h (by decide))
    · intro a w2 hw _ hf K hK
      have f0 := hf 41 rfl
      simp only [F38a] at f0
      clear hf
      go_simp
      exact hK _ _ _ rfl rfl hw (Below.refl _ _) (fun h => absurd h (by decide))
    · refine ⟨?_, ?_⟩
      · intro a w2 hw hg hf K hK
        have f0 := hf 2 rfl
        simp only [F38a] at f0
        clear hf
        go_simp
        exact hK _ _ _ rfl rfl hw (Below.refl _ _) (fun h => absurd h (by decide))
      · exact fun v w _ hv hne => absurd hv hne
    · refine ⟨?_, ?_⟩
      · intro a w2 hw hg hf K hK
        have f0 := hf 43 rfl
        simp only [F38a] at f0
        clear hf
        go_simp
        exact hK _ _ _ rfl rfl hw (Below.refl _ _) (fun h => absurd h (by decide))
      · exact fun v w _ hv hne => absurd hv hne
    · intro a w2 hw _ hf K hK
      have f0 := hf 42 rfl
      have f1 := hf 44 rfl
      simp only [F38a] at f0 f1
      clear hf
      go_simp
      exact hK _ _ _ rfl rfl hw (Below.refl _ _) (fun h => absurd h (by decide))
    · intro a w2 hw _ hf K hK
      have f0 := hf 45 rfl
      simp only [F38a] at f0
      clear hf
      go_simp
      exact hK _ _ _ rfl rfl hw (Below.refl _ _) (fun h => absurd h (by decide))
    · refine ⟨?_, ?_⟩
      · intro a w2 hw hg hf K hK
        have f0 := hf 3 rfl
        simp only [F38a] at f0
        clear hf
        go_simp
        exact hK _ _ _ rfl rfl hw (Below.refl _ _) (fun h => absurd h (by decide))
      · exact fun v w _ hv hne => absurd hv hne
    · refine ⟨?_, ?_⟩
      · intro a w2 hw hg hf K hK
        have f0 := hf 47 rfl
        simp only [F38a] at f0
        clear hf
        go_simp
        exact hK _ _ _ rfl rfl hw (Below.refl _ _) (fun h => absurd h (by decide))
      · exact fun v w _ hv hne => absurd hv hne
    · intro a w2 hw _ hf K hK
      have f0 := hf 46 rfl
      have f1 := hf 48 rfl
      simp only [F38a] at f0 f1
      clear hf
      go_simp
      exact hK _ _ _ rfl rfl hw (Below.refl _ _) (fun h => absurd h (by decide))
    · intro a w2 hw _ hf K hK
      have f0 := hf 49 rfl
      simp only [F38a] at f0
      clear hf
      go_simp
      exact hK _ _ _ rfl rfl hw (Below.refl _ _) (fun h => absurd h (by decide))
    · refine ⟨?_, ?_⟩
      · intro a w2 hw hg hf K hK
        have f0 := hf 4 rfl
        simp only [F38a] at f0
        clear hf
        go_simp
        exact hK _ _ _ rfl rfl hw (Below.refl _ _) (fun h => absurd h (by decide))
      · exact fun v w _ hv hne => absurd hv hne
    · refine ⟨?_, ?_⟩
      · intro a w2 hw hg hf K hK
        have f0 := hf 51 rfl
        simp only [F38a] at f0
        clear hf
        go_simp
        exact hK _ _ _ rfl rfl hw (Below.refl _ _) (fun h => absurd h (by decide))
      · exact fun v w _ hv hne => absurd hv hne
    · intro a w2 hw _ hf K hK
      have f0 := hf 50 rfl
      have f1 := hf 52 rfl
      simp only [F38a] at f0 f1
      clear hf
      go_simp
      exact hK _ _ _ rfl rfl hw (Below.refl _ _) (fun h => absurd h (by decide))
  · intro a' w9 hd hs hw hout hf _
    have h53 := hf 53 rfl
    simp only [F38a] at h53
    have e1 : _ = some (Value.slice (some ad) 1 c) := hout 1 rfl
    obtain ⟨tm, df⟩ := a'
    simp only at hd hs h53 e1
    have e := lit_arr tm 99 hs
    rw [show (List.range 99).map (fun i => tm[i]?.getD undef) = [tm[0]?.getD undef, tm[1]?.getD undef, tm[2]?.getD undef, tm[3]?.getD undef, tm[4]?.getD undef, tm[5]?.getD undef, tm[6]?.getD undef, tm[7]?.getD undef, tm[8]?.getD undef, tm[9]?.getD undef, tm[10]?.getD undef, tm[11]?.getD undef, tm[12]?.getD undef, tm[13]?.getD undef, tm[14]?.getD undef, tm[15]?.getD undef, tm[16]?.getD undef, tm[17]?.getD undef, tm[18]?.getD undef, tm[19]?.getD undef, tm[20]?.getD undef, tm[21]?.getD undef, tm[22]?.getD undef, tm[23]?.getD undef, tm[24]?.getD undef, tm[25]?.getD undef, tm[26]?.getD undef, tm[27]?.getD undef, tm[28]?.getD undef, tm[29]?.getD undef, tm[30]?.getD undef, tm[31]?.getD undef, tm[32]?.getD undef, tm[33]?.getD undef, tm[34]?.getD undef, tm[35]?.getD undef, tm[36]?.getD undef, tm[37]?.getD undef, tm[38]?.getD undef, tm[39]?.getD undef, tm[40]?.getD undef, tm[41]?.getD undef, tm[42]?.getD undef, tm[43]?.getD undef, tm[44]?.getD undef, tm[45]?.getD undef, tm[46]?.getD undef, tm[47]?.getD undef, tm[48]?.getD undef, tm[49]?.getD undef, tm[50]?.getD undef, tm[51]?.getD undef, tm[52]?.getD undef, tm[53]?.getD undef, tm[54]?.getD undef, tm[55]?.getD undef, tm[56]?.getD undef, tm[57]?.getD undef, tm[58]?.getD undef, tm[59]?.getD undef, tm[60]?.getD undef, tm[61]?.getD undef, tm[62]?.getD undef, tm[63]?.getD undef, tm[64]?.getD undef, tm[65]?.getD undef, tm[66]?.getD undef, tm[67]?.getD undef, tm[68]?.getD undef, tm[69]?.getD undef, tm[70]?.getD undef, tm[71]?.getD undef, tm[72]?.getD undef, tm[73]?.getD undef, tm[74]?.getD undef, tm[75]?.getD undef, tm[76]?.getD undef, tm[77]?.getD undef, tm[78]?.getD undef, tm[79]?.getD undef, tm[80]?.getD undef, tm[81]?.getD undef, tm[82]?.getD undef, tm[83]?.getD undef, tm[84]?.getD undef, tm[85]?.getD undef, tm[86]?.getD undef, tm[87]?.getD undef, tm[88]?.getD undef, tm[89]?.getD undef, tm[90]?.getD undef, tm[91]?.getD undef, tm[92]?.getD undef, tm[93]?.getD undef, tm[94]?.getD undef, tm[95]?.getD undef, tm[96]?.getD undef, tm[97]?.getD undef, tm[98]?.getD undef] from rfl] at e
    simp only [h53, e1, Option.getD_some] at e
    clear hf hout hs
    rw [e, hd]
    clear e hd h53 e1
    generalize tm[0]?.getD undef = u0x
    generalize tm[2]?.getD undef = u2x
    generalize tm[3]?.getD undef = u3x
    generalize tm[4]?.getD undef = u4x
    generalize tm[5]?.getD undef = u5x
    generalize tm[6]?.getD undef = u6x
    generalize tm[7]?.getD undef = u7x
    generalize tm[8]?.getD undef = u8x
    generalize tm[9]?.getD undef = u9x
    generalize tm[10]?.getD undef = u10x
    generalize tm[11]?.getD undef = u11x
    generalize tm[12]?.getD undef = u12x
    generalize tm[13]?.getD undef = u13x
    generalize tm[14]?.getD undef = u14x
    generalize tm[15]?.getD undef = u15x
    generalize tm[16]?.getD undef = u16x
    generalize tm[17]?.getD undef = u17x
    generalize tm[18]?.getD undef = u18x
    generalize tm[19]?.getD undef = u19x
    generalize tm[20]?.getD undef = u20x
    generalize tm[21]?.getD undef = u21x
    generalize tm[22]?.getD undef = u22x
    generalize tm[23]?.getD undef = u23x
    generalize tm[24]?.getD undef = u24x
    generalize tm[25]?.getD undef = u25x
    generalize tm[26]?.getD undef = u26x
    generalize tm[27]?.getD undef = u27x
    generalize tm[28]?.getD undef = u28x
    generalize tm[29]?.getD undef = u29x
    generalize tm[30]?.getD undef = u30x
    generalize tm[31]?.getD undef = u31x
    generalize tm[32]?.getD undef = u32x
    generalize tm[33]?.getD undef = u33x
    generalize tm[34]?.getD undef = u34x
    generalize tm[35]?.getD undef = u35x
    generalize tm[36]?.getD undef = u36x
    generalize tm[37]?.getD undef = u37x
    generalize tm[38]?.getD undef = u38x
    generalize tm[39]?.getD undef = u39x
    generalize tm[40]?.getD undef = u40x
    generalize tm[41]?.getD undef = u41x
    generalize tm[42]?.getD undef = u42x
    generalize tm[43]?.getD undef = u43x
    generalize tm[44]?.getD undef = u44x
    generalize tm[45]?.getD undef = u45x
    generalize tm[46]?.getD undef = u46x
    generalize tm[47]?.getD undef = u47x
    generalize tm[48]?.getD undef = u48x
    generalize tm[49]?.getD undef = u49x
    generalize tm[50]?.getD undef = u50x
    generalize tm[51]?.getD undef = u51x
    generalize tm[52]?.getD undef = u52x
    generalize tm[54]?.getD undef = u54x
    generalize tm[55]?.getD undef = u55x
    generalize tm[56]?.getD undef = u56x
    generalize tm[57]?.getD undef = u57x
    generalize tm[58]?.getD undef = u58x
    generalize tm[59]?.getD undef = u59x
    generalize tm[60]?.getD undef = u60x
    generalize tm[61]?.getD undef = u61x
    generalize tm[62]?.getD undef = u62x
    generalize tm[63]?.getD undef = u63x
    generalize tm[64]?.getD undef = u64x
    generalize tm[65]?.getD undef = u65x
    generalize tm[66]?.getD undef = u66x
    generalize tm[67]?.getD undef = u67x
    generalize tm[68]?.getD undef = u68x
    generalize tm[69]?.getD undef = u69x
    generalize tm[70]?.getD undef = u70x
    generalize tm[71]?.getD undef = u71x
    generalize tm[72]?.getD undef = u72x
    generalize tm[73]?.getD undef = u73x
    generalize tm[74]?.getD undef = u74x
    generalize tm[75]?.getD undef = u75x
    generalize tm[76]?.getD undef = u76x
    generalize tm[77]?.getD undef = u77x
    generalize tm[78]?.getD undef = u78x
    generalize tm[79]?.getD undef = u79x
    generalize tm[80]?.getD undef = u80x
    generalize tm[81]?.getD undef = u81x
    generalize tm[82]?.getD undef = u82x
    generalize tm[83]?.getD undef = u83x
    generalize tm[84]?.getD undef = u84x
    generalize tm[85]?.getD undef = u85x
    generalize tm[86]?.getD undef = u86x
    generalize tm[87]?.getD undef = u87x
    generalize tm[88]?.getD undef = u88x
    generalize tm[89]?.getD undef = u89x
    generalize tm[90]?.getD undef = u90x
    generalize tm[91]?.getD undef = u91x
    generalize tm[92]?.getD undef = u92x
    generalize tm[93]?.getD undef = u93x
    generalize tm[94]?.getD undef = u94x
    generalize tm[95]?.getD undef = u95x
    generalize tm[96]?.getD undef = u96x
    generalize tm[97]?.getD undef = u97x
    generalize tm[98]?.getD undef = u98x
    have hb := Lib.hid (hb.out.trans (hw.mono hb.out.size))
    have hL := Lib.hid (hL.out.more hw)
    clear hw hcell hhash
    have hcell : Hid (w9.cell? ad = some (Value.int .i64 1) ∧ w9.cell? ⟨ad.block, ad.off + 1, none⟩ = some (Value.int .i64 5) ∧ w9.cell? ⟨ad.block, ad.off + 2, none⟩ = some (Value.string ⟨#[97, 110, 110]⟩) ∧ w9.cell? ⟨ad.block, ad.off + 3, none⟩ = some (Value.string ⟨#[111, 114, 100, 101, 114, 45, 49, 54]⟩) ∧ w9.cell? ⟨ad.block, ad.off + 4, none⟩ = some (Value.string ⟨#[83, 49]⟩) ∧ w9.cell? ⟨ad.block, ad.off + 5, none⟩ = some (Value.int .u64 6809166935739889879)) := by
      obtain ⟨ad', e, -, e0, e1, e2, e3, e4, e5⟩ := ln_cells hL.out (show 0 < 1 by decide)
      injection e with e
      subst e
      rw [add_zero0] at e0 e1 e2 e3 e4 e5
      exact ⟨e0, e1, e2, e3, e4, e5⟩
    obtain ⟨e0, e1, e2, e3, e4, e5⟩ := hcell.out
    have pm := Lib.hid (Blk.new w9 67 #[Value.int .i64 1, Value.int .i64 5, Value.string ⟨#[97, 110, 110]⟩, Value.string ⟨#[111, 114, 100, 101, 114, 45, 49, 54]⟩, Value.string ⟨#[83, 49]⟩, Value.int .u64 6809166935739889879])
    have hz4 : (w9.alloc (.cells #[Value.int .i64 1, Value.int .i64 5, Value.string ⟨#[97, 110, 110]⟩, Value.string ⟨#[111, 114, 100, 101, 114, 45, 49, 54]⟩, Value.string ⟨#[83, 49]⟩, Value.int .u64 6809166935739889879] 67)).frozen? ⟨w9.heap.size, 4, none⟩ = false := pm.out.frozen 4
    have hc4 : (w9.alloc (.cells #[Value.int .i64 1, Value.int .i64 5, Value.string ⟨#[97, 110, 110]⟩, Value.string ⟨#[111, 114, 100, 101, 114, 45, 49, 54]⟩, Value.string ⟨#[83, 49]⟩, Value.int .u64 6809166935739889879] 67)).cell? ⟨w9.heap.size, 4, none⟩ = some (Value.string ⟨#[83, 49]⟩) := pm.out.cell 4
    clear hcell
    go_wp2_with fail
    clear e0 e1 e2 e3 e4 e5 hz4 hc4
    have pm2 := Blk.new w9 67 #[Value.int .i64 1, Value.int .i64 5, Value.string ⟨#[97, 110, 110]⟩, Value.string ⟨#[111, 114, 100, 101, 114, 45, 49, 54]⟩, Value.string ⟨#[83, 50]⟩, Value.int .u64 6809166935739889879]
    have hm : LAt lnC 6 (w9.alloc (.cells #[Value.int .i64 1, Value.int .i64 5, Value.string ⟨#[97, 110, 110]⟩, Value.string ⟨#[111, 114, 100, 101, 114, 45, 49, 54]⟩, Value.string ⟨#[83, 50]⟩, Value.int .u64 6809166935739889879] 67)) (w9.alloc (.cells #[Value.int .i64 1, Value.int .i64 5, Value.string ⟨#[97, 110, 110]⟩, Value.string ⟨#[111, 114, 100, 101, 114, 45, 49, 54]⟩, Value.string ⟨#[83, 50]⟩, Value.int .u64 6809166935739889879] 67)).heap.size (some ⟨w9.heap.size, 0, none⟩) 1 [xY] := lat_blk lnC_len pm2 [xY] 1 rfl (by simp [flat, lnC, xY])
    have hbs : Below w9.heap.size w9 (w9.alloc (.cells #[Value.int .i64 1, Value.int .i64 5, Value.string ⟨#[97, 110, 110]⟩, Value.string ⟨#[111, 114, 100, 101, 114, 45, 49, 54]⟩, Value.string ⟨#[83, 50]⟩, Value.int .u64 6809166935739889879] 67)) := a1 w9 _
    replace hm := Lib.hid hm
    have hL := Lib.hid (hL.out.more hbs)
    have hb := Lib.hid (hb.out.trans (hbs.mono hb.out.size))
    clear hbs pm pm2
    generalize w9.alloc (.cells #[Value.int .i64 1, Value.int .i64 5, Value.string ⟨#[97, 110, 110]⟩, Value.string ⟨#[111, 114, 100, 101, 114, 45, 49, 54]⟩, Value.string ⟨#[83, 50]⟩, Value.int .u64 6809166935739889879] 67) = wb at *
    have hA := append_any (some ad) 1 c [xZ] 4 ⟨#[97, 110, 110]⟩ ⟨#[120]⟩ ⟨#[]⟩ wb hL.out (by decide) hnc (by decide) (by decide)
    rw [aw5] at hA
    refine hA.mono ?_; rintro e wd ⟨⟨A3, n3, c3, rfl, -, -⟩, hq⟩
    have hb := Lib.hid (hb.out.trans (hq.mono hb.out.size))
    have hL := Lib.hid (hL.out.more hq)
    have hm := Lib.hid (hm.out.more hq)
    clear hq hA
    go_wp2_with fail
    have hV := verify_log (some ⟨w9.heap.size, 0, none⟩) 1 1 [xY] wd hm.out (by intro x hx; rw [List.mem_singleton] at hx; subst hx; exact xY_ok) (by decide)
    rw [aw6] at hV
    refine hV.mono ?_; rintro e wg ⟨rfl, hq⟩
    have hb := Lib.hid (hb.out.trans (hq.mono hb.out.size))
    have hL := Lib.hid (hL.out.more hq)
    clear hq hV hm
    go_wp2_with fail
    have hS := since_any (some ad) 1 c [xZ] 0 wg hL.out (by decide)
    rw [aw7] at hS
    refine hS.mono ?_; rintro e wi ⟨⟨A2, n2, c2, rfl, hL2, -⟩, hq⟩
    obtain rfl : 1 = n2 := hL2.len
    have hb := Lib.hid (hb.out.trans (hq.mono hb.out.size))
    have hL := Lib.hid (hL.out.more hq)
    clear hq hS hL2
    go_wp2_with fail
    have hcell : Hid (∀ wz, Below wi.heap.size wi wz → wz.cell? ad = some (Value.int .i64 1) ∧ wz.cell? ⟨ad.block, ad.off + 1, none⟩ = some (Value.int .i64 5) ∧ wz.cell? ⟨ad.block, ad.off + 2, none⟩ = some (Value.string ⟨#[97, 110, 110]⟩) ∧ wz.cell? ⟨ad.block, ad.off + 3, none⟩ = some (Value.string ⟨#[111, 114, 100, 101, 114, 45, 49, 54]⟩) ∧ wz.cell? ⟨ad.block, ad.off + 4, none⟩ = some (Value.string ⟨#[83, 49]⟩) ∧ wz.cell? ⟨ad.block, ad.off + 5, none⟩ = some (Value.int .u64 6809166935739889879)) := fun wz h => by
      obtain ⟨ad', e, -, e0, e1, e2, e3, e4, e5⟩ := ln_cells (hL.out.more h) (show 0 < 1 by decide)
      injection e with e
      subst e
      rw [add_zero0] at e0 e1 e2 e3 e4 e5
      exact ⟨e0, e1, e2, e3, e4, e5⟩
    have hhead : Hid (∀ w2, Below wi.heap.size wi w2 → Calls Try.prog 42 #[.slice (some ad) 1 c] w2 fun e w' => e = .returned (.int .u64 6809166935739889879) ∧ w' = w2) := fun w2 h => by
      have := head_any (some ad) 1 c [xZ] w2 (hL.out.more h) (by decide)
      rw [aw8] at this
      exact this
    refine RM.region [] [] (F := F38b ad c A2 c2) (W := fun wz => Below wi.heap.size wi wz) (R := fun _ => Rb) (S := noS) (G := noG) rfl F38b_more (fun _ _ _ _ _ _ _ => trivial) (fun _ _ _ _ _ h => h.elim) (fun _ _ _ _ _ h => h.elim) (by kernel_rfl) (by kernel_rfl) (by kernel_rfl) (by kernel_rfl) (by kernel_rfl) ?_ ?_ ?_ (by kernel_rfl) ?_
    · exact (Below.refl _ _).drew
    · intro t ht
      unfold F38b
      split <;> first | trivial | exact rfl | (exact absurd ht (by decide))
    · simp only [List.forall_mem_cons, List.not_mem_nil, false_implies, implies_true, and_true]
      refine ⟨?_, ?_, ?_, ?_, ?_, ?_, ?_, ?_, ?_, ?_, ?_, ?_, ?_, ?_, ?_, ?_, ?_, ?_, ?_, ?_, ?_, ?_, ?_, ?_⟩
      · intro a w2 hw _ hf K hK
        have f0 := hf 7 rfl
        simp only [F38b] at f0
        clear hf
        go_simp
        exact hK _ _ _ rfl rfl hw (Below.refl _ _) (fun h => absurd h (by decide))
      · intro a w2 hw _ hf K hK
        have f0 := hf 76 rfl
        simp only [F38b] at f0
        clear hf
        go_simp
        exact hK _ _ _ rfl rfl hw (Below.refl _ _) (fun h => absurd h (by decide))
      · intro a w2 hw _ hf K hK
        have f0 := hf 77 rfl
        simp only [F38b] at f0
        clear hf
        go_simp
        exact hK _ _ _ rfl rfl hw (Below.refl _ _) (fun h => absurd h (by decide))
      · refine ⟨?_, ?_⟩
        · intro a w2 hw hg hf K hK
          have f0 := hf 9 rfl
          simp only [F38b] at f0
          clear hf
          go_simp
          exact hK _ _ _ rfl rfl hw (Below.refl _ _) (fun h => absurd h (by decide))
        · exact fun v w _ hv hne => absurd hv hne
      · refine ⟨?_, ?_⟩
        · intro a w2 hw hg hf K hK
          have f0 := hf 79 rfl
          simp only [F38b] at f0
          clear hf
          go_simp
          exact hK _ _ _ rfl rfl hw (Below.refl _ _) (fun h => absurd h (by decide))
        · exact fun v w _ hv hne => absurd hv hne
      · intro a w2 hw _ hf K hK
        have f0 := hf 78 rfl
        have f1 := hf 80 rfl
        simp only [F38b] at f0 f1
        clear hf
        go_simp
        exact hK _ _ _ rfl rfl hw (Below.refl _ _) (fun h => absurd h (by decide))
      · intro a w2 hw _ hf K hK
        have f0 := hf 81 rfl
        simp only [F38b] at f0
        clear hf
        go_simp
        exact hK _ _ _ rfl rfl hw (Below.refl _ _) (fun h => absurd h (by decide))
      · refine ⟨?_, ?_⟩
        · intro a w2 hw hg hf K hK
          have f0 := hf 10 rfl
          simp only [F38b] at f0
          clear hf
          go_simp
          exact hK _ _ _ rfl rfl hw (Below.refl _ _) (fun h => absurd h (by decide))
        · exact fun v w _ hv hne => absurd hv hne
      · refine ⟨?_, ?_⟩
        · intro a w2 hw hg hf K hK
          have f0 := hf 83 rfl
          simp only [F38b] at f0
          clear hf
          go_simp
          exact hK _ _ _ rfl rfl hw (Below.refl _ _) (fun h => absurd h (by decide))
        · exact fun v w _ hv hne => absurd hv hne
      · refine ⟨?_, ?_⟩
        · intro a w2 hw hg hf K hK
          have f0 := hf 84 rfl
          simp only [F38b] at f0
          clear hf
          go_simp
          exact hK _ _ _ rfl rfl hw (Below.refl _ _) (fun h => absurd h (by decide))
        · exact fun v w _ hv hne => absurd hv hne
      · intro a w2 hw _ hf K hK
        have f0 := hf 82 rfl
        have f1 := hf 85 rfl
        simp only [F38b] at f0 f1
        clear hf
        go_simp
        exact hK _ _ _ rfl rfl hw (Below.refl _ _) (fun h => absurd h (by decide))
      · intro a w2 hw _ hf K hK
        have f0 := hf 86 rfl
        simp only [F38b] at f0
        clear hf
        go_simp
        exact hK _ _ _ rfl rfl hw (Below.refl _ _) (fun h => absurd h (by decide))
      · refine ⟨?_, ?_⟩
        · intro a w2 hw hg hf K hK
          have f0 := hf 11 rfl
          simp only [F38b] at f0
          clear hf
          go_simp
          exact hK _ _ _ rfl rfl hw (Below.refl _ _) (fun h => absurd h (by decide))
        · exact fun v w _ hv hne => absurd hv hne
      · intro a w2 hw _ hf K hK
        have f0 := hf 87 rfl
        have f1 := hf 88 rfl
        simp only [F38b] at f0 f1
        clear hf
        go_simp
        exact hK _ _ _ rfl rfl hw (Below.refl _ _) (fun h => absurd h (by decide))
      · intro a w2 hw _ hf K hK
        have f0 := hf 89 rfl
        simp only [F38b] at f0
        clear hf
        go_simp
        exact hK _ _ _ rfl rfl hw (Below.refl _ _) (fun h => absurd h (by decide))
      · refine ⟨?_, ?_⟩
        · intro a w2 hw hg hf K hK
          have f0 := hf 1 rfl
          simp only [F38b] at f0
          clear hf
          go_simp
          exact hK _ _ _ rfl rfl hw (Below.refl _ _) (fun h => absurd h (by decide))
        · exact fun v w _ hv hne => absurd hv hne
      · refine ⟨?_, ?_⟩
        · intro a w2 hw hg hf K hK
          have f0 := hf 91 rfl
          simp only [F38b] at f0
          clear hf
          go_simp
          refine (hhead.out w2 hw).mono ?_; rintro e w5 ⟨rfl, rfl⟩
          exact hK _ _ _ rfl rfl hw (Below.refl _ _) (fun h => absurd h (by decide))
        · exact fun v w _ hv hne => absurd hv hne
      · refine ⟨?_, ?_⟩
        · intro a w2 hw hg hf K hK
          have f0 := hf 1 rfl
          simp only [F38b] at f0
          clear hf
          go_simp
          exact hK _ _ _ rfl rfl hw (Below.refl _ _) (fun h => absurd h (by decide))
        · exact fun v w _ hv hne => absurd hv hne
      · refine ⟨?_, ?_⟩
        · intro a w2 hw hg hf K hK
          have f0 := hf 93 rfl
          simp only [F38b] at f0
          clear hf
          go_simp
          exact hK _ _ _ rfl rfl hw (Below.refl _ _) (fun h => absurd h (by decide))
        · exact fun v w _ hv hne => absurd hv hne
      · refine ⟨?_, ?_⟩
        · intro a w2 hw hg hf K hK
          have f0 := hf 94 rfl
          simp only [F38b] at f0
          clear hf
          go_simp
          exact hK _ _ _ rfl rfl hw (Below.refl _ _) (fun h => absurd h (by decide))
        · exact fun v w _ hv hne => absurd hv hne
      · refine ⟨?_, ?_⟩
        · intro a w2 hw hg hf K hK
          have f0 := hf 95 rfl
          simp only [F38b] at f0
          clear hf
          obtain ⟨k0, k1, k2, k3, k4, k5⟩ := hcell.out w2 hw
          go_simp
          exact hK _ _ _ rfl rfl hw (Below.refl _ _) (fun h => absurd h (by decide))
        · exact fun v w _ hv hne => absurd hv hne
      · refine ⟨?_, ?_⟩
        · intro a w2 hw hg hf K hK
          have f0 := hf 92 rfl
          have f1 := hf 96 rfl
          simp only [F38b] at f0 f1
          clear hf
          go_simp
          exact hK _ _ _ rfl rfl hw (Below.refl _ _) (fun h => absurd h (by decide))
        · exact fun v w _ hv hne => absurd hv hne
      · intro a w2 hw _ hf K hK
        have f0 := hf 90 rfl
        have f1 := hf 97 rfl
        simp only [F38b] at f0 f1
        clear hf
        go_simp
        exact hK _ _ _ rfl rfl hw (Below.refl _ _) (fun h => absurd h (by decide))
      · intro a w2 hw _ hf K hK
        have f0 := hf 98 rfl
        simp only [F38b] at f0
        clear hf
        go_simp
        exact hK _ _ _ rfl rfl hw (Below.refl _ _) (fun h => absurd h (by decide))
    · intro a' w9 hd hs hw hout hf _
      have h0 := hf 0 rfl
      simp only [F38b] at h0
      obtain ⟨tm, df⟩ := a'
      simp only at hd hs h0
      have e := lit_arr tm 99 hs
      rw [show (List.range 99).map (fun i => tm[i]?.getD undef) = [tm[0]?.getD undef, tm[1]?.getD undef, tm[2]?.getD undef, tm[3]?.getD undef, tm[4]?.getD undef, tm[5]?.getD undef, tm[6]?.getD undef, tm[7]?.getD undef, tm[8]?.getD undef, tm[9]?.getD undef, tm[10]?.getD undef, tm[11]?.getD undef, tm[12]?.getD undef, tm[13]?.getD undef, tm[14]?.getD undef, tm[15]?.getD undef, tm[16]?.getD undef, tm[17]?.getD undef, tm[18]?.getD undef, tm[19]?.getD undef, tm[20]?.getD undef, tm[21]?.getD undef, tm[22]?.getD undef, tm[23]?.getD undef, tm[24]?.getD undef, tm[25]?.getD undef, tm[26]?.getD undef, tm[27]?.getD undef, tm[28]?.getD undef, tm[29]?.getD undef, tm[30]?.getD undef, tm[31]?.getD undef, tm[32]?.getD undef, tm[33]?.getD undef, tm[34]?.getD undef, tm[35]?.getD undef, tm[36]?.getD undef, tm[37]?.getD undef, tm[38]?.getD undef, tm[39]?.getD undef, tm[40]?.getD undef, tm[41]?.getD undef, tm[42]?.getD undef, tm[43]?.getD undef, tm[44]?.getD undef, tm[45]?.getD undef, tm[46]?.getD undef, tm[47]?.getD undef, tm[48]?.getD undef, tm[49]?.getD undef, tm[50]?.getD undef, tm[51]?.getD undef, tm[52]?.getD undef, tm[53]?.getD undef, tm[54]?.getD undef, tm[55]?.getD undef, tm[56]?.getD undef, tm[57]?.getD undef, tm[58]?.getD undef, tm[59]?.getD undef, tm[60]?.getD undef, tm[61]?.getD undef, tm[62]?.getD undef, tm[63]?.getD undef, tm[64]?.getD undef, tm[65]?.getD undef, tm[66]?.getD undef, tm[67]?.getD undef, tm[68]?.getD undef, tm[69]?.getD undef, tm[70]?.getD undef, tm[71]?.getD undef, tm[72]?.getD undef, tm[73]?.getD undef, tm[74]?.getD undef, tm[75]?.getD undef, tm[76]?.getD undef, tm[77]?.getD undef, tm[78]?.getD undef, tm[79]?.getD undef, tm[80]?.getD undef, tm[81]?.getD undef, tm[82]?.getD undef, tm[83]?.getD undef, tm[84]?.getD undef, tm[85]?.getD undef, tm[86]?.getD undef, tm[87]?.getD undef, tm[88]?.getD undef, tm[89]?.getD undef, tm[90]?.getD undef, tm[91]?.getD undef, tm[92]?.getD undef, tm[93]?.getD undef, tm[94]?.getD undef, tm[95]?.getD undef, tm[96]?.getD undef, tm[97]?.getD undef, tm[98]?.getD undef] from rfl] at e
      simp only [h0, Option.getD_some] at e
      clear hf hout hs
      rw [e, hd]
      clear e hd h0
      generalize tm[1]?.getD undef = u1x
      generalize tm[2]?.getD undef = u2x
      generalize tm[3]?.getD undef = u3x
      generalize tm[4]?.getD undef = u4x
      generalize tm[5]?.getD undef = u5x
      generalize tm[6]?.getD undef = u6x
      generalize tm[7]?.getD undef = u7x
      generalize tm[8]?.getD undef = u8x
      generalize tm[9]?.getD undef = u9x
      generalize tm[10]?.getD undef = u10x
      generalize tm[11]?.getD undef = u11x
      generalize tm[12]?.getD undef = u12x
      generalize tm[13]?.getD undef = u13x
      generalize tm[14]?.getD undef = u14x
      generalize tm[15]?.getD undef = u15x
      generalize tm[16]?.getD undef = u16x
      generalize tm[17]?.getD undef = u17x
      generalize tm[18]?.getD undef = u18x
      generalize tm[19]?.getD undef = u19x
      generalize tm[20]?.getD undef = u20x
      generalize tm[21]?.getD undef = u21x
      generalize tm[22]?.getD undef = u22x
      generalize tm[23]?.getD undef = u23x
      generalize tm[24]?.getD undef = u24x
      generalize tm[25]?.getD undef = u25x
      generalize tm[26]?.getD undef = u26x
      generalize tm[27]?.getD undef = u27x
      generalize tm[28]?.getD undef = u28x
      generalize tm[29]?.getD undef = u29x
      generalize tm[30]?.getD undef = u30x
      generalize tm[31]?.getD undef = u31x
      generalize tm[32]?.getD undef = u32x
      generalize tm[33]?.getD undef = u33x
      generalize tm[34]?.getD undef = u34x
      generalize tm[35]?.getD undef = u35x
      generalize tm[36]?.getD undef = u36x
      generalize tm[37]?.getD undef = u37x
      generalize tm[38]?.getD undef = u38x
      generalize tm[39]?.getD undef = u39x
      generalize tm[40]?.getD undef = u40x
      generalize tm[41]?.getD undef = u41x
      generalize tm[42]?.getD undef = u42x
      generalize tm[43]?.getD undef = u43x
      generalize tm[44]?.getD undef = u44x
      generalize tm[45]?.getD undef = u45x
      generalize tm[46]?.getD undef = u46x
      generalize tm[47]?.getD undef = u47x
      generalize tm[48]?.getD undef = u48x
      generalize tm[49]?.getD undef = u49x
      generalize tm[50]?.getD undef = u50x
      generalize tm[51]?.getD undef = u51x
      generalize tm[52]?.getD undef = u52x
      generalize tm[53]?.getD undef = u53x
      generalize tm[54]?.getD undef = u54x
      generalize tm[55]?.getD undef = u55x
      generalize tm[56]?.getD undef = u56x
      generalize tm[57]?.getD undef = u57x
      generalize tm[58]?.getD undef = u58x
      generalize tm[59]?.getD undef = u59x
      generalize tm[60]?.getD undef = u60x
      generalize tm[61]?.getD undef = u61x
      generalize tm[62]?.getD undef = u62x
      generalize tm[63]?.getD undef = u63x
      generalize tm[64]?.getD undef = u64x
      generalize tm[65]?.getD undef = u65x
      generalize tm[66]?.getD undef = u66x
      generalize tm[67]?.getD undef = u67x
      generalize tm[68]?.getD undef = u68x
      generalize tm[69]?.getD undef = u69x
      generalize tm[70]?.getD undef = u70x
      generalize tm[71]?.getD undef = u71x
      generalize tm[72]?.getD undef = u72x
      generalize tm[73]?.getD undef = u73x
      generalize tm[74]?.getD undef = u74x
      generalize tm[75]?.getD undef = u75x
      generalize tm[76]?.getD undef = u76x
      generalize tm[77]?.getD undef = u77x
      generalize tm[78]?.getD undef = u78x
      generalize tm[79]?.getD undef = u79x
      generalize tm[80]?.getD undef = u80x
      generalize tm[81]?.getD undef = u81x
      generalize tm[82]?.getD undef = u82x
      generalize tm[83]?.getD undef = u83x
      generalize tm[84]?.getD undef = u84x
      generalize tm[85]?.getD undef = u85x
      generalize tm[86]?.getD undef = u86x
      generalize tm[87]?.getD undef = u87x
      generalize tm[88]?.getD undef = u88x
      generalize tm[89]?.getD undef = u89x
      generalize tm[90]?.getD undef = u90x
      generalize tm[91]?.getD undef = u91x
      generalize tm[92]?.getD undef = u92x
      generalize tm[93]?.getD undef = u93x
      generalize tm[94]?.getD undef = u94x
      generalize tm[95]?.getD undef = u95x
      generalize tm[96]?.getD undef = u96x
      generalize tm[97]?.getD undef = u97x
      generalize tm[98]?.getD undef = u98x
      have hb := Lib.hid (hb.out.trans (hw.mono hb.out.size))
      clear hw hcell hhead
      go_wp2_with fail
      go_ret
      exact ⟨rfl, hb.out⟩
end Go.Proofs.Ytiggpgeldigknaa
