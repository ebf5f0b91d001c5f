/- The law EntriesStay, walked. -/
import Derived.Test.YtiapeenfggjpnaaPV
set_option linter.unusedVariables false
set_option linter.unusedSimpArgs false
namespace Go.Proofs.Ytiapeenfggjpnaa
open Go.RowKit
theorem h_cell {w : World} {B : Nat} {A : Option Addr} {n : Nat} {l : List Int} (h : LAt hC 1 w B A n l) {k : Nat} (hk : k < n) : ∃ ad, A = some ad ∧ ad.block < B ∧ w.cell? (ad.add k) = some (.int .u16 (l[k]'(by rw [h.len]; exact hk))) := by
  obtain ⟨ad, hA, hb, hc⟩ := h.at_ hk
  refine ⟨ad, hA, hb, ?_⟩
  have := hc 0 _ rfl
  simpa using this
/-- the data that were committed before, beside the box g -/
structure KsAt (w : World) (g : Nat) (C : List En) (A : Option Addr) (n c : Nat) (L : List Bs) : Prop where
  at_ : LAt sC 1 w w.heap.size A n L
  q : InQ (fun b => b ≠ g) n A
  els : ∀ b ∈ L, BsQ w (fun b => b ≠ g) b
  eq : L.map (·.d) = C.map (·.d)
theorem KsAt.nil (w : World) (g : Nat) : KsAt w g [] none 0 0 [] := ⟨LAt.nil sC_len _ _, fun h => absurd h (Nat.lt_irrefl 0), fun b hb => by simp at hb, rfl⟩
theorem KsAt.more {w w' : World} {g : Nat} {C : List En} {A : Option Addr} {n c : Nat} {L : List Bs} (h : KsAt w g C A n c L) (hb : Below w.heap.size w w') : KsAt w' g C A n c L := ⟨h.at_.more hb, h.q, fun b hx => (h.els b hx).more hb, h.eq⟩
theorem KsAt.st {w w' : World} {g : Nat} {C : List En} {A : Option Addr} {n c : Nat} {L : List Bs} (h : KsAt w g C A n c L) (hg : w.grownBy w' (some g)) : KsAt w' g C A n c L := ⟨LAt_grownO h.at_ (fun h0 ad e e2 => by injection e2 with e2; exact h.q h0 ad e e2) hg, h.q, fun b hx => (h.els b hx).st hg (fun b hb e => by injection e with e; exact hb e), h.eq⟩
set_option maxRecDepth 100000 in
set_option maxHeartbeats 8000000 in
theorem lawStay (x : Int) (A : Option Addr) (n c : Nat) (l : List Int) (w : World) (hxw : (Lit.int .u8 x).wf = true) (h : LAt hC 1 w w.heap.size A n l) (ht : ∀ s ∈ l, u16In s) : Calls Try.prog 9 #[.int .u8 x, .slice A n c] w fun e w' => e = .returned (.bool true) ∧ Below w.heap.size w w' := by
  have hx := wf_u8' hxw
  have hln : Hid (l.length = n) := h.len
  replace h := Lib.hid h
  replace ht := Lib.hid ht
  have hb0 : Hid (Below w.heap.size w w) := Below.refl _ _
  clear hxw
  by_cases q0 : 100 < n
  · have q0i : (100 : Int) < (n : Int) := by omega
    have q0d : decide ((100 : Int) < (n : Int)) = true := by simp; omega
    go_enter Try.func9, Try.ntmps9
    go_wp2_with fail
    go_ret
    exact ⟨rfl, hb0.out⟩
  have q0i : ¬ (100 : Int) < (n : Int) := by omega
  have q0d : decide ((100 : Int) < (n : Int)) = false := by simp; omega
  go_enter Try.func9, Try.ntmps9
  go_wp2_with fail
  obtain ⟨M, hM⟩ : ∃ M : Nat, x % 7 + 1 = (M : Int) := ⟨(x % 7 + 1).toNat, by omega⟩
  have hM1 : 1 ≤ M := by omega
  have hM7 : M ≤ 7 := by omega
  rw [hM]
  replace hM := Lib.hid hM
  have hnr : newR (M : Int) = (newC M, 0) := by unfold newR; rw [if_neg (by omega)]
  refine (new_any M w).mono ?_; rintro e w1 ⟨⟨k0, rfl, hk, hv⟩, hq⟩
  rw [hnr] at hv ⊢
  have hS := StOk.new hM1 hM7 hq hk hv
  have hn1 := hS.len
  obtain ⟨p1, v1, m1, A1, n1, c1, sl1⟩ := k0
  (try simp only at hn1)
  subst hn1
  simp only [clV]
  simp only at hS
  replace hS := Lib.hid hS
  clear hnr hq hk hv
  have hM0 : ((n1 : Int) == 0) = false := by simp; omega
  obtain ⟨k0, k1, k2, k3⟩ := (show (w1.alloc (.cells #[Value.int .i64 p1, Value.int .i64 v1, Value.int .i64 m1, Value.slice A1 n1 c1] 24)).cell? ⟨w1.heap.size, 0, none⟩ = some (Value.int .i64 p1) ∧ (w1.alloc (.cells #[Value.int .i64 p1, Value.int .i64 v1, Value.int .i64 m1, Value.slice A1 n1 c1] 24)).cell? ⟨w1.heap.size, 1, none⟩ = some (Value.int .i64 v1) ∧ (w1.alloc (.cells #[Value.int .i64 p1, Value.int .i64 v1, Value.int .i64 m1, Value.slice A1 n1 c1] 24)).cell? ⟨w1.heap.size, 2, none⟩ = some (Value.int .i64 m1) ∧ (w1.alloc (.cells #[Value.int .i64 p1, Value.int .i64 v1, Value.int .i64 m1, Value.slice A1 n1 c1] 24)).cell? ⟨w1.heap.size, 3, none⟩ = some (Value.slice A1 n1 c1) from ⟨hS.out.box.blk.cell 0, hS.out.box.blk.cell 1, hS.out.box.blk.cell 2, hS.out.box.blk.cell 3⟩)
  go_wp2_with fail
  clear k0 k1 k2 k3
  obtain ⟨g, hg⟩ : ∃ g, g = w1.heap.size := ⟨_, rfl⟩
  rw [← hg] at hS ⊢
  generalize (w1.alloc (.cells #[Value.int .i64 p1, Value.int .i64 v1, Value.int .i64 m1, Value.slice A1 n1 c1] 24)) = w2 at *
  clear hg
  go_loopw [34, 7] (fun i v7 wr => ∃ (j : Nat) (C : List En) (k : Cm) (A7 : Option Addr) (n7 c7 : Nat) (L : List Bs), j ≤ n ∧ i = .int .i64 j ∧ v7 = .slice A7 n7 c7 ∧ Hid (StOk w n1 j g C k wr) ∧ Hid (KsAt wr g C A7 n7 c7 L)) (fun i _ _ => n - (intOf i).toNat)
  case atStart => exact ⟨0, [], _, none, 0, 0, [], Nat.zero_le _, rfl, rfl, hS.out, KsAt.nil _ _⟩
  clear hS
  case round =>
    obtain ⟨j, C, k, A7, n7, c7, L, hjn, rfl, rfl, hS, hL⟩ := hrel
    by_cases hlt : j < n
    · have hj0 : (0 : Int) ≤ j := by omega
      have hj1 : (j : Int) < n := by omega
      have hjl : j < l.length := by have := hln.out; omega
      have hm120 : j ≤ 120 := by omega
      have hu : Hid (u16In l[j]) := ht.out _ (List.getElem_mem hjl)
      obtain ⟨ad, hA, -, e0⟩ := h_cell (h.out.below hS.out.below (Nat.le_refl _)) hlt
      generalize l[j] = s at *
      subst hA
      have hus := hu.out
      unfold u16In at hus
      have hkn := hS.out.len
      obtain ⟨p9, v9, m9, A9, n9, c9, l9⟩ := k
      (try simp only at hkn)
      subst hkn
      obtain ⟨k0, k1, k2, k3⟩ := (show wr.cell? ⟨g, 0, none⟩ = some (Value.int .i64 p9) ∧ wr.cell? ⟨g, 1, none⟩ = some (Value.int .i64 v9) ∧ wr.cell? ⟨g, 2, none⟩ = some (Value.int .i64 m9) ∧ wr.cell? ⟨g, 3, none⟩ = some (Value.slice A9 n9 c9) from ⟨hS.out.box.blk.cell 0, hS.out.box.blk.cell 1, hS.out.box.blk.cell 2, hS.out.box.blk.cell 3⟩)
      have hn0 : ((n9 : Int) == 0) = false := by simp; omega
      have hnz : (n9 : Int) ≠ 0 := by omega
      by_cases hs0 : s % 8 = 0
      · have hd0 : (s % 8 == 0) = true := by simp; omega
        go_wp2_with fail
        refine (crash_any (⟨p9, v9, m9, A9, n9, c9, l9⟩ : Cm) (s / 16 % (n9 : Int)) wr hS.out.box.at_ (sm2_sm (hS.out.sm2 hm120))).mono ?_; rintro e w2 ⟨⟨k', rfl, hk', hv'⟩, hq⟩
        obtain ⟨p8, v8, m8, A8, n8, c8, l8⟩ := k'
        simp only [clV]
        obtain ⟨C', hpre, hi, -⟩ := call_inv hS.out.inv (⟨2, (s / 16 % (n9 : Int)), []⟩ : Oc)
        have hS2 : Hid (StOk w n9 (j + 1) g C' (⟨p8, v8, m8, A8, n8, c8, l8⟩ : Cm) ((((w2.setCell ⟨g, 0, none⟩ (Value.int .i64 p8)).setCell ⟨g, 1, none⟩ (Value.int .i64 v8)).setCell ⟨g, 2, none⟩ (Value.int .i64 m8)).setCell ⟨g, 3, none⟩ (Value.slice A8 n8 c8))) := StOk.next (d := ((⟨2, (s / 16 % (n9 : Int)), []⟩ : Oc)).d) hS.out hq hk' hv' hi (call_from hS.out.inv (⟨2, (s / 16 % (n9 : Int)), []⟩ : Oc))
        have hX2 := Lib.hid (hS.out.box.blk.below hq hS.out.box.blk.lt)
        have hL2 : Hid (KsAt ((((w2.setCell ⟨g, 0, none⟩ (Value.int .i64 p8)).setCell ⟨g, 1, none⟩ (Value.int .i64 v8)).setCell ⟨g, 2, none⟩ (Value.int .i64 m8)).setCell ⟨g, 3, none⟩ (Value.slice A8 n8 c8)) g C A7 n7 c7 L) := (hL.out.more hq).st (grown_set4 w2 g (Value.int .i64 p8) (Value.int .i64 v8) (Value.int .i64 m8) (Value.slice A8 n8 c8))
        replace hpre := Lib.hid hpre
        clear hk' hv' hi hq hS hL k0 k1 k2 k3 hM e0
        obtain ⟨k0, k1, k2, k3, z0, z1, z2, z3⟩ := (show w2.cell? ⟨g, 0, none⟩ = some (Value.int .i64 p9) ∧ w2.cell? ⟨g, 1, none⟩ = some (Value.int .i64 v9) ∧ w2.cell? ⟨g, 2, none⟩ = some (Value.int .i64 m9) ∧ w2.cell? ⟨g, 3, none⟩ = some (Value.slice A9 n9 c9) ∧ w2.frozen? ⟨g, 0, none⟩ = false ∧ w2.frozen? ⟨g, 1, none⟩ = false ∧ w2.frozen? ⟨g, 2, none⟩ = false ∧ w2.frozen? ⟨g, 3, none⟩ = false from ⟨hX2.out.cell 0, hX2.out.cell 1, hX2.out.cell 2, hX2.out.cell 3, hX2.out.frozen 0, hX2.out.frozen 1, hX2.out.frozen 2, hX2.out.frozen 3⟩)
        obtain ⟨m0, m1, m2, m3⟩ := (show ((((w2.setCell ⟨g, 0, none⟩ (Value.int .i64 p8)).setCell ⟨g, 1, none⟩ (Value.int .i64 v8)).setCell ⟨g, 2, none⟩ (Value.int .i64 m8)).setCell ⟨g, 3, none⟩ (Value.slice A8 n8 c8)).cell? ⟨g, 0, none⟩ = some (Value.int .i64 p8) ∧ ((((w2.setCell ⟨g, 0, none⟩ (Value.int .i64 p8)).setCell ⟨g, 1, none⟩ (Value.int .i64 v8)).setCell ⟨g, 2, none⟩ (Value.int .i64 m8)).setCell ⟨g, 3, none⟩ (Value.slice A8 n8 c8)).cell? ⟨g, 1, none⟩ = some (Value.int .i64 v8) ∧ ((((w2.setCell ⟨g, 0, none⟩ (Value.int .i64 p8)).setCell ⟨g, 1, none⟩ (Value.int .i64 v8)).setCell ⟨g, 2, none⟩ (Value.int .i64 m8)).setCell ⟨g, 3, none⟩ (Value.slice A8 n8 c8)).cell? ⟨g, 2, none⟩ = some (Value.int .i64 m8) ∧ ((((w2.setCell ⟨g, 0, none⟩ (Value.int .i64 p8)).setCell ⟨g, 1, none⟩ (Value.int .i64 v8)).setCell ⟨g, 2, none⟩ (Value.int .i64 m8)).setCell ⟨g, 3, none⟩ (Value.slice A8 n8 c8)).cell? ⟨g, 3, none⟩ = some (Value.slice A8 n8 c8) from ⟨hS2.out.box.blk.cell 0, hS2.out.box.blk.cell 1, hS2.out.box.blk.cell 2, hS2.out.box.blk.cell 3⟩)
        clear hX2
        go_wp2_with fail
        clear k0 k1 k2 k3 z0 z1 z2 z3 m0 m1 m2 m3
        generalize ((((w2.setCell ⟨g, 0, none⟩ (Value.int .i64 p8)).setCell ⟨g, 1, none⟩ (Value.int .i64 v8)).setCell ⟨g, 2, none⟩ (Value.int .i64 m8)).setCell ⟨g, 3, none⟩ (Value.slice A8 n8 c8)) = w3 at *
        refine (hS2.out.com (by omega)).mono ?_; rintro e w4 ⟨⟨A6, n6, c6, C6, rfl, hL6, hcp6, hQ6, hB6, hC6⟩, hq⟩
        have hg3 := hS2.out.box.blk.lt
        have hN : Hid (KsAt w4 g C' A6 n6 c6 C6) := ⟨hL6, hQ6.imp (fun b hb => by omega), fun b hb => (hB6 b hb).imp (fun b hb => by omega), hC6⟩
        have hmx : n6 ≤ 9223372036854775807 := by have := hcp6; simp only [maxLen] at this; omega
        have hS3 := Lib.hid (hS2.out.more hq)
        have hL3 := Lib.hid (hL2.out.more hq)
        clear hL6 hcp6 hQ6 hB6 hC6 hq hg3 hS2 hL2
        obtain ⟨k0, k1, k2, k3⟩ := (show w4.cell? ⟨g, 0, none⟩ = some (Value.int .i64 p8) ∧ w4.cell? ⟨g, 1, none⟩ = some (Value.int .i64 v8) ∧ w4.cell? ⟨g, 2, none⟩ = some (Value.int .i64 m8) ∧ w4.cell? ⟨g, 3, none⟩ = some (Value.slice A8 n8 c8) from ⟨hS3.out.box.blk.cell 0, hS3.out.box.blk.cell 1, hS3.out.box.blk.cell 2, hS3.out.box.blk.cell 3⟩)
        go_wp2_with fail
        refine hS3.out.valid.mono ?_; rintro e w5 ⟨rfl, hq⟩
        clear k0 k1 k2 k3
        have hS := Lib.hid (hS3.out.more hq)
        have hL := Lib.hid (hL3.out.more hq)
        have hN := Lib.hid (hN.out.more hq)
        have h76 : n7 ≤ n6 := by
          have e1 := congrArg List.length hL.out.eq
          have e2 := congrArg List.length hN.out.eq
          have e3 := hL.out.at_.len
          have e4 := hN.out.at_.len
          have e5 := hpre.out.length_le
          simp only [List.length_map] at e1 e2
          omega
        have h76i : ¬ (n6 : Int) < (n7 : Int) := by omega
        have h76d : decide ((n6 : Int) < (n7 : Int)) = false := by simp; omega
        clear hq hS3 hL3
        go_wp2_with fail
        go_loopw [103] (fun i wr => ∃ q : Nat, q ≤ n7 ∧ i = .int .i64 q ∧ Hid (StOk w n9 (j + 1) g C' (⟨p8, v8, m8, A8, n8, c8, l8⟩ : Cm) wr) ∧ Hid (KsAt wr g C A7 n7 c7 L) ∧ Hid (KsAt wr g C' A6 n6 c6 C6)) (fun i _ => n7 - (intOf i).toNat)
        case atStart => exact ⟨0, Nat.zero_le _, rfl, hS.out, hL.out, hN.out⟩
        clear hS hL hN
        case round =>
          obtain ⟨q, hqn, rfl, hS, hL, hN⟩ := hrel
          by_cases hql : q < n7
          · have hq0 : (0 : Int) ≤ q := by omega
            have hq1 : (q : Int) < n7 := by omega
            have hq2 : (q : Int) < n6 := by omega
            obtain ⟨ad7, hA7, -, t0⟩ := s_cell hL.out.at_ hql
            obtain ⟨ad6, hA6, -, y0⟩ := s_cell hN.out.at_ (show q < n6 by omega)
            have hl7 : q < L.length := by rw [hL.out.at_.len]; exact hql
            have hl6 : q < C6.length := by rw [hN.out.at_.len]; omega
            have hde : (L[q]).d = (C6[q]).d := by
              have e1 : (L.map (·.d))[q]? = (C6.map (·.d))[q]? := by
                rw [hL.out.eq, hN.out.eq]
                obtain ⟨tl, htl⟩ := hpre.out
                have hlc : q < (C.map (·.d)).length := by rw [← hL.out.eq, List.length_map]; exact hl7
                rw [← htl, List.map_append, List.getElem?_append_left hlc]
              rw [List.getElem?_map, List.getElem?_map, List.getElem?_eq_getElem hl7, List.getElem?_eq_getElem hl6] at e1
              exact Option.some.inj e1
            have hb7 := (hL.out.els _ (List.getElem_mem hl7)).at_
            have hb6 := (hN.out.els _ (List.getElem_mem hl6)).at_
            generalize L[q] = y7 at *
            generalize C6[q] = y6 at *
            obtain ⟨yA, yn, yc, yd⟩ := y7
            obtain ⟨uA, un, uc, ud⟩ := y6
            simp only at hde t0 y0 hb7 hb6
            subst hde
            have e1 := fun m => conv_bytes (c := yc) (hb7.more (below_drewN (Below.refl _ wr) m))
            have e2 := fun m => conv_bytes (c := uc) (hb6.more (below_drewN (Below.refl _ wr) m))
            clear hb7 hb6
            generalize (⟨yd.toArray⟩ : ByteArray) = str at *
            subst hA7
            subst hA6
            go_wp2_with fail
            go_quiet (fail)
            go_wp2_with fail
            go_roundw
            case rel => exact ⟨q + 1, by omega, by go_num, hS.out.more (below_drewN (Below.refl _ _) _), hL.out.more (below_drewN (Below.refl _ _) _), hN.out.more (below_drewN (Below.refl _ _) _)⟩
            case measure => simp [intOf]; omega
          · go_wp2_with fail
            go_roundw
            case rel => exact ⟨j + 1, C', _, A6, n6, c6, C6, by omega, by go_num, rfl, hS.out, hN.out⟩
            case measure => simp [intOf]; omega
      have hd0 : (s % 8 == 0) = false := by simp; omega
      by_cases hs1 : s % 8 = 1
      · have hd1 : (s % 8 == 1) = true := by simp; omega
        go_wp2_with fail
        refine (crash_any (⟨p9, v9, m9, A9, n9, c9, l9⟩ : Cm) (s / 16 % (n9 : Int)) wr hS.out.box.at_ (sm2_sm (hS.out.sm2 hm120))).mono ?_; rintro e w2 ⟨⟨k', rfl, hk', hv'⟩, hq⟩
        obtain ⟨p8, v8, m8, A8, n8, c8, l8⟩ := k'
        simp only [clV]
        obtain ⟨C', hpre, hi, -⟩ := call_inv hS.out.inv (⟨2, (s / 16 % (n9 : Int)), []⟩ : Oc)
        have hS2 : Hid (StOk w n9 (j + 1) g C' (⟨p8, v8, m8, A8, n8, c8, l8⟩ : Cm) ((((w2.setCell ⟨g, 0, none⟩ (Value.int .i64 p8)).setCell ⟨g, 1, none⟩ (Value.int .i64 v8)).setCell ⟨g, 2, none⟩ (Value.int .i64 m8)).setCell ⟨g, 3, none⟩ (Value.slice A8 n8 c8))) := StOk.next (d := ((⟨2, (s / 16 % (n9 : Int)), []⟩ : Oc)).d) hS.out hq hk' hv' hi (call_from hS.out.inv (⟨2, (s / 16 % (n9 : Int)), []⟩ : Oc))
        have hX2 := Lib.hid (hS.out.box.blk.below hq hS.out.box.blk.lt)
        have hL2 : Hid (KsAt ((((w2.setCell ⟨g, 0, none⟩ (Value.int .i64 p8)).setCell ⟨g, 1, none⟩ (Value.int .i64 v8)).setCell ⟨g, 2, none⟩ (Value.int .i64 m8)).setCell ⟨g, 3, none⟩ (Value.slice A8 n8 c8)) g C A7 n7 c7 L) := (hL.out.more hq).st (grown_set4 w2 g (Value.int .i64 p8) (Value.int .i64 v8) (Value.int .i64 m8) (Value.slice A8 n8 c8))
        replace hpre := Lib.hid hpre
        clear hk' hv' hi hq hS hL k0 k1 k2 k3 hM e0
        obtain ⟨k0, k1, k2, k3, z0, z1, z2, z3⟩ := (show w2.cell? ⟨g, 0, none⟩ = some (Value.int .i64 p9) ∧ w2.cell? ⟨g, 1, none⟩ = some (Value.int .i64 v9) ∧ w2.cell? ⟨g, 2, none⟩ = some (Value.int .i64 m9) ∧ w2.cell? ⟨g, 3, none⟩ = some (Value.slice A9 n9 c9) ∧ w2.frozen? ⟨g, 0, none⟩ = false ∧ w2.frozen? ⟨g, 1, none⟩ = false ∧ w2.frozen? ⟨g, 2, none⟩ = false ∧ w2.frozen? ⟨g, 3, none⟩ = false from ⟨hX2.out.cell 0, hX2.out.cell 1, hX2.out.cell 2, hX2.out.cell 3, hX2.out.frozen 0, hX2.out.frozen 1, hX2.out.frozen 2, hX2.out.frozen 3⟩)
        obtain ⟨m0, m1, m2, m3⟩ := (show ((((w2.setCell ⟨g, 0, none⟩ (Value.int .i64 p8)).setCell ⟨g, 1, none⟩ (Value.int .i64 v8)).setCell ⟨g, 2, none⟩ (Value.int .i64 m8)).setCell ⟨g, 3, none⟩ (Value.slice A8 n8 c8)).cell? ⟨g, 0, none⟩ = some (Value.int .i64 p8) ∧ ((((w2.setCell ⟨g, 0, none⟩ (Value.int .i64 p8)).setCell ⟨g, 1, none⟩ (Value.int .i64 v8)).setCell ⟨g, 2, none⟩ (Value.int .i64 m8)).setCell ⟨g, 3, none⟩ (Value.slice A8 n8 c8)).cell? ⟨g, 1, none⟩ = some (Value.int .i64 v8) ∧ ((((w2.setCell ⟨g, 0, none⟩ (Value.int .i64 p8)).setCell ⟨g, 1, none⟩ (Value.int .i64 v8)).setCell ⟨g, 2, none⟩ (Value.int .i64 m8)).setCell ⟨g, 3, none⟩ (Value.slice A8 n8 c8)).cell? ⟨g, 2, none⟩ = some (Value.int .i64 m8) ∧ ((((w2.setCell ⟨g, 0, none⟩ (Value.int .i64 p8)).setCell ⟨g, 1, none⟩ (Value.int .i64 v8)).setCell ⟨g, 2, none⟩ (Value.int .i64 m8)).setCell ⟨g, 3, none⟩ (Value.slice A8 n8 c8)).cell? ⟨g, 3, none⟩ = some (Value.slice A8 n8 c8) from ⟨hS2.out.box.blk.cell 0, hS2.out.box.blk.cell 1, hS2.out.box.blk.cell 2, hS2.out.box.blk.cell 3⟩)
        clear hX2
        go_wp2_with fail
        clear k0 k1 k2 k3 z0 z1 z2 z3 m0 m1 m2 m3
        generalize ((((w2.setCell ⟨g, 0, none⟩ (Value.int .i64 p8)).setCell ⟨g, 1, none⟩ (Value.int .i64 v8)).setCell ⟨g, 2, none⟩ (Value.int .i64 m8)).setCell ⟨g, 3, none⟩ (Value.slice A8 n8 c8)) = w3 at *
        refine (hS2.out.com (by omega)).mono ?_; rintro e w4 ⟨⟨A6, n6, c6, C6, rfl, hL6, hcp6, hQ6, hB6, hC6⟩, hq⟩
        have hg3 := hS2.out.box.blk.lt
        have hN : Hid (KsAt w4 g C' A6 n6 c6 C6) := ⟨hL6, hQ6.imp (fun b hb => by omega), fun b hb => (hB6 b hb).imp (fun b hb => by omega), hC6⟩
        have hmx : n6 ≤ 9223372036854775807 := by have := hcp6; simp only [maxLen] at this; omega
        have hS3 := Lib.hid (hS2.out.more hq)
        have hL3 := Lib.hid (hL2.out.more hq)
        clear hL6 hcp6 hQ6 hB6 hC6 hq hg3 hS2 hL2
        obtain ⟨k0, k1, k2, k3⟩ := (show w4.cell? ⟨g, 0, none⟩ = some (Value.int .i64 p8) ∧ w4.cell? ⟨g, 1, none⟩ = some (Value.int .i64 v8) ∧ w4.cell? ⟨g, 2, none⟩ = some (Value.int .i64 m8) ∧ w4.cell? ⟨g, 3, none⟩ = some (Value.slice A8 n8 c8) from ⟨hS3.out.box.blk.cell 0, hS3.out.box.blk.cell 1, hS3.out.box.blk.cell 2, hS3.out.box.blk.cell 3⟩)
        go_wp2_with fail
        refine hS3.out.valid.mono ?_; rintro e w5 ⟨rfl, hq⟩
        clear k0 k1 k2 k3
        have hS := Lib.hid (hS3.out.more hq)
        have hL := Lib.hid (hL3.out.more hq)
        have hN := Lib.hid (hN.out.more hq)
        have h76 : n7 ≤ n6 := by
          have e1 := congrArg List.length hL.out.eq
          have e2 := congrArg List.length hN.out.eq
          have e3 := hL.out.at_.len
          have e4 := hN.out.at_.len
          have e5 := hpre.out.length_le
          simp only [List.length_map] at e1 e2
          omega
        have h76i : ¬ (n6 : Int) < (n7 : Int) := by omega
        have h76d : decide ((n6 : Int) < (n7 : Int)) = false := by simp; omega
        clear hq hS3 hL3
        go_wp2_with fail
        go_loopw [103] (fun i wr => ∃ q : Nat, q ≤ n7 ∧ i = .int .i64 q ∧ Hid (StOk w n9 (j + 1) g C' (⟨p8, v8, m8, A8, n8, c8, l8⟩ : Cm) wr) ∧ Hid (KsAt wr g C A7 n7 c7 L) ∧ Hid (KsAt wr g C' A6 n6 c6 C6)) (fun i _ => n7 - (intOf i).toNat)
        case atStart => exact ⟨0, Nat.zero_le _, rfl, hS.out, hL.out, hN.out⟩
        clear hS hL hN
        case round =>
          obtain ⟨q, hqn, rfl, hS, hL, hN⟩ := hrel
          by_cases hql : q < n7
          · have hq0 : (0 : Int) ≤ q := by omega
            have hq1 : (q : Int) < n7 := by omega
            have hq2 : (q : Int) < n6 := by omega
            obtain ⟨ad7, hA7, -, t0⟩ := s_cell hL.out.at_ hql
            obtain ⟨ad6, hA6, -, y0⟩ := s_cell hN.out.at_ (show q < n6 by omega)
            have hl7 : q < L.length := by rw [hL.out.at_.len]; exact hql
            have hl6 : q < C6.length := by rw [hN.out.at_.len]; omega
            have hde : (L[q]).d = (C6[q]).d := by
              have e1 : (L.map (·.d))[q]? = (C6.map (·.d))[q]? := by
                rw [hL.out.eq, hN.out.eq]
                obtain ⟨tl, htl⟩ := hpre.out
                have hlc : q < (C.map (·.d)).length := by rw [← hL.out.eq, List.length_map]; exact hl7
                rw [← htl, List.map_append, List.getElem?_append_left hlc]
              rw [List.getElem?_map, List.getElem?_map, List.getElem?_eq_getElem hl7, List.getElem?_eq_getElem hl6] at e1
              exact Option.some.inj e1
            have hb7 := (hL.out.els _ (List.getElem_mem hl7)).at_
            have hb6 := (hN.out.els _ (List.getElem_mem hl6)).at_
            generalize L[q] = y7 at *
            generalize C6[q] = y6 at *
            obtain ⟨yA, yn, yc, yd⟩ := y7
            obtain ⟨uA, un, uc, ud⟩ := y6
            simp only at hde t0 y0 hb7 hb6
            subst hde
            have e1 := fun m => conv_bytes (c := yc) (hb7.more (below_drewN (Below.refl _ wr) m))
            have e2 := fun m => conv_bytes (c := uc) (hb6.more (below_drewN (Below.refl _ wr) m))
            clear hb7 hb6
            generalize (⟨yd.toArray⟩ : ByteArray) = str at *
            subst hA7
            subst hA6
            go_wp2_with fail
            go_quiet (fail)
            go_wp2_with fail
            go_roundw
            case rel => exact ⟨q + 1, by omega, by go_num, hS.out.more (below_drewN (Below.refl _ _) _), hL.out.more (below_drewN (Below.refl _ _) _), hN.out.more (below_drewN (Below.refl _ _) _)⟩
            case measure => simp [intOf]; omega
          · go_wp2_with fail
            go_roundw
            case rel => exact ⟨j + 1, C', _, A6, n6, c6, C6, by omega, by go_num, rfl, hS.out, hN.out⟩
            case measure => simp [intOf]; omega
      have hd1 : (s % 8 == 1) = false := by simp; omega
      by_cases hs2 : s % 8 = 2
      · have hd2 : (s % 8 == 2) = true := by simp; omega
        go_wp2_with fail
        refine (restart_any (⟨p9, v9, m9, A9, n9, c9, l9⟩ : Cm) (s / 16 % (n9 : Int)) wr hS.out.box.at_ (sm2_sm (hS.out.sm2 hm120))).mono ?_; rintro e w2 ⟨⟨k', rfl, hk', hv'⟩, hq⟩
        obtain ⟨p8, v8, m8, A8, n8, c8, l8⟩ := k'
        simp only [clV]
        obtain ⟨C', hpre, hi, -⟩ := call_inv hS.out.inv (⟨3, (s / 16 % (n9 : Int)), []⟩ : Oc)
        have hS2 : Hid (StOk w n9 (j + 1) g C' (⟨p8, v8, m8, A8, n8, c8, l8⟩ : Cm) ((((w2.setCell ⟨g, 0, none⟩ (Value.int .i64 p8)).setCell ⟨g, 1, none⟩ (Value.int .i64 v8)).setCell ⟨g, 2, none⟩ (Value.int .i64 m8)).setCell ⟨g, 3, none⟩ (Value.slice A8 n8 c8))) := StOk.next (d := ((⟨3, (s / 16 % (n9 : Int)), []⟩ : Oc)).d) hS.out hq hk' hv' hi (call_from hS.out.inv (⟨3, (s / 16 % (n9 : Int)), []⟩ : Oc))
        have hX2 := Lib.hid (hS.out.box.blk.below hq hS.out.box.blk.lt)
        have hL2 : Hid (KsAt ((((w2.setCell ⟨g, 0, none⟩ (Value.int .i64 p8)).setCell ⟨g, 1, none⟩ (Value.int .i64 v8)).setCell ⟨g, 2, none⟩ (Value.int .i64 m8)).setCell ⟨g, 3, none⟩ (Value.slice A8 n8 c8)) g C A7 n7 c7 L) := (hL.out.more hq).st (grown_set4 w2 g (Value.int .i64 p8) (Value.int .i64 v8) (Value.int .i64 m8) (Value.slice A8 n8 c8))
        replace hpre := Lib.hid hpre
        clear hk' hv' hi hq hS hL k0 k1 k2 k3 hM e0
        obtain ⟨k0, k1, k2, k3, z0, z1, z2, z3⟩ := (show w2.cell? ⟨g, 0, none⟩ = some (Value.int .i64 p9) ∧ w2.cell? ⟨g, 1, none⟩ = some (Value.int .i64 v9) ∧ w2.cell? ⟨g, 2, none⟩ = some (Value.int .i64 m9) ∧ w2.cell? ⟨g, 3, none⟩ = some (Value.slice A9 n9 c9) ∧ w2.frozen? ⟨g, 0, none⟩ = false ∧ w2.frozen? ⟨g, 1, none⟩ = false ∧ w2.frozen? ⟨g, 2, none⟩ = false ∧ w2.frozen? ⟨g, 3, none⟩ = false from ⟨hX2.out.cell 0, hX2.out.cell 1, hX2.out.cell 2, hX2.out.cell 3, hX2.out.frozen 0, hX2.out.frozen 1, hX2.out.frozen 2, hX2.out.frozen 3⟩)
        obtain ⟨m0, m1, m2, m3⟩ := (show ((((w2.setCell ⟨g, 0, none⟩ (Value.int .i64 p8)).setCell ⟨g, 1, none⟩ (Value.int .i64 v8)).setCell ⟨g, 2, none⟩ (Value.int .i64 m8)).setCell ⟨g, 3, none⟩ (Value.slice A8 n8 c8)).cell? ⟨g, 0, none⟩ = some (Value.int .i64 p8) ∧ ((((w2.setCell ⟨g, 0, none⟩ (Value.int .i64 p8)).setCell ⟨g, 1, none⟩ (Value.int .i64 v8)).setCell ⟨g, 2, none⟩ (Value.int .i64 m8)).setCell ⟨g, 3, none⟩ (Value.slice A8 n8 c8)).cell? ⟨g, 1, none⟩ = some (Value.int .i64 v8) ∧ ((((w2.setCell ⟨g, 0, none⟩ (Value.int .i64 p8)).setCell ⟨g, 1, none⟩ (Value.int .i64 v8)).setCell ⟨g, 2, none⟩ (Value.int .i64 m8)).setCell ⟨g, 3, none⟩ (Value.slice A8 n8 c8)).cell? ⟨g, 2, none⟩ = some (Value.int .i64 m8) ∧ ((((w2.setCell ⟨g, 0, none⟩ (Value.int .i64 p8)).setCell ⟨g, 1, none⟩ (Value.int .i64 v8)).setCell ⟨g, 2, none⟩ (Value.int .i64 m8)).setCell ⟨g, 3, none⟩ (Value.slice A8 n8 c8)).cell? ⟨g, 3, none⟩ = some (Value.slice A8 n8 c8) from ⟨hS2.out.box.blk.cell 0, hS2.out.box.blk.cell 1, hS2.out.box.blk.cell 2, hS2.out.box.blk.cell 3⟩)
        clear hX2
        go_wp2_with fail
        clear k0 k1 k2 k3 z0 z1 z2 z3 m0 m1 m2 m3
        generalize ((((w2.setCell ⟨g, 0, none⟩ (Value.int .i64 p8)).setCell ⟨g, 1, none⟩ (Value.int .i64 v8)).setCell ⟨g, 2, none⟩ (Value.int .i64 m8)).setCell ⟨g, 3, none⟩ (Value.slice A8 n8 c8)) = w3 at *
        refine (hS2.out.com (by omega)).mono ?_; rintro e w4 ⟨⟨A6, n6, c6, C6, rfl, hL6, hcp6, hQ6, hB6, hC6⟩, hq⟩
        have hg3 := hS2.out.box.blk.lt
        have hN : Hid (KsAt w4 g C' A6 n6 c6 C6) := ⟨hL6, hQ6.imp (fun b hb => by omega), fun b hb => (hB6 b hb).imp (fun b hb => by omega), hC6⟩
        have hmx : n6 ≤ 9223372036854775807 := by have := hcp6; simp only [maxLen] at this; omega
        have hS3 := Lib.hid (hS2.out.more hq)
        have hL3 := Lib.hid (hL2.out.more hq)
        clear hL6 hcp6 hQ6 hB6 hC6 hq hg3 hS2 hL2
        obtain ⟨k0, k1, k2, k3⟩ := (show w4.cell? ⟨g, 0, none⟩ = some (Value.int .i64 p8) ∧ w4.cell? ⟨g, 1, none⟩ = some (Value.int .i64 v8) ∧ w4.cell? ⟨g, 2, none⟩ = some (Value.int .i64 m8) ∧ w4.cell? ⟨g, 3, none⟩ = some (Value.slice A8 n8 c8) from ⟨hS3.out.box.blk.cell 0, hS3.out.box.blk.cell 1, hS3.out.box.blk.cell 2, hS3.out.box.blk.cell 3⟩)
        go_wp2_with fail
        refine hS3.out.valid.mono ?_; rintro e w5 ⟨rfl, hq⟩
        clear k0 k1 k2 k3
        have hS := Lib.hid (hS3.out.more hq)
        have hL := Lib.hid (hL3.out.more hq)
        have hN := Lib.hid (hN.out.more hq)
        have h76 : n7 ≤ n6 := by
          have e1 := congrArg List.length hL.out.eq
          have e2 := congrArg List.length hN.out.eq
          have e3 := hL.out.at_.len
          have e4 := hN.out.at_.len
          have e5 := hpre.out.length_le
          simp only [List.length_map] at e1 e2
          omega
        have h76i : ¬ (n6 : Int) < (n7 : Int) := by omega
        have h76d : decide ((n6 : Int) < (n7 : Int)) = false := by simp; omega
        clear hq hS3 hL3
        go_wp2_with fail
        go_loopw [103] (fun i wr => ∃ q : Nat, q ≤ n7 ∧ i = .int .i64 q ∧ Hid (StOk w n9 (j + 1) g C' (⟨p8, v8, m8, A8, n8, c8, l8⟩ : Cm) wr) ∧ Hid (KsAt wr g C A7 n7 c7 L) ∧ Hid (KsAt wr g C' A6 n6 c6 C6)) (fun i _ => n7 - (intOf i).toNat)
        case atStart => exact ⟨0, Nat.zero_le _, rfl, hS.out, hL.out, hN.out⟩
        clear hS hL hN
        case round =>
          obtain ⟨q, hqn, rfl, hS, hL, hN⟩ := hrel
          by_cases hql : q < n7
          · have hq0 : (0 : Int) ≤ q := by omega
            have hq1 : (q : Int) < n7 := by omega
            have hq2 : (q : Int) < n6 := by omega
            obtain ⟨ad7, hA7, -, t0⟩ := s_cell hL.out.at_ hql
            obtain ⟨ad6, hA6, -, y0⟩ := s_cell hN.out.at_ (show q < n6 by omega)
            have hl7 : q < L.length := by rw [hL.out.at_.len]; exact hql
            have hl6 : q < C6.length := by rw [hN.out.at_.len]; omega
            have hde : (L[q]).d = (C6[q]).d := by
              have e1 : (L.map (·.d))[q]? = (C6.map (·.d))[q]? := by
                rw [hL.out.eq, hN.out.eq]
                obtain ⟨tl, htl⟩ := hpre.out
                have hlc : q < (C.map (·.d)).length := by rw [← hL.out.eq, List.length_map]; exact hl7
                rw [← htl, List.map_append, List.getElem?_append_left hlc]
              rw [List.getElem?_map, List.getElem?_map, List.getElem?_eq_getElem hl7, List.getElem?_eq_getElem hl6] at e1
              exact Option.some.inj e1
            have hb7 := (hL.out.els _ (List.getElem_mem hl7)).at_
            have hb6 := (hN.out.els _ (List.getElem_mem hl6)).at_
            generalize L[q] = y7 at *
            generalize C6[q] = y6 at *
            obtain ⟨yA, yn, yc, yd⟩ := y7
            obtain ⟨uA, un, uc, ud⟩ := y6
            simp only at hde t0 y0 hb7 hb6
            subst hde
            have e1 := fun m => conv_bytes (c := yc) (hb7.more (below_drewN (Below.refl _ wr) m))
            have e2 := fun m => conv_bytes (c := uc) (hb6.more (below_drewN (Below.refl _ wr) m))
            clear hb7 hb6
            generalize (⟨yd.toArray⟩ : ByteArray) = str at *
            subst hA7
            subst hA6
            go_wp2_with fail
            go_quiet (fail)
            go_wp2_with fail
            go_roundw
            case rel => exact ⟨q + 1, by omega, by go_num, hS.out.more (below_drewN (Below.refl _ _) _), hL.out.more (below_drewN (Below.refl _ _) _), hN.out.more (below_drewN (Below.refl _ _) _)⟩
            case measure => simp [intOf]; omega
          · go_wp2_with fail
            go_roundw
            case rel => exact ⟨j + 1, C', _, A6, n6, c6, C6, by omega, by go_num, rfl, hS.out, hN.out⟩
            case measure => simp [intOf]; omega
      have hd2 : (s % 8 == 2) = false := by simp; omega
      by_cases hs3 : s % 8 = 3
      · have hd3 : (s % 8 == 3) = true := by simp; omega
        go_wp2_with fail
        refine (restart_any (⟨p9, v9, m9, A9, n9, c9, l9⟩ : Cm) (s / 16 % (n9 : Int)) wr hS.out.box.at_ (sm2_sm (hS.out.sm2 hm120))).mono ?_; rintro e w2 ⟨⟨k', rfl, hk', hv'⟩, hq⟩
        obtain ⟨p8, v8, m8, A8, n8, c8, l8⟩ := k'
        simp only [clV]
        obtain ⟨C', hpre, hi, -⟩ := call_inv hS.out.inv (⟨3, (s / 16 % (n9 : Int)), []⟩ : Oc)
        have hS2 : Hid (StOk w n9 (j + 1) g C' (⟨p8, v8, m8, A8, n8, c8, l8⟩ : Cm) ((((w2.setCell ⟨g, 0, none⟩ (Value.int .i64 p8)).setCell ⟨g, 1, none⟩ (Value.int .i64 v8)).setCell ⟨g, 2, none⟩ (Value.int .i64 m8)).setCell ⟨g, 3, none⟩ (Value.slice A8 n8 c8))) := StOk.next (d := ((⟨3, (s / 16 % (n9 : Int)), []⟩ : Oc)).d) hS.out hq hk' hv' hi (call_from hS.out.inv (⟨3, (s / 16 % (n9 : Int)), []⟩ : Oc))
        have hX2 := Lib.hid (hS.out.box.blk.below hq hS.out.box.blk.lt)
        have hL2 : Hid (KsAt ((((w2.setCell ⟨g, 0, none⟩ (Value.int .i64 p8)).setCell ⟨g, 1, none⟩ (Value.int .i64 v8)).setCell ⟨g, 2, none⟩ (Value.int .i64 m8)).setCell ⟨g, 3, none⟩ (Value.slice A8 n8 c8)) g C A7 n7 c7 L) := (hL.out.more hq).st (grown_set4 w2 g (Value.int .i64 p8) (Value.int .i64 v8) (Value.int .i64 m8) (Value.slice A8 n8 c8))
        replace hpre := Lib.hid hpre
        clear hk' hv' hi hq hS hL k0 k1 k2 k3 hM e0
        obtain ⟨k0, k1, k2, k3, z0, z1, z2, z3⟩ := (show w2.cell? ⟨g, 0, none⟩ = some (Value.int .i64 p9) ∧ w2.cell? ⟨g, 1, none⟩ = some (Value.int .i64 v9) ∧ w2.cell? ⟨g, 2, none⟩ = some (Value.int .i64 m9) ∧ w2.cell? ⟨g, 3, none⟩ = some (Value.slice A9 n9 c9) ∧ w2.frozen? ⟨g, 0, none⟩ = false ∧ w2.frozen? ⟨g, 1, none⟩ = false ∧ w2.frozen? ⟨g, 2, none⟩ = false ∧ w2.frozen? ⟨g, 3, none⟩ = false from ⟨hX2.out.cell 0, hX2.out.cell 1, hX2.out.cell 2, hX2.out.cell 3, hX2.out.frozen 0, hX2.out.frozen 1, hX2.out.frozen 2, hX2.out.frozen 3⟩)
        obtain ⟨m0, m1, m2, m3⟩ := (show ((((w2.setCell ⟨g, 0, none⟩ (Value.int .i64 p8)).setCell ⟨g, 1, none⟩ (Value.int .i64 v8)).setCell ⟨g, 2, none⟩ (Value.int .i64 m8)).setCell ⟨g, 3, none⟩ (Value.slice A8 n8 c8)).cell? ⟨g, 0, none⟩ = some (Value.int .i64 p8) ∧ ((((w2.setCell ⟨g, 0, none⟩ (Value.int .i64 p8)).setCell ⟨g, 1, none⟩ (Value.int .i64 v8)).setCell ⟨g, 2, none⟩ (Value.int .i64 m8)).setCell ⟨g, 3, none⟩ (Value.slice A8 n8 c8)).cell? ⟨g, 1, none⟩ = some (Value.int .i64 v8) ∧ ((((w2.setCell ⟨g, 0, none⟩ (Value.int .i64 p8)).setCell ⟨g, 1, none⟩ (Value.int .i64 v8)).setCell ⟨g, 2, none⟩ (Value.int .i64 m8)).setCell ⟨g, 3, none⟩ (Value.slice A8 n8 c8)).cell? ⟨g, 2, none⟩ = some (Value.int .i64 m8) ∧ ((((w2.setCell ⟨g, 0, none⟩ (Value.int .i64 p8)).setCell ⟨g, 1, none⟩ (Value.int .i64 v8)).setCell ⟨g, 2, none⟩ (Value.int .i64 m8)).setCell ⟨g, 3, none⟩ (Value.slice A8 n8 c8)).cell? ⟨g, 3, none⟩ = some (Value.slice A8 n8 c8) from ⟨hS2.out.box.blk.cell 0, hS2.out.box.blk.cell 1, hS2.out.box.blk.cell 2, hS2.out.box.blk.cell 3⟩)
        clear hX2
        go_wp2_with fail
        clear k0 k1 k2 k3 z0 z1 z2 z3 m0 m1 m2 m3
        generalize ((((w2.setCell ⟨g, 0, none⟩ (Value.int .i64 p8)).setCell ⟨g, 1, none⟩ (Value.int .i64 v8)).setCell ⟨g, 2, none⟩ (Value.int .i64 m8)).setCell ⟨g, 3, none⟩ (Value.slice A8 n8 c8)) = w3 at *
        refine (hS2.out.com (by omega)).mono ?_; rintro e w4 ⟨⟨A6, n6, c6, C6, rfl, hL6, hcp6, hQ6, hB6, hC6⟩, hq⟩
        have hg3 := hS2.out.box.blk.lt
        have hN : Hid (KsAt w4 g C' A6 n6 c6 C6) := ⟨hL6, hQ6.imp (fun b hb => by omega), fun b hb => (hB6 b hb).imp (fun b hb => by omega), hC6⟩
        have hmx : n6 ≤ 9223372036854775807 := by have := hcp6; simp only [maxLen] at this; omega
        have hS3 := Lib.hid (hS2.out.more hq)
        have hL3 := Lib.hid (hL2.out.more hq)
        clear hL6 hcp6 hQ6 hB6 hC6 hq hg3 hS2 hL2
        obtain ⟨k0, k1, k2, k3⟩ := (show w4.cell? ⟨g, 0, none⟩ = some (Value.int .i64 p8) ∧ w4.cell? ⟨g, 1, none⟩ = some (Value.int .i64 v8) ∧ w4.cell? ⟨g, 2, none⟩ = some (Value.int .i64 m8) ∧ w4.cell? ⟨g, 3, none⟩ = some (Value.slice A8 n8 c8) from ⟨hS3.out.box.blk.cell 0, hS3.out.box.blk.cell 1, hS3.out.box.blk.cell 2, hS3.out.box.blk.cell 3⟩)
        go_wp2_with fail
        refine hS3.out.valid.mono ?_; rintro e w5 ⟨rfl, hq⟩
        clear k0 k1 k2 k3
        have hS := Lib.hid (hS3.out.more hq)
        have hL := Lib.hid (hL3.out.more hq)
        have hN := Lib.hid (hN.out.more hq)
        have h76 : n7 ≤ n6 := by
          have e1 := congrArg List.length hL.out.eq
          have e2 := congrArg List.length hN.out.eq
          have e3 := hL.out.at_.len
          have e4 := hN.out.at_.len
          have e5 := hpre.out.length_le
          simp only [List.length_map] at e1 e2
          omega
        have h76i : ¬ (n6 : Int) < (n7 : Int) := by omega
        have h76d : decide ((n6 : Int) < (n7 : Int)) = false := by simp; omega
        clear hq hS3 hL3
        go_wp2_with fail
        go_loopw [103] (fun i wr => ∃ q : Nat, q ≤ n7 ∧ i = .int .i64 q ∧ Hid (StOk w n9 (j + 1) g C' (⟨p8, v8, m8, A8, n8, c8, l8⟩ : Cm) wr) ∧ Hid (KsAt wr g C A7 n7 c7 L) ∧ Hid (KsAt wr g C' A6 n6 c6 C6)) (fun i _ => n7 - (intOf i).toNat)
        case atStart => exact ⟨0, Nat.zero_le _, rfl, hS.out, hL.out, hN.out⟩
        clear hS hL hN
        case round =>
          obtain ⟨q, hqn, rfl, hS, hL, hN⟩ := hrel
          by_cases hql : q < n7
          · have hq0 : (0 : Int) ≤ q := by omega
            have hq1 : (q : Int) < n7 := by omega
            have hq2 : (q : Int) < n6 := by omega
            obtain ⟨ad7, hA7, -, t0⟩ := s_cell hL.out.at_ hql
            obtain ⟨ad6, hA6, -, y0⟩ := s_cell hN.out.at_ (show q < n6 by omega)
            have hl7 : q < L.length := by rw [hL.out.at_.len]; exact hql
            have hl6 : q < C6.length := by rw [hN.out.at_.len]; omega
            have hde : (L[q]).d = (C6[q]).d := by
              have e1 : (L.map (·.d))[q]? = (C6.map (·.d))[q]? := by
                rw [hL.out.eq, hN.out.eq]
                obtain ⟨tl, htl⟩ := hpre.out
                have hlc : q < (C.map (·.d)).length := by rw [← hL.out.eq, List.length_map]; exact hl7
                rw [← htl, List.map_append, List.getElem?_append_left hlc]
              rw [List.getElem?_map, List.getElem?_map, List.getElem?_eq_getElem hl7, List.getElem?_eq_getElem hl6] at e1
              exact Option.some.inj e1
            have hb7 := (hL.out.els _ (List.getElem_mem hl7)).at_
            have hb6 := (hN.out.els _ (List.getElem_mem hl6)).at_
            generalize L[q] = y7 at *
            generalize C6[q] = y6 at *
            obtain ⟨yA, yn, yc, yd⟩ := y7
            obtain ⟨uA, un, uc, ud⟩ := y6
            simp only at hde t0 y0 hb7 hb6
            subst hde
            have e1 := fun m => conv_bytes (c := yc) (hb7.more (below_drewN (Below.refl _ wr) m))
            have e2 := fun m => conv_bytes (c := uc) (hb6.more (below_drewN (Below.refl _ wr) m))
            clear hb7 hb6
            generalize (⟨yd.toArray⟩ : ByteArray) = str at *
            subst hA7
            subst hA6
            go_wp2_with fail
            go_quiet (fail)
            go_wp2_with fail
            go_roundw
            case rel => exact ⟨q + 1, by omega, by go_num, hS.out.more (below_drewN (Below.refl _ _) _), hL.out.more (below_drewN (Below.refl _ _) _), hN.out.more (below_drewN (Below.refl _ _) _)⟩
            case measure => simp [intOf]; omega
          · go_wp2_with fail
            go_roundw
            case rel => exact ⟨j + 1, C', _, A6, n6, c6, C6, by omega, by go_num, rfl, hS.out, hN.out⟩
            case measure => simp [intOf]; omega
      have hd3 : (s % 8 == 3) = false := by simp; omega
      by_cases hs4 : s % 8 = 4
      · have hd4 : (s % 8 == 4) = true := by simp; omega
        go_wp2_with fail
        refine (tick_any (⟨p9, v9, m9, A9, n9, c9, l9⟩ : Cm) wr hS.out.box.at_ (hS.out.sm2 hm120) hS.out.hp1 hS.out.hv hS.out.hpu).mono ?_; rintro e w2 ⟨⟨k', rfl, hk', hv'⟩, hq⟩
        obtain ⟨p8, v8, m8, A8, n8, c8, l8⟩ := k'
        simp only [clV]
        obtain ⟨C', hpre, hi, -⟩ := call_inv hS.out.inv (⟨4, 0, []⟩ : Oc)
        have hS2 : Hid (StOk w n9 (j + 1) g C' (⟨p8, v8, m8, A8, n8, c8, l8⟩ : Cm) ((((w2.setCell ⟨g, 0, none⟩ (Value.int .i64 p8)).setCell ⟨g, 1, none⟩ (Value.int .i64 v8)).setCell ⟨g, 2, none⟩ (Value.int .i64 m8)).setCell ⟨g, 3, none⟩ (Value.slice A8 n8 c8))) := StOk.next (d := ((⟨4, 0, []⟩ : Oc)).d) hS.out hq hk' hv' hi (call_from hS.out.inv (⟨4, 0, []⟩ : Oc))
        have hX2 := Lib.hid (hS.out.box.blk.below hq hS.out.box.blk.lt)
        have hL2 : Hid (KsAt ((((w2.setCell ⟨g, 0, none⟩ (Value.int .i64 p8)).setCell ⟨g, 1, none⟩ (Value.int .i64 v8)).setCell ⟨g, 2, none⟩ (Value.int .i64 m8)).setCell ⟨g, 3, none⟩ (Value.slice A8 n8 c8)) g C A7 n7 c7 L) := (hL.out.more hq).st (grown_set4 w2 g (Value.int .i64 p8) (Value.int .i64 v8) (Value.int .i64 m8) (Value.slice A8 n8 c8))
        replace hpre := Lib.hid hpre
        clear hk' hv' hi hq hS hL k0 k1 k2 k3 hM e0
        obtain ⟨k0, k1, k2, k3, z0, z1, z2, z3⟩ := (show w2.cell? ⟨g, 0, none⟩ = some (Value.int .i64 p9) ∧ w2.cell? ⟨g, 1, none⟩ = some (Value.int .i64 v9) ∧ w2.cell? ⟨g, 2, none⟩ = some (Value.int .i64 m9) ∧ w2.cell? ⟨g, 3, none⟩ = some (Value.slice A9 n9 c9) ∧ w2.frozen? ⟨g, 0, none⟩ = false ∧ w2.frozen? ⟨g, 1, none⟩ = false ∧ w2.frozen? ⟨g, 2, none⟩ = false ∧ w2.frozen? ⟨g, 3, none⟩ = false from ⟨hX2.out.cell 0, hX2.out.cell 1, hX2.out.cell 2, hX2.out.cell 3, hX2.out.frozen 0, hX2.out.frozen 1, hX2.out.frozen 2, hX2.out.frozen 3⟩)
        obtain ⟨m0, m1, m2, m3⟩ := (show ((((w2.setCell ⟨g, 0, none⟩ (Value.int .i64 p8)).setCell ⟨g, 1, none⟩ (Value.int .i64 v8)).setCell ⟨g, 2, none⟩ (Value.int .i64 m8)).setCell ⟨g, 3, none⟩ (Value.slice A8 n8 c8)).cell? ⟨g, 0, none⟩ = some (Value.int .i64 p8) ∧ ((((w2.setCell ⟨g, 0, none⟩ (Value.int .i64 p8)).setCell ⟨g, 1, none⟩ (Value.int .i64 v8)).setCell ⟨g, 2, none⟩ (Value.int .i64 m8)).setCell ⟨g, 3, none⟩ (Value.slice A8 n8 c8)).cell? ⟨g, 1, none⟩ = some (Value.int .i64 v8) ∧ ((((w2.setCell ⟨g, 0, none⟩ (Value.int .i64 p8)).setCell ⟨g, 1, none⟩ (Value.int .i64 v8)).setCell ⟨g, 2, none⟩ (Value.int .i64 m8)).setCell ⟨g, 3, none⟩ (Value.slice A8 n8 c8)).cell? ⟨g, 2, none⟩ = some (Value.int .i64 m8) ∧ ((((w2.setCell ⟨g, 0, none⟩ (Value.int .i64 p8)).setCell ⟨g, 1, none⟩ (Value.int .i64 v8)).setCell ⟨g, 2, none⟩ (Value.int .i64 m8)).setCell ⟨g, 3, none⟩ (Value.slice A8 n8 c8)).cell? ⟨g, 3, none⟩ = some (Value.slice A8 n8 c8) from ⟨hS2.out.box.blk.cell 0, hS2.out.box.blk.cell 1, hS2.out.box.blk.cell 2, hS2.out.box.blk.cell 3⟩)
        clear hX2
        go_wp2_with fail
        clear k0 k1 k2 k3 z0 z1 z2 z3 m0 m1 m2 m3
        generalize ((((w2.setCell ⟨g, 0, none⟩ (Value.int .i64 p8)).setCell ⟨g, 1, none⟩ (Value.int .i64 v8)).setCell ⟨g, 2, none⟩ (Value.int .i64 m8)).setCell ⟨g, 3, none⟩ (Value.slice A8 n8 c8)) = w3 at *
        refine (hS2.out.com (by omega)).mono ?_; rintro e w4 ⟨⟨A6, n6, c6, C6, rfl, hL6, hcp6, hQ6, hB6, hC6⟩, hq⟩
        have hg3 := hS2.out.box.blk.lt
        have hN : Hid (KsAt w4 g C' A6 n6 c6 C6) := ⟨hL6, hQ6.imp (fun b hb => by omega), fun b hb => (hB6 b hb).imp (fun b hb => by omega), hC6⟩
        have hmx : n6 ≤ 9223372036854775807 := by have := hcp6; simp only [maxLen] at this; omega
        have hS3 := Lib.hid (hS2.out.more hq)
        have hL3 := Lib.hid (hL2.out.more hq)
        clear hL6 hcp6 hQ6 hB6 hC6 hq hg3 hS2 hL2
        obtain ⟨k0, k1, k2, k3⟩ := (show w4.cell? ⟨g, 0, none⟩ = some (Value.int .i64 p8) ∧ w4.cell? ⟨g, 1, none⟩ = some (Value.int .i64 v8) ∧ w4.cell? ⟨g, 2, none⟩ = some (Value.int .i64 m8) ∧ w4.cell? ⟨g, 3, none⟩ = some (Value.slice A8 n8 c8) from ⟨hS3.out.box.blk.cell 0, hS3.out.box.blk.cell 1, hS3.out.box.blk.cell 2, hS3.out.box.blk.cell 3⟩)
        go_wp2_with fail
        refine hS3.out.valid.mono ?_; rintro e w5 ⟨rfl, hq⟩
        clear k0 k1 k2 k3
        have hS := Lib.hid (hS3.out.more hq)
        have hL := Lib.hid (hL3.out.more hq)
        have hN := Lib.hid (hN.out.more hq)
        have h76 : n7 ≤ n6 := by
          have e1 := congrArg List.length hL.out.eq
          have e2 := congrArg List.length hN.out.eq
          have e3 := hL.out.at_.len
          have e4 := hN.out.at_.len
          have e5 := hpre.out.length_le
          simp only [List.length_map] at e1 e2
          omega
        have h76i : ¬ (n6 : Int) < (n7 : Int) := by omega
        have h76d : decide ((n6 : Int) < (n7 : Int)) = false := by simp; omega
        clear hq hS3 hL3
        go_wp2_with fail
        go_loopw [103] (fun i wr => ∃ q : Nat, q ≤ n7 ∧ i = .int .i64 q ∧ Hid (StOk w n9 (j + 1) g C' (⟨p8, v8, m8, A8, n8, c8, l8⟩ : Cm) wr) ∧ Hid (KsAt wr g C A7 n7 c7 L) ∧ Hid (KsAt wr g C' A6 n6 c6 C6)) (fun i _ => n7 - (intOf i).toNat)
        case atStart => exact ⟨0, Nat.zero_le _, rfl, hS.out, hL.out, hN.out⟩
        clear hS hL hN
        case round =>
          obtain ⟨q, hqn, rfl, hS, hL, hN⟩ := hrel
          by_cases hql : q < n7
          · have hq0 : (0 : Int) ≤ q := by omega
            have hq1 : (q : Int) < n7 := by omega
            have hq2 : (q : Int) < n6 := by omega
            obtain ⟨ad7, hA7, -, t0⟩ := s_cell hL.out.at_ hql
            obtain ⟨ad6, hA6, -, y0⟩ := s_cell hN.out.at_ (show q < n6 by omega)
            have hl7 : q < L.length := by rw [hL.out.at_.len]; exact hql
            have hl6 : q < C6.length := by rw [hN.out.at_.len]; omega
            have hde : (L[q]).d = (C6[q]).d := by
              have e1 : (L.map (·.d))[q]? = (C6.map (·.d))[q]? := by
                rw [hL.out.eq, hN.out.eq]
                obtain ⟨tl, htl⟩ := hpre.out
                have hlc : q < (C.map (·.d)).length := by rw [← hL.out.eq, List.length_map]; exact hl7
                rw [← htl, List.map_append, List.getElem?_append_left hlc]
              rw [List.getElem?_map, List.getElem?_map, List.getElem?_eq_getElem hl7, List.getElem?_eq_getElem hl6] at e1
              exact Option.some.inj e1
            have hb7 := (hL.out.els _ (List.getElem_mem hl7)).at_
            have hb6 := (hN.out.els _ (List.getElem_mem hl6)).at_
            generalize L[q] = y7 at *
            generalize C6[q] = y6 at *
            obtain ⟨yA, yn, yc, yd⟩ := y7
            obtain ⟨uA, un, uc, ud⟩ := y6
            simp only at hde t0 y0 hb7 hb6
            subst hde
            have e1 := fun m => conv_bytes (c := yc) (hb7.more (below_drewN (Below.refl _ wr) m))
            have e2 := fun m => conv_bytes (c := uc) (hb6.more (below_drewN (Below.refl _ wr) m))
            clear hb7 hb6
            generalize (⟨yd.toArray⟩ : ByteArray) = str at *
            subst hA7
            subst hA6
            go_wp2_with fail
            go_quiet (fail)
            go_wp2_with fail
            go_roundw
            case rel => exact ⟨q + 1, by omega, by go_num, hS.out.more (below_drewN (Below.refl _ _) _), hL.out.more (below_drewN (Below.refl _ _) _), hN.out.more (below_drewN (Below.refl _ _) _)⟩
            case measure => simp [intOf]; omega
          · go_wp2_with fail
            go_roundw
            case rel => exact ⟨j + 1, C', _, A6, n6, c6, C6, by omega, by go_num, rfl, hS.out, hN.out⟩
            case measure => simp [intOf]; omega
      have hd4 : (s % 8 == 4) = false := by simp; omega
      obtain ⟨b1, hb1⟩ : ∃ b : UInt8, (j : Int) = (b.toNat : Int) := ⟨UInt8.ofNat j, by simp; omega⟩
      replace hb1 := Lib.hid hb1
      obtain ⟨b2, hb2⟩ : ∃ b : UInt8, s % 256 = (b.toNat : Int) := ⟨UInt8.ofNat s.toNat, by simp; omega⟩
      have hqw : Below wr.heap.size wr (wr.alloc (.cells #[.int .u8 (j : Int), .int .u8 (b2.toNat : Int)] 5)) := a1 wr _
      have hSw := Lib.hid (hS.out.more hqw)
      have hLw := Lib.hid (hL.out.more hqw)
      have hdat : Hid (BAt (wr.alloc (.cells #[.int .u8 (j : Int), .int .u8 (b2.toNat : Int)] 5)) (wr.alloc (.cells #[.int .u8 (j : Int), .int .u8 (b2.toNat : Int)] 5)).heap.size (some ⟨wr.heap.size, 0, none⟩) 2 [b1, b2]) := lat_row bC_len (heap_alloc_new wr (.cells #[.int .u8 (j : Int), .int .u8 (b2.toNat : Int)] 5)) [b1, b2] (by show [Value.int .u8 (j : Int), Value.int .u8 (b2.toNat : Int)] = [Value.int .u8 (b1.toNat : Int), Value.int .u8 (b2.toNat : Int)]; rw [hb1.out])
      clear hqw
      go_wp2_with fail
      refine (submit_any (⟨p9, v9, m9, A9, n9, c9, l9⟩ : Cm) _ _ [b1, b2] (s / 256 % 9) (wr.alloc (.cells #[.int .u8 (j : Int), .int .u8 (b2.toNat : Int)] 5)) hSw.out.box.at_ (hSw.out.sm2 hm120) hSw.out.hp1 hdat.out).mono ?_; rintro e w2 ⟨⟨k', rfl, hk', hv'⟩, hq⟩
      obtain ⟨p8, v8, m8, A8, n8, c8, l8⟩ := k'
      simp only [clV]
      obtain ⟨C', hpre, hi, -⟩ := call_inv hSw.out.inv (⟨1, s / 256 % 9, [b1, b2]⟩ : Oc)
      have hS2 : Hid (StOk w n9 (j + 1) g C' (⟨p8, v8, m8, A8, n8, c8, l8⟩ : Cm) ((((w2.setCell ⟨g, 0, none⟩ (Value.int .i64 p8)).setCell ⟨g, 1, none⟩ (Value.int .i64 v8)).setCell ⟨g, 2, none⟩ (Value.int .i64 m8)).setCell ⟨g, 3, none⟩ (Value.slice A8 n8 c8))) := StOk.next (d := ((⟨1, s / 256 % 9, [b1, b2]⟩ : Oc)).d) hSw.out hq hk' hv' hi (call_from hSw.out.inv (⟨1, s / 256 % 9, [b1, b2]⟩ : Oc))
      have hX2 := Lib.hid (hSw.out.box.blk.below hq hSw.out.box.blk.lt)
      have hL2 : Hid (KsAt ((((w2.setCell ⟨g, 0, none⟩ (Value.int .i64 p8)).setCell ⟨g, 1, none⟩ (Value.int .i64 v8)).setCell ⟨g, 2, none⟩ (Value.int .i64 m8)).setCell ⟨g, 3, none⟩ (Value.slice A8 n8 c8)) g C A7 n7 c7 L) := (hLw.out.more hq).st (grown_set4 w2 g (Value.int .i64 p8) (Value.int .i64 v8) (Value.int .i64 m8) (Value.slice A8 n8 c8))
      replace hpre := Lib.hid hpre
      clear hk' hv' hi hq hS hL k0 k1 k2 k3 hM e0 hSw hLw
      obtain ⟨k0, k1, k2, k3, z0, z1, z2, z3⟩ := (show w2.cell? ⟨g, 0, none⟩ = some (Value.int .i64 p9) ∧ w2.cell? ⟨g, 1, none⟩ = some (Value.int .i64 v9) ∧ w2.cell? ⟨g, 2, none⟩ = some (Value.int .i64 m9) ∧ w2.cell? ⟨g, 3, none⟩ = some (Value.slice A9 n9 c9) ∧ w2.frozen? ⟨g, 0, none⟩ = false ∧ w2.frozen? ⟨g, 1, none⟩ = false ∧ w2.frozen? ⟨g, 2, none⟩ = false ∧ w2.frozen? ⟨g, 3, none⟩ = false from ⟨hX2.out.cell 0, hX2.out.cell 1, hX2.out.cell 2, hX2.out.cell 3, hX2.out.frozen 0, hX2.out.frozen 1, hX2.out.frozen 2, hX2.out.frozen 3⟩)
      obtain ⟨m0, m1, m2, m3⟩ := (show ((((w2.setCell ⟨g, 0, none⟩ (Value.int .i64 p8)).setCell ⟨g, 1, none⟩ (Value.int .i64 v8)).setCell ⟨g, 2, none⟩ (Value.int .i64 m8)).setCell ⟨g, 3, none⟩ (Value.slice A8 n8 c8)).cell? ⟨g, 0, none⟩ = some (Value.int .i64 p8) ∧ ((((w2.setCell ⟨g, 0, none⟩ (Value.int .i64 p8)).setCell ⟨g, 1, none⟩ (Value.int .i64 v8)).setCell ⟨g, 2, none⟩ (Value.int .i64 m8)).setCell ⟨g, 3, none⟩ (Value.slice A8 n8 c8)).cell? ⟨g, 1, none⟩ = some (Value.int .i64 v8) ∧ ((((w2.setCell ⟨g, 0, none⟩ (Value.int .i64 p8)).setCell ⟨g, 1, none⟩ (Value.int .i64 v8)).setCell ⟨g, 2, none⟩ (Value.int .i64 m8)).setCell ⟨g, 3, none⟩ (Value.slice A8 n8 c8)).cell? ⟨g, 2, none⟩ = some (Value.int .i64 m8) ∧ ((((w2.setCell ⟨g, 0, none⟩ (Value.int .i64 p8)).setCell ⟨g, 1, none⟩ (Value.int .i64 v8)).setCell ⟨g, 2, none⟩ (Value.int .i64 m8)).setCell ⟨g, 3, none⟩ (Value.slice A8 n8 c8)).cell? ⟨g, 3, none⟩ = some (Value.slice A8 n8 c8) from ⟨hS2.out.box.blk.cell 0, hS2.out.box.blk.cell 1, hS2.out.box.blk.cell 2, hS2.out.box.blk.cell 3⟩)
      clear hX2
      go_wp2_with fail
      clear k0 k1 k2 k3 z0 z1 z2 z3 m0 m1 m2 m3
      generalize ((((w2.setCell ⟨g, 0, none⟩ (Value.int .i64 p8)).setCell ⟨g, 1, none⟩ (Value.int .i64 v8)).setCell ⟨g, 2, none⟩ (Value.int .i64 m8)).setCell ⟨g, 3, none⟩ (Value.slice A8 n8 c8)) = w3 at *
      refine (hS2.out.com (by omega)).mono ?_; rintro e w4 ⟨⟨A6, n6, c6, C6, rfl, hL6, hcp6, hQ6, hB6, hC6⟩, hq⟩
      have hg3 := hS2.out.box.blk.lt
      have hN : Hid (KsAt w4 g C' A6 n6 c6 C6) := ⟨hL6, hQ6.imp (fun b hb => by omega), fun b hb => (hB6 b hb).imp (fun b hb => by omega), hC6⟩
      have hmx : n6 ≤ 9223372036854775807 := by have := hcp6; simp only [maxLen] at this; omega
      have hS3 := Lib.hid (hS2.out.more hq)
      have hL3 := Lib.hid (hL2.out.more hq)
      clear hL6 hcp6 hQ6 hB6 hC6 hq hg3 hS2 hL2
      obtain ⟨k0, k1, k2, k3⟩ := (show w4.cell? ⟨g, 0, none⟩ = some (Value.int .i64 p8) ∧ w4.cell? ⟨g, 1, none⟩ = some (Value.int .i64 v8) ∧ w4.cell? ⟨g, 2, none⟩ = some (Value.int .i64 m8) ∧ w4.cell? ⟨g, 3, none⟩ = some (Value.slice A8 n8 c8) from ⟨hS3.out.box.blk.cell 0, hS3.out.box.blk.cell 1, hS3.out.box.blk.cell 2, hS3.out.box.blk.cell 3⟩)
      go_wp2_with fail
      refine hS3.out.valid.mono ?_; rintro e w5 ⟨rfl, hq⟩
      clear k0 k1 k2 k3
      have hS := Lib.hid (hS3.out.more hq)
      have hL := Lib.hid (hL3.out.more hq)
      have hN := Lib.hid (hN.out.more hq)
      have h76 : n7 ≤ n6 := by
        have e1 := congrArg List.length hL.out.eq
        have e2 := congrArg List.length hN.out.eq
        have e3 := hL.out.at_.len
        have e4 := hN.out.at_.len
        have e5 := hpre.out.length_le
        simp only [List.length_map] at e1 e2
        omega
      have h76i : ¬ (n6 : Int) < (n7 : Int) := by omega
      have h76d : decide ((n6 : Int) < (n7 : Int)) = false := by simp; omega
      clear hq hS3 hL3
      go_wp2_with fail
      go_loopw [103] (fun i wr => ∃ q : Nat, q ≤ n7 ∧ i = .int .i64 q ∧ Hid (StOk w n9 (j + 1) g C' (⟨p8, v8, m8, A8, n8, c8, l8⟩ : Cm) wr) ∧ Hid (KsAt wr g C A7 n7 c7 L) ∧ Hid (KsAt wr g C' A6 n6 c6 C6)) (fun i _ => n7 - (intOf i).toNat)
      case atStart => exact ⟨0, Nat.zero_le _, rfl, hS.out, hL.out, hN.out⟩
      clear hS hL hN
      case round =>
        obtain ⟨q, hqn, rfl, hS, hL, hN⟩ := hrel
        by_cases hql : q < n7
        · have hq0 : (0 : Int) ≤ q := by omega
          have hq1 : (q : Int) < n7 := by omega
          have hq2 : (q : Int) < n6 := by omega
          obtain ⟨ad7, hA7, -, t0⟩ := s_cell hL.out.at_ hql
          obtain ⟨ad6, hA6, -, y0⟩ := s_cell hN.out.at_ (show q < n6 by omega)
          have hl7 : q < L.length := by rw [hL.out.at_.len]; exact hql
          have hl6 : q < C6.length := by rw [hN.out.at_.len]; omega
          have hde : (L[q]).d = (C6[q]).d := by
            have e1 : (L.map (·.d))[q]? = (C6.map (·.d))[q]? := by
              rw [hL.out.eq, hN.out.eq]
              obtain ⟨tl, htl⟩ := hpre.out
              have hlc : q < (C.map (·.d)).length := by rw [← hL.out.eq, List.length_map]; exact hl7
              rw [← htl, List.map_append, List.getElem?_append_left hlc]
            rw [List.getElem?_map, List.getElem?_map, List.getElem?_eq_getElem hl7, List.getElem?_eq_getElem hl6] at e1
            exact Option.some.inj e1
          have hb7 := (hL.out.els _ (List.getElem_mem hl7)).at_
          have hb6 := (hN.out.els _ (List.getElem_mem hl6)).at_
          generalize L[q] = y7 at *
          generalize C6[q] = y6 at *
          obtain ⟨yA, yn, yc, yd⟩ := y7
          obtain ⟨uA, un, uc, ud⟩ := y6
          simp only at hde t0 y0 hb7 hb6
          subst hde
          have e1 := fun m => conv_bytes (c := yc) (hb7.more (below_drewN (Below.refl _ wr) m))
          have e2 := fun m => conv_bytes (c := uc) (hb6.more (below_drewN (Below.refl _ wr) m))
          clear hb7 hb6
          generalize (⟨yd.toArray⟩ : ByteArray) = str at *
          subst hA7
          subst hA6
          go_wp2_with fail
          go_quiet (fail)
          go_wp2_with fail
          go_roundw
          case rel => exact ⟨q + 1, by omega, by go_num, hS.out.more (below_drewN (Below.refl _ _) _), hL.out.more (below_drewN (Below.refl _ _) _), hN.out.more (below_drewN (Below.refl _ _) _)⟩
          case measure => simp [intOf]; omega
        · go_wp2_with fail
          go_roundw
          case rel => exact ⟨j + 1, C', _, A6, n6, c6, C6, by omega, by go_num, rfl, hS.out, hN.out⟩
          case measure => simp [intOf]; omega
    · go_wp2_with fail
      go_ret
      exact ⟨rfl, hS.out.below⟩
end Go.Proofs.Ytiapeenfggjpnaa
