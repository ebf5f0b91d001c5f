/- The law SessionsBill, walked (the first reading). -/
import Derived.Test.YtbngclibfnnejaaDoorBX
set_option linter.unusedVariables false
set_option linter.unusedSimpArgs false
namespace Go.Proofs.YtbngclibfnnejaaDoor
open Go.RowKit
set_option maxRecDepth 100000 in
set_option maxHeartbeats 8000000 in
theorem law0 (A : Option Addr) (n c : Nat) (L : List Rd) (cost rate dr : Int) (w : World) (hg : GlobOk w) (h : RdAt w A n L) (hnc : n ≤ c ∧ c ≤ maxLen) (hd : 0 ≤ dr ∧ dr ≤ 255) (hk9 : dr.tmod (n : Int) = 0) : Calls Tryd.prog 3 #[.slice A n c, .int .i64 cost, .int .i64 rate, .int .u8 dr] w fun e w' => e = .returned (.bool true) ∧ Below w.heap.size w w' := by
  obtain ⟨ad, had⟩ : ∃ ad, ad = A.getD ⟨0, 0, none⟩ := ⟨_, rfl⟩
  obtain ⟨vg, hvg⟩ : ∃ vg, vg = vGo none L := ⟨_, rfl⟩
  obtain ⟨first, hfi⟩ : ∃ t, firstA L = t := ⟨_, rfl⟩
  obtain ⟨last, hlaa⟩ : ∃ t, lastA L = t := ⟨_, rfl⟩
  obtain ⟨b1, hb1⟩ : ∃ b, decide ((60 : Int) < n) = b := ⟨_, rfl⟩
  obtain ⟨c2, hc2⟩ : ∃ b, ((n : Int) == 0) = b := ⟨_, rfl⟩
  obtain ⟨c3, hc3⟩ : ∃ b, decide (cost < 0) = b := ⟨_, rfl⟩
  obtain ⟨c4, hc4⟩ : ∃ b, decide (100000 < cost) = b := ⟨_, rfl⟩
  obtain ⟨c5, hc5⟩ : ∃ b, decide (rate < 0) = b := ⟨_, rfl⟩
  obtain ⟨c6, hc6⟩ : ∃ b, decide (10000 < rate) = b := ⟨_, rfl⟩
  obtain ⟨c7, hc7⟩ : ∃ b, (vg != 0) = b := ⟨_, rfl⟩
  obtain ⟨c8, hc8⟩ : ∃ b, decide (3000 < last - first) = b := ⟨_, rfl⟩
  obtain ⟨b2, hb2⟩ : ∃ b, b = (b1 || c2) := ⟨_, rfl⟩
  obtain ⟨b3, hb3⟩ : ∃ b, b = (b2 || c3) := ⟨_, rfl⟩
  obtain ⟨b4, hb4⟩ : ∃ b, b = (b3 || c4) := ⟨_, rfl⟩
  obtain ⟨b5, hb5⟩ : ∃ b, b = (b4 || c5) := ⟨_, rfl⟩
  obtain ⟨b6, hb6⟩ : ∃ b, b = (b5 || c6) := ⟨_, rfl⟩
  obtain ⟨b7, hb7⟩ : ∃ b, b = (b6 || c7) := ⟨_, rfl⟩
  obtain ⟨b8, hb8⟩ : ∃ b, b = (b7 || c8) := ⟨_, rfl⟩
  obtain ⟨k6, k7, k8⟩ := guards hb1 hc2 hc3 hc4 hc5 hc6 hc7 hc8 hb2 hb3 hb4 hb5 hb6 hb7 hb8
  have hl := Lib.hid h.len
  have hA : Hid (b7 = false → A = some ad) := fun e => by
    obtain ⟨a, ha, -, -⟩ := h.at_ (show 0 < n by have := k7 e; omega)
    rw [had, ha]
    rfl
  have hn : Hid (b7 = false → 1 ≤ n ∧ n ≤ 60 ∧ vg = 0) := k7
  have hp : Hid (b7 = false → (0 ≤ first ∧ first ≤ 268435456) ∧ (0 ≤ last ∧ last ≤ 268435456)) := fun e => by
    have h9 := k7 e
    have hp0 : 0 < L.length := by have := hl.out; omega
    have hv9 : vGo none L = 0 := by rw [← hvg]; omega
    have a := okR_reg (vGo_ok L none hv9 _ (List.getElem_mem hp0))
    have b := okR_reg (vGo_ok L none hv9 _ (List.getElem_mem (show L.length - 1 < L.length by omega)))
    rw [← hfi, ← hlaa, firstA_eq hp0, lastA_eq hp0]
    omega
  have hcell0 : Hid (b7 = false → ∀ wz, Below w.heap.size w wz → wz.cell? (ad.add ((n - 1) * 2)) = some (Value.int .i64 last) ∧ wz.cell? ad = some (Value.int .i64 first)) := fun e wz hz => by
    have h9 := k7 e
    have hp0 : 0 < L.length := by have := hl.out; omega
    obtain ⟨a, ha, -, e0, -⟩ := rd_cells h (k := 0) (by omega)
    obtain ⟨a', ha', -, e1, -⟩ := rd_cells h (k := n - 1) (by omega)
    rw [hA.out e] at ha ha'
    injection ha with ha
    injection ha' with ha'
    subst ha ha'
    rw [Nat.zero_mul, add_none] at e0
    refine ⟨(hz.cell (lt_of_cell e1)).trans (e1.trans ?_), (hz.cell (lt_of_cell e0)).trans (e0.trans ?_)⟩
    · rw [← hlaa, lastA_eq hp0]
      have hln := hl.out
      subst hln
      rfl
    · rw [← hfi, firstA_eq hp0]
  have hval : Hid (b6 = false → ∀ wz, Below w.heap.size w wz → Calls Tryd.prog 4 #[.slice A n c, .int .i64 1000000] wz fun e w' => e = .returned (.int .i64 vg) ∧ Below wz.heap.size wz w') := fun e wz hz => by
    have h9 := k6 e
    rw [hvg]
    exact uvalid_any A n c L wz (LAt.more h hz) h9.1 h9.2
  have hall : Hid (b8 = false → b7 = false ∧ 1 ≤ n ∧ n ≤ 60 ∧ vGo none L = 0 ∧ 0 ≤ cost ∧ cost ≤ 100000 ∧ 0 ≤ rate ∧ rate ≤ 10000 ∧ lastA L - firstA L ≤ 3000) := by
    rw [hfi, hlaa]
    intro e
    obtain ⟨a1, a2, a3, a4, a5⟩ := k8 e
    exact ⟨a1, a2, a3, by rw [← hvg]; exact a4, a5⟩
  have hA2 := hA
  have hcell := hcell0
  have hcell2 := hcell0
  have hp2 := hp
  replace hd := Lib.hid hd
  replace hg := Lib.hid hg
  replace h := Lib.hid h
  replace hnc := Lib.hid hnc
  replace hk9 := Lib.hid hk9
  replace hfi := Lib.hid hfi
  replace hb1 := Lib.hid hb1
  replace hb2 := Lib.hid hb2
  replace hb3 := Lib.hid hb3
  replace hb4 := Lib.hid hb4
  replace hb5 := Lib.hid hb5
  replace hb6 := Lib.hid hb6
  replace hb7 := Lib.hid hb7
  replace hb8 := Lib.hid hb8
  replace hc2 := Lib.hid hc2
  replace hc3 := Lib.hid hc3
  replace hc4 := Lib.hid hc4
  replace hc5 := Lib.hid hc5
  replace hc6 := Lib.hid hc6
  replace hc7 := Lib.hid hc7
  replace hc8 := Lib.hid hc8
  clear k6 k7 k8 had hvg hlaa
  go_enter Tryd.func3, Tryd.ntmps3
  go_wp2_with fail
  refine RM.region [] [] (F := F3a A ad n c cost rate vg first last b1 b2 b3 b4 b5 b6 b7 b8 c2 c3 c4 c5 c6 c7 c8) (W := fun wz => Below w.heap.size w wz) (R := fun _ => Rb) (S := noS) (G := noG) rfl F3a_more (fun _ _ _ _ _ _ _ => trivial) (fun _ _ _ _ _ h => h.elim) (fun _ _ _ _ _ h => h.elim) (by kernel_rfl) (by kernel_rfl) (by kernel_rfl) (by kernel_rfl) (by kernel_rfl) ?_ ?_ ?_ (by kernel_rfl) ?_
  · exact (Below.refl _ _).drew
  · intro t ht
    unfold F3a
    split <;> first | trivial | exact rfl | (exact absurd ht (by decide))
  · simp only [List.forall_mem_cons, List.not_mem_nil, false_implies, implies_true, and_true]
    refine ⟨?_, ?_, ?_, ?_, ?_, ?_, ?_, ?_, ?_, ?_, ?_, ?_, ?_, ?_, ?_, ?_, ?_, ?_, ?_, ?_, ?_, ?_, ?_, ?_, ?_, ?_, ?_, ?_, ?_, ?_, ?_, ?_, ?_, ?_, ?_, ?_, ?_, ?_, ?_, ?_, ?_, ?_, ?_, ?_⟩
    · intro a w2 hw _ hf K hK
      have f0 := hf 0 rfl
      simp only [F3a] at f0
      clear hf
      go_simp
      exact hK _ _ _ rfl rfl hw (Below.refl _ _) (fun h => absurd h (by decide))
    · intro a w2 hw _ hf K hK
      have f0 := hf 28 rfl
      simp only [F3a] at f0
      clear hf
      go_simp
      exact hK _ _ _ rfl rfl hw (Below.refl _ _) (fun h => absurd h (by decide))
    · intro a w2 hw _ hf K hK
      have f0 := hf 29 rfl
      simp only [F3a] at f0
      clear hf
      go_simp
      exact hK _ _ _ rfl (congrArg Value.bool hb1.out) hw (Below.refl _ _) (fun h => absurd h (by decide))
    · intro a w2 hw _ hf K hK
      have f0 := hf 30 rfl
      simp only [F3a] at f0
      clear hf
      go_simp
      exact hK _ _ _ rfl rfl hw (Below.refl _ _) (fun h => absurd h (by decide))
    · refine ⟨?_, ?_⟩
      · intro a w2 hw hg hf K hK
        have f0 := hf 0 rfl
        simp only [F3a] at f0
        simp only [F3a] at hg
        replace hg := (Value.bool.inj hg).symm
        clear hf
        go_simp
        exact hK _ _ _ rfl (fun _ => rfl) hw (Below.refl _ _) (fun h => absurd h (by decide))
      · intro v w _ hv hne; simp only [F3a] at hv ⊢; intro h; exact absurd (hv.trans (by rw [h])) hne
    · refine ⟨?_, ?_⟩
      · intro a w2 hw hg hf K hK
        have f0 := hf 32 rfl
        simp only [F3a] at f0
        simp only [F3a] at hg
        replace hg := (Value.bool.inj hg).symm
        clear hf
        have f0 := f0 hg
        go_simp
        exact hK _ _ _ rfl (fun _ => rfl) hw (Below.refl _ _) (fun h => absurd h (by decide))
      · intro v w _ hv hne; simp only [F3a] at hv ⊢; intro h; exact absurd (hv.trans (by rw [h])) hne
    · refine ⟨?_, ?_⟩
      · intro a w2 hw hg hf K hK
        have f0 := hf 33 rfl
        simp only [F3a] at f0
        simp only [F3a] at hg
        replace hg := (Value.bool.inj hg).symm
        clear hf
        have f0 := f0 hg
        go_simp
        exact hK _ _ _ rfl (fun _ => congrArg Value.bool hc2.out) hw (Below.refl _ _) (fun h => absurd h (by decide))
      · intro v w _ hv hne; simp only [F3a] at hv ⊢; intro h; exact absurd (hv.trans (by rw [h])) hne
    · intro a w2 hw _ hf K hK
      have f0 := hf 31 rfl
      have f1 := hf 34 rfl
      simp only [F3a] at f0 f1
      clear hf
      have e := hb2.out
      cases b1 with
      | true => go_simp; exact hK _ _ _ rfl (by show _ = _; rw [e]; rfl) hw (Below.refl _ _) (fun h => absurd h (by decide))
      | false => have f1 := f1 rfl; go_simp; exact hK _ _ _ rfl (by show _ = _; rw [e]; rfl) hw (Below.refl _ _) (fun h => absurd h (by decide))
    · intro a w2 hw _ hf K hK
      have f0 := hf 35 rfl
      simp only [F3a] at f0
      clear hf
      go_simp
      exact hK _ _ _ rfl rfl hw (Below.refl _ _) (fun h => absurd h (by decide))
    · refine ⟨?_, ?_⟩
      · intro a w2 hw hg hf K hK
        have f0 := hf 1 rfl
        simp only [F3a] at f0
        simp only [F3a] at hg
        replace hg := (Value.bool.inj hg).symm
        clear hf
        go_simp
        exact hK _ _ _ rfl (fun _ => rfl) hw (Below.refl _ _) (fun h => absurd h (by decide))
      · intro v w _ hv hne; simp only [F3a] at hv ⊢; intro h; exact absurd (hv.trans (by rw [h])) hne
    · refine ⟨?_, ?_⟩
      · intro a w2 hw hg hf K hK
        have f0 := hf 37 rfl
        simp only [F3a] at f0
        simp only [F3a] at hg
        replace hg := (Value.bool.inj hg).symm
        clear hf
        have f0 := f0 hg
        go_simp
        exact hK _ _ _ rfl (fun _ => congrArg Value.bool hc3.out) hw (Below.refl _ _) (fun h => absurd h (by decide))
      · intro v w _ hv hne; simp only [F3a] at hv ⊢; intro h; exact absurd (hv.trans (by rw [h])) hne
    · intro a w2 hw _ hf K hK
      have f0 := hf 36 rfl
      have f1 := hf 38 rfl
      simp only [F3a] at f0 f1
      clear hf
      have e := hb3.out
      cases b2 with
      | true => go_simp; exact hK _ _ _ rfl (by show _ = _; rw [e]; rfl) hw (Below.refl _ _) (fun h => absurd h (by decide))
      | false => have f1 := f1 rfl; go_simp; exact hK _ _ _ rfl (by show _ = _; rw [e]; rfl) hw (Below.refl _ _) (fun h => absurd h (by decide))
    · intro a w2 hw _ hf K hK
      have f0 := hf 39 rfl
      simp only [F3a] at f0
      clear hf
      go_simp
      exact hK _ _ _ rfl rfl hw (Below.refl _ _) (fun h => absurd h (by decide))
    · refine ⟨?_, ?_⟩
      · intro a w2 hw hg hf K hK
        have f0 := hf 1 rfl
        simp only [F3a] at f0
        simp only [F3a] at hg
        replace hg := (Value.bool.inj hg).symm
        clear hf
        go_simp
        exact hK _ _ _ rfl (fun _ => rfl) hw (Below.refl _ _) (fun h => absurd h (by decide))
      · intro v w _ hv hne; simp only [F3a] at hv ⊢; intro h; exact absurd (hv.trans (by rw [h])) hne
    · refine ⟨?_, ?_⟩
      · intro a w2 hw hg hf K hK
        have f0 := hf 41 rfl
        simp only [F3a] at f0
        simp only [F3a] at hg
        replace hg := (Value.bool.inj hg).symm
        clear hf
        have f0 := f0 hg
        go_simp
        exact hK _ _ _ rfl (fun _ => congrArg Value.bool hc4.out) hw (Below.refl _ _) (fun h => absurd h (by decide))
      · intro v w _ hv hne; simp only [F3a] at hv ⊢; intro h; exact absurd (hv.trans (by rw [h])) hne
    · intro a w2 hw _ hf K hK
      have f0 := hf 40 rfl
      have f1 := hf 42 rfl
      simp only [F3a] at f0 f1
      clear hf
      have e := hb4.out
      cases b3 with
      | true => go_simp; exact hK _ _ _ rfl (by show _ = _; rw [e]; rfl) hw (Below.refl _ _) (fun h => absurd h (by decide))
      | false => have f1 := f1 rfl; go_simp; exact hK _ _ _ rfl (by show _ = _; rw [e]; rfl) hw (Below.refl _ _) (fun h => absurd h (by decide))
    · intro a w2 hw _ hf K hK
      have f0 := hf 43 rfl
      simp only [F3a] at f0
      clear hf
      go_simp
      exact hK _ _ _ rfl rfl hw (Below.refl _ _) (fun h => absurd h (by decide))
    · refine ⟨?_, ?_⟩
      · intro a w2 hw hg hf K hK
        have f0 := hf 2 rfl
        simp only [F3a] at f0
        simp only [F3a] at hg
        replace hg := (Value.bool.inj hg).symm
        clear hf
        go_simp
        exact hK _ _ _ rfl (fun _ => rfl) hw (Below.refl _ _) (fun h => absurd h (by decide))
      · intro v w _ hv hne; simp only [F3a] at hv ⊢; intro h; exact absurd (hv.trans (by rw [h])) hne
    · refine ⟨?_, ?_⟩
      · intro a w2 hw hg hf K hK
        have f0 := hf 45 rfl
        simp only [F3a] at f0
        simp only [F3a] at hg
        replace hg := (Value.bool.inj hg).symm
        clear hf
        have f0 := f0 hg
        go_simp
        exact hK _ _ _ rfl (fun _ => congrArg Value.bool hc5.out) hw (Below.refl _ _) (fun h => absurd h (by decide))
      · intro v w _ hv hne; simp only [F3a] at hv ⊢; intro h; exact absurd (hv.trans (by rw [h])) hne
    · intro a w2 hw _ hf K hK
      have f0 := hf 44 rfl
      have f1 := hf 46 rfl
      simp only [F3a] at f0 f1
      clear hf
      have e := hb5.out
      cases b4 with
      | true => go_simp; exact hK _ _ _ rfl (by show _ = _; rw [e]; rfl) hw (Below.refl _ _) (fun h => absurd h (by decide))
      | false => have f1 := f1 rfl; go_simp; exact hK _ _ _ rfl (by show _ = _; rw [e]; rfl) hw (Below.refl _ _) (fun h => absurd h (by decide))
    · intro a w2 hw _ hf K hK
      have f0 := hf 47 rfl
      simp only [F3a] at f0
      clear hf
      go_simp
      exact hK _ _ _ rfl rfl hw (Below.refl _ _) (fun h => absurd h (by decide))
    · refine ⟨?_, ?_⟩
      · intro a w2 hw hg hf K hK
        have f0 := hf 2 rfl
        simp only [F3a] at f0
        simp only [F3a] at hg
        replace hg := (Value.bool.inj hg).symm
        clear hf
        go_simp
        exact hK _ _ _ rfl (fun _ => rfl) hw (Below.refl _ _) (fun h => absurd h (by decide))
      · intro v w _ hv hne; simp only [F3a] at hv ⊢; intro h; exact absurd (hv.trans (by rw [h])) hne
    · refine ⟨?_, ?_⟩
      · intro a w2 hw hg hf K hK
        have f0 := hf 49 rfl
        simp only [F3a] at f0
        simp only [F3a] at hg
        replace hg := (Value.bool.inj hg).symm
        clear hf
        have f0 := f0 hg
        go_simp
        exact hK _ _ _ rfl (fun _ => congrArg Value.bool hc6.out) hw (Below.refl _ _) (fun h => absurd h (by decide))
      · intro v w _ hv hne; simp only [F3a] at hv ⊢; intro h; exact absurd (hv.trans (by rw [h])) hne
    · intro a w2 hw _ hf K hK
      have f0 := hf 48 rfl
      have f1 := hf 50 rfl
      simp only [F3a] at f0 f1
      clear hf
      have e := hb6.out
      cases b5 with
      | true => go_simp; exact hK _ _ _ rfl (by show _ = _; rw [e]; rfl) hw (Below.refl _ _) (fun h => absurd h (by decide))
      | false => have f1 := f1 rfl; go_simp; exact hK _ _ _ rfl (by show _ = _; rw [e]; rfl) hw (Below.refl _ _) (fun h => absurd h (by decide))
    · intro a w2 hw _ hf K hK
      have f0 := hf 51 rfl
      simp only [F3a] at f0
      clear hf
      go_simp
      exact hK _ _ _ rfl rfl hw (Below.refl _ _) (fun h => absurd h (by decide))
    · refine ⟨?_, ?_⟩
      · intro a w2 hw hg hf K hK
        have f0 := hf 0 rfl
        simp only [F3a] at f0
        simp only [F3a] at hg
        replace hg := (Value.bool.inj hg).symm
        clear hf
        go_simp
        exact hK _ _ _ rfl (fun _ => rfl) hw (Below.refl _ _) (fun h => absurd h (by decide))
      · intro v w _ hv hne; simp only [F3a] at hv ⊢; intro h; exact absurd (hv.trans (by rw [h])) hne
    · refine ⟨?_, ?_⟩
      · intro a w2 hw hg hf K hK
        have f0 := hf 53 rfl
        simp only [F3a] at f0
        simp only [F3a] at hg
        replace hg := (Value.bool.inj hg).symm
        clear hf
        have f0 := f0 hg
        go_simp
        refine (hval.out hg w2 hw).mono ?_; rintro e w5 ⟨rfl, hb⟩
        exact hK _ _ _ rfl (fun _ => rfl) (hw.trans (hb.mono hw.size)) hb (fun h => absurd h (by decide))
      · intro v w _ hv hne; simp only [F3a] at hv ⊢; intro h; exact absurd (hv.trans (by rw [h])) hne
    · refine ⟨?_, ?_⟩
      · intro a w2 hw hg hf K hK
        have f0 := hf 54 rfl
        simp only [F3a] at f0
        simp only [F3a] at hg
        replace hg := (Value.bool.inj hg).symm
        clear hf
        have f0 := f0 hg
        go_simp
        exact hK _ _ _ rfl (fun _ => congrArg Value.bool hc7.out) hw (Below.refl _ _) (fun h => absurd h (by decide))
      · intro v w _ hv hne; simp only [F3a] at hv ⊢; intro h; exact absurd (hv.trans (by rw [h])) hne
    · intro a w2 hw _ hf K hK
      have f0 := hf 52 rfl
      have f1 := hf 55 rfl
      simp only [F3a] at f0 f1
      clear hf
      have e := hb7.out
      cases b6 with
      | true => go_simp; exact hK _ _ _ rfl (by show _ = _; rw [e]; rfl) hw (Below.refl _ _) (fun h => absurd h (by decide))
      | false => have f1 := f1 rfl; go_simp; exact hK _ _ _ rfl (by show _ = _; rw [e]; rfl) hw (Below.refl _ _) (fun h => absurd h (by decide))
    · intro a w2 hw _ hf K hK
      have f0 := hf 56 rfl
      simp only [F3a] at f0
      clear hf
      go_simp
      exact hK _ _ _ rfl rfl hw (Below.refl _ _) (fun h => absurd h (by decide))
    · refine ⟨?_, ?_⟩
      · intro a w2 hw hg hf K hK
        have f0 := hf 0 rfl
        simp only [F3a] at f0
        simp only [F3a] at hg
        replace hg := (Value.bool.inj hg).symm
        clear hf
        go_simp
        exact hK _ _ _ rfl (fun _ => rfl) hw (Below.refl _ _) (fun h => absurd h (by decide))
      · intro v w _ hv hne; simp only [F3a] at hv ⊢; intro h; exact absurd (hv.trans (by rw [h])) hne
    · refine ⟨?_, ?_⟩
      · intro a w2 hw hg hf K hK
        have f0 := hf 0 rfl
        simp only [F3a] at f0
        simp only [F3a] at hg
        replace hg := (Value.bool.inj hg).symm
        clear hf
        go_simp
        exact hK _ _ _ rfl (fun _ => rfl) hw (Below.refl _ _) (fun h => absurd h (by decide))
      · intro v w _ hv hne; simp only [F3a] at hv ⊢; intro h; exact absurd (hv.trans (by rw [h])) hne
    · refine ⟨?_, ?_⟩
      · intro a w2 hw hg hf K hK
        have f0 := hf 59 rfl
        simp only [F3a] at f0
        simp only [F3a] at hg
        replace hg := (Value.bool.inj hg).symm
        clear hf
        have f0 := f0 hg
        go_simp
        exact hK _ _ _ rfl (fun _ => rfl) hw (Below.refl _ _) (fun h => absurd h (by decide))
      · intro v w _ hv hne; simp only [F3a] at hv ⊢; intro h; exact absurd (hv.trans (by rw [h])) hne
    · refine ⟨?_, ?_⟩
      · intro a w2 hw hg hf K hK
        have f0 := hf 60 rfl
        simp only [F3a] at f0
        simp only [F3a] at hg
        replace hg := (Value.bool.inj hg).symm
        clear hf
        have f0 := f0 hg
        have hn1 := hn.out hg
        go_simp
        exact hK _ _ _ rfl (fun _ => by show _ = _; rw [IntWalk.i64_in _ (by omega)]) hw (Below.refl _ _) (fun h => absurd h (by decide))
      · intro v w _ hv hne; simp only [F3a] at hv ⊢; intro h; exact absurd (hv.trans (by rw [h])) hne
    · refine ⟨?_, ?_⟩
      · intro a w2 hw hg hf K hK
        have f0 := hf 58 rfl
        have f1 := hf 61 rfl
        simp only [F3a] at f0 f1
        simp only [F3a] at hg
        replace hg := (Value.bool.inj hg).symm
        clear hf
        have f0 := f0 hg
        have f1 := f1 hg
        obtain ⟨q1, q2, q3⟩ := hn.out hg
        have q4 := hA.out hg
        subst q4
        have q5 : ((n : Int) - 1).toNat = n - 1 := by omega
        have q6 : (0 : Int) ≤ (n : Int) - 1 := by omega
        have q7 : (n : Int) - 1 < n := by omega
        have q8 : (1 : Int) ≤ n := by omega
        go_simp
        exact hK _ _ _ rfl (fun _ => rfl) hw (Below.refl _ _) (fun h => absurd h (by decide))
      · intro v w _ hv hne; simp only [F3a] at hv ⊢; intro h; exact absurd (hv.trans (by rw [h])) hne
    · refine ⟨?_, ?_⟩
      · intro a w2 hw hg hf K hK
        have f0 := hf 62 rfl
        simp only [F3a] at f0
        simp only [F3a] at hg
        replace hg := (Value.bool.inj hg).symm
        clear hf
        have f0 := f0 hg
        go_simp
        exact hK _ _ _ rfl (fun _ => rfl) hw (Below.refl _ _) (fun h => absurd h (by decide))
      · intro v w _ hv hne; simp only [F3a] at hv ⊢; intro h; exact absurd (hv.trans (by rw [h])) hne
    · refine ⟨?_, ?_⟩
      · intro a w2 hw hg hf K hK
        have f0 := hf 63 rfl
        simp only [F3a] at f0
        simp only [F3a] at hg
        replace hg := (Value.bool.inj hg).symm
        clear hf
        have f0 := f0 hg
        obtain ⟨e1, e2⟩ := hcell.out hg w2 hw
        go_simp
        exact hK _ _ _ rfl (fun _ => rfl) hw (Below.refl _ _) (fun h => absurd h (by decide))
      · intro v w _ hv hne; simp only [F3a] at hv ⊢; intro h; exact absurd (hv.trans (by rw [h])) hne
    · refine ⟨?_, ?_⟩
      · intro a w2 hw hg hf K hK
        have f0 := hf 0 rfl
        simp only [F3a] at f0
        simp only [F3a] at hg
        replace hg := (Value.bool.inj hg).symm
        clear hf
        go_simp
        exact hK _ _ _ rfl (fun _ => rfl) hw (Below.refl _ _) (fun h => absurd h (by decide))
      · intro v w _ hv hne; simp only [F3a] at hv ⊢; intro h; exact absurd (hv.trans (by rw [h])) hne
    · refine ⟨?_, ?_⟩
      · intro a w2 hw hg hf K hK
        have f0 := hf 65 rfl
        simp only [F3a] at f0
        simp only [F3a] at hg
        replace hg := (Value.bool.inj hg).symm
        clear hf
        have f0 := f0 hg
        obtain ⟨q1, q2, q3⟩ := hn.out hg
        have q4 := hA.out hg
        subst q4
        have q5 : 0 < n := by omega
        go_simp
        exact hK _ _ _ rfl (fun _ => rfl) hw (Below.refl _ _) (fun h => absurd h (by decide))
      · intro v w _ hv hne; simp only [F3a] at hv ⊢; intro h; exact absurd (hv.trans (by rw [h])) hne
    · refine ⟨?_, ?_⟩
      · intro a w2 hw hg hf K hK
        have f0 := hf 66 rfl
        simp only [F3a] at f0
        simp only [F3a] at hg
        replace hg := (Value.bool.inj hg).symm
        clear hf
        have f0 := f0 hg
        go_simp
        exact hK _ _ _ rfl (fun _ => rfl) hw (Below.refl _ _) (fun h => absurd h (by decide))
      · intro v w _ hv hne; simp only [F3a] at hv ⊢; intro h; exact absurd (hv.trans (by rw [h])) hne
    · refine ⟨?_, ?_⟩
      · intro a w2 hw hg hf K hK
        have f0 := hf 67 rfl
        simp only [F3a] at f0
        simp only [F3a] at hg
        replace hg := (Value.bool.inj hg).symm
        clear hf
        have f0 := f0 hg
        obtain ⟨e1, e2⟩ := hcell.out hg w2 hw
        go_simp
        exact hK _ _ _ rfl (fun _ => rfl) hw (Below.refl _ _) (fun h => absurd h (by decide))
      · intro v w _ hv hne; simp only [F3a] at hv ⊢; intro h; exact absurd (hv.trans (by rw [h])) hne
    · refine ⟨?_, ?_⟩
      · intro a w2 hw hg hf K hK
        have f0 := hf 64 rfl
        have f1 := hf 68 rfl
        simp only [F3a] at f0 f1
        simp only [F3a] at hg
        replace hg := (Value.bool.inj hg).symm
        clear hf
        have f0 := f0 hg
        have f1 := f1 hg
        obtain ⟨p1, p2⟩ := hp.out hg
        go_simp
        exact hK _ _ _ rfl (fun _ => by show _ = _; rw [IntWalk.i64_in _ (by omega)]) hw (Below.refl _ _) (fun h => absurd h (by decide))
      · intro v w _ hv hne; simp only [F3a] at hv ⊢; intro h; exact absurd (hv.trans (by rw [h])) hne
    · refine ⟨?_, ?_⟩
      · intro a w2 hw hg hf K hK
        have f0 := hf 69 rfl
        simp only [F3a] at f0
        simp only [F3a] at hg
        replace hg := (Value.bool.inj hg).symm
        clear hf
        have f0 := f0 hg
        go_simp
        exact hK _ _ _ rfl (fun _ => congrArg Value.bool hc8.out) hw (Below.refl _ _) (fun h => absurd h (by decide))
      · intro v w _ hv hne; simp only [F3a] at hv ⊢; intro h; exact absurd (hv.trans (by rw [h])) hne
    · intro a w2 hw _ hf K hK
      have f0 := hf 57 rfl
      have f1 := hf 70 rfl
      simp only [F3a] at f0 f1
      clear hf
      have e := hb8.out
      cases b7 with
      | true => go_simp; exact hK _ _ _ rfl (by show _ = _; rw [e]; rfl) hw (Below.refl _ _) (fun h => absurd h (by decide))
      | false => have f1 := f1 rfl; go_simp; exact hK _ _ _ rfl (by show _ = _; rw [e]; rfl) hw (Below.refl _ _) (fun h => absurd h (by decide))
  · intro a' w9 hd hs hw hout hf _
    have h71 := hf 71 rfl
    simp only [F3a] at h71
    have e0 : _ = some (Value.slice A n c) := hout 0 rfl
    have e1 : _ = some (Value.int .i64 cost) := hout 1 rfl
    have e2 : _ = some (Value.int .i64 rate) := hout 2 rfl
    have e3 : _ = some (Value.int .u8 dr) := hout 3 rfl
    obtain ⟨tm, df⟩ := a'
    simp only at hd hs h71 e0 e1 e2 e3
    rw [← sl_eq tm 71] at h71
    replace e0 := sl_some e0
    replace e1 := sl_some e1
    replace e2 := sl_some e2
    replace e3 := sl_some e3
    have e := lit232 tm hs
    simp only [h71, e0, e1, e2, e3] at e
    clear hf hout hs
    rw [e, hd]
    clear e hd h71 e0 e1 e2 e3
    generalize sl tm 4 = u4x, sl tm 5 = u5x, sl tm 6 = u6x, sl tm 7 = u7x, sl tm 8 = u8x, sl tm 9 = u9x, sl tm 10 = u10x, sl tm 11 = u11x, sl tm 12 = u12x, sl tm 13 = u13x, sl tm 14 = u14x, sl tm 15 = u15x, sl tm 16 = u16x, sl tm 17 = u17x, sl tm 18 = u18x, sl tm 19 = u19x, sl tm 20 = u20x, sl tm 21 = u21x, sl tm 22 = u22x, sl tm 23 = u23x, sl tm 24 = u24x, sl tm 25 = u25x, sl tm 26 = u26x, sl tm 27 = u27x, sl tm 28 = u28x, sl tm 29 = u29x, sl tm 30 = u30x, sl tm 31 = u31x, sl tm 32 = u32x, sl tm 33 = u33x, sl tm 34 = u34x, sl tm 35 = u35x, sl tm 36 = u36x, sl tm 37 = u37x, sl tm 38 = u38x, sl tm 39 = u39x, sl tm 40 = u40x, sl tm 41 = u41x, sl tm 42 = u42x, sl tm 43 = u43x, sl tm 44 = u44x, sl tm 45 = u45x, sl tm 46 = u46x, sl tm 47 = u47x, sl tm 48 = u48x, sl tm 49 = u49x, sl tm 50 = u50x, sl tm 51 = u51x, sl tm 52 = u52x, sl tm 53 = u53x, sl tm 54 = u54x, sl tm 55 = u55x, sl tm 56 = u56x, sl tm 57 = u57x, sl tm 58 = u58x, sl tm 59 = u59x, sl tm 60 = u60x, sl tm 61 = u61x, sl tm 62 = u62x, sl tm 63 = u63x, sl tm 64 = u64x, sl tm 65 = u65x, sl tm 66 = u66x, sl tm 67 = u67x, sl tm 68 = u68x, sl tm 69 = u69x, sl tm 70 = u70x, sl tm 72 = u72x, sl tm 73 = u73x, sl tm 74 = u74x, sl tm 75 = u75x, sl tm 76 = u76x, sl tm 77 = u77x, sl tm 78 = u78x, sl tm 79 = u79x, sl tm 80 = u80x, sl tm 81 = u81x, sl tm 82 = u82x, sl tm 83 = u83x, sl tm 84 = u84x, sl tm 85 = u85x, sl tm 86 = u86x, sl tm 87 = u87x, sl tm 88 = u88x, sl tm 89 = u89x, sl tm 90 = u90x, sl tm 91 = u91x, sl tm 92 = u92x, sl tm 93 = u93x, sl tm 94 = u94x, sl tm 95 = u95x, sl tm 96 = u96x, sl tm 97 = u97x, sl tm 98 = u98x, sl tm 99 = u99x, sl tm 100 = u100x, sl tm 101 = u101x, sl tm 102 = u102x, sl tm 103 = u103x, sl tm 104 = u104x, sl tm 105 = u105x, sl tm 106 = u106x, sl tm 107 = u107x, sl tm 108 = u108x, sl tm 109 = u109x, sl tm 110 = u110x, sl tm 111 = u111x, sl tm 112 = u112x, sl tm 113 = u113x, sl tm 114 = u114x, sl tm 115 = u115x, sl tm 116 = u116x, sl tm 117 = u117x, sl tm 118 = u118x, sl tm 119 = u119x, sl tm 120 = u120x, sl tm 121 = u121x, sl tm 122 = u122x, sl tm 123 = u123x, sl tm 124 = u124x, sl tm 125 = u125x, sl tm 126 = u126x, sl tm 127 = u127x, sl tm 128 = u128x, sl tm 129 = u129x, sl tm 130 = u130x, sl tm 131 = u131x, sl tm 132 = u132x, sl tm 133 = u133x, sl tm 134 = u134x, sl tm 135 = u135x, sl tm 136 = u136x, sl tm 137 = u137x, sl tm 138 = u138x, sl tm 139 = u139x, sl tm 140 = u140x, sl tm 141 = u141x, sl tm 142 = u142x, sl tm 143 = u143x, sl tm 144 = u144x, sl tm 145 = u145x, sl tm 146 = u146x, sl tm 147 = u147x, sl tm 148 = u148x, sl tm 149 = u149x, sl tm 150 = u150x, sl tm 151 = u151x, sl tm 152 = u152x, sl tm 153 = u153x, sl tm 154 = u154x, sl tm 155 = u155x, sl tm 156 = u156x, sl tm 157 = u157x, sl tm 158 = u158x, sl tm 159 = u159x, sl tm 160 = u160x, sl tm 161 = u161x, sl tm 162 = u162x, sl tm 163 = u163x, sl tm 164 = u164x, sl tm 165 = u165x, sl tm 166 = u166x, sl tm 167 = u167x, sl tm 168 = u168x, sl tm 169 = u169x, sl tm 170 = u170x, sl tm 171 = u171x, sl tm 172 = u172x, sl tm 173 = u173x, sl tm 174 = u174x, sl tm 175 = u175x, sl tm 176 = u176x, sl tm 177 = u177x, sl tm 178 = u178x, sl tm 179 = u179x, sl tm 180 = u180x, sl tm 181 = u181x, sl tm 182 = u182x, sl tm 183 = u183x, sl tm 184 = u184x, sl tm 185 = u185x, sl tm 186 = u186x, sl tm 187 = u187x, sl tm 188 = u188x, sl tm 189 = u189x, sl tm 190 = u190x, sl tm 191 = u191x, sl tm 192 = u192x, sl tm 193 = u193x, sl tm 194 = u194x, sl tm 195 = u195x, sl tm 196 = u196x, sl tm 197 = u197x, sl tm 198 = u198x, sl tm 199 = u199x, sl tm 200 = u200x, sl tm 201 = u201x, sl tm 202 = u202x, sl tm 203 = u203x, sl tm 204 = u204x, sl tm 205 = u205x, sl tm 206 = u206x, sl tm 207 = u207x, sl tm 208 = u208x, sl tm 209 = u209x, sl tm 210 = u210x, sl tm 211 = u211x, sl tm 212 = u212x, sl tm 213 = u213x, sl tm 214 = u214x, sl tm 215 = u215x, sl tm 216 = u216x, sl tm 217 = u217x, sl tm 218 = u218x, sl tm 219 = u219x, sl tm 220 = u220x, sl tm 221 = u221x, sl tm 222 = u222x, sl tm 223 = u223x, sl tm 224 = u224x, sl tm 225 = u225x, sl tm 226 = u226x, sl tm 227 = u227x, sl tm 228 = u228x, sl tm 229 = u229x, sl tm 230 = u230x, sl tm 231 = u231x
    have hb1 : Hid (Below w.heap.size w w9) := hw
    clear hcell0 hval hw hp hA
    cases b8 with
    | true =>
      clear hall
      go_wp2_with fail
      go_ret
      exact ⟨rfl, hb1.out⟩
    | false =>
      obtain ⟨g7, n1, n60, v0, c0, c1, r0, r1, s3⟩ := hall.out rfl
      have hA9 := hA2.out g7
      subst hA9
      have hG := Lib.hid (goodR_of hl.out n1 n60 v0 s3)
      have hn3 : Hid (1 ≤ n ∧ n ≤ 60 ∧ c ≤ maxLen) := ⟨n1, n60, hnc.out.2⟩
      have hB : Hid (0 ≤ cost ∧ cost ≤ 100000 ∧ 0 ≤ rate ∧ rate ≤ 10000) := ⟨c0, c1, r0, r1⟩
      have he := Lib.hid (hcell2.out g7)
      have hT1 := Lib.hid hG.out.tot
      have hla := Lib.hid (hp2.out g7).2
      have hCI := Lib.hid (chL_in (totalR L) hG.out.tot.1 hG.out.tot.2)
      have hst := hG.out.start
      rw [← firstA_eq hG.out.at0, hfi.out] at hst
      have hms := hG.out.hm
      have hrn := Lib.hid (fun gu wz (hb : Below w.heap.size w wz) (hT : TarAt wz (w9.heap.size + 1 + 1) (w9.heap.size + 1) cost rate) hu => run_any (w9.heap.size + 1 + 1) (w9.heap.size + 1) gu (minR L).length cost rate first (minR L) wz (hg.out.more hb) hT hu (by omega) (minR_in L none hG.out.hv) hst.1 hst.2 c0 c1 r0 r1)
      rw [minR_sum L none hG.out.hv] at hrn
      have hbi := Lib.hid (fun wz (hb : Below w.heap.size w wz) (hT : TarAt wz (w9.heap.size + 1 + 1) (w9.heap.size + 1) cost rate) => billed_any (w9.heap.size + 1 + 1) (w9.heap.size + 1) n c ad L cost rate wz (hg.out.more hb) hT (LAt.more h.out hb) hG.out c0 c1 r0 r1)
      have hto := Lib.hid (fun wz (hb : Below w.heap.size w wz) => total_any (some ad) n c L wz (LAt.more h.out hb) hG.out.h1 hG.out.hn hG.out.hv)
      have htv := Lib.hid (fun wz (hT : TarAt wz (w9.heap.size + 1 + 1) (w9.heap.size + 1) cost rate) => tvalid_any (w9.heap.size + 1 + 1) (w9.heap.size + 1) cost rate wz hT c0 c1 r0 r1)
      obtain ⟨T, hTT⟩ : ∃ T, T = totalR L := ⟨_, rfl⟩
      rw [← hTT] at hT1 hCI hrn hbi hto
      obtain ⟨NU, hNU0⟩ : ∃ m, m = (minR L).length := ⟨_, rfl⟩
      rw [← hNU0] at hrn
      have hNU := Lib.hid hNU0
      clear hNU0 hst hms g7 n1 n60 v0 c0 c1 r0 r1 s3 hTT hall hA2 hcell2 hp2 hnc
      have hX0 := Blk.new (((w9.alloc (.cells #[Value.int .i64 0, Value.int .i64 0, Value.int .i64 0, Value.int .i64 (-1), Value.int .i64 (-1), Value.int .i64 (-1), Value.int .i64 (-1), Value.int .i64 (-1), Value.int .i64 (-1), Value.int .i64 (-1), Value.int .i64 (-1)] 28)).alloc (.cells #[Value.int .i64 2, Value.int .i64 cost, Value.int .i64 1, Value.int .i64 rate] 32)).alloc (.cells #[Value.slice (some ⟨(w9.heap.size + 1), 0, none⟩) 1 1, Value.int .i64 0, Value.int .i64 0, Value.int .i64 0, Value.int .i64 (-1), Value.int .i64 (-1), Value.int .i64 (-1), Value.int .i64 (-1), Value.int .i64 (-1), Value.int .i64 (-1), Value.int .i64 (-1), Value.int .i64 (-1)] 35)) 38 #[Value.string (⟨#[84]⟩ : ByteArray), Value.string (⟨#[69, 85, 82]⟩ : ByteArray), Value.int .i64 1, Value.int .i64 0, Value.int .i64 268435456, Value.slice (some ⟨(w9.heap.size + 1 + 1), 0, none⟩) 1 1, Value.int .i64 (-1), Value.int .i64 (-1)]
      have hE0 := Blk.new ((w9.alloc (.cells #[Value.int .i64 0, Value.int .i64 0, Value.int .i64 0, Value.int .i64 (-1), Value.int .i64 (-1), Value.int .i64 (-1), Value.int .i64 (-1), Value.int .i64 (-1), Value.int .i64 (-1), Value.int .i64 (-1), Value.int .i64 (-1)] 28)).alloc (.cells #[Value.int .i64 2, Value.int .i64 cost, Value.int .i64 1, Value.int .i64 rate] 32)) 35 #[Value.slice (some ⟨(w9.heap.size + 1), 0, none⟩) 1 1, Value.int .i64 0, Value.int .i64 0, Value.int .i64 0, Value.int .i64 (-1), Value.int .i64 (-1), Value.int .i64 (-1), Value.int .i64 (-1), Value.int .i64 (-1), Value.int .i64 (-1), Value.int .i64 (-1), Value.int .i64 (-1)]
      have hC0 := Blk.new (w9.alloc (.cells #[Value.int .i64 0, Value.int .i64 0, Value.int .i64 0, Value.int .i64 (-1), Value.int .i64 (-1), Value.int .i64 (-1), Value.int .i64 (-1), Value.int .i64 (-1), Value.int .i64 (-1), Value.int .i64 (-1), Value.int .i64 (-1)] 28)) 32 #[Value.int .i64 2, Value.int .i64 cost, Value.int .i64 1, Value.int .i64 rate]
      rw [show (((w9.alloc (.cells #[Value.int .i64 0, Value.int .i64 0, Value.int .i64 0, Value.int .i64 (-1), Value.int .i64 (-1), Value.int .i64 (-1), Value.int .i64 (-1), Value.int .i64 (-1), Value.int .i64 (-1), Value.int .i64 (-1), Value.int .i64 (-1)] 28)).alloc (.cells #[Value.int .i64 2, Value.int .i64 cost, Value.int .i64 1, Value.int .i64 rate] 32)).alloc (.cells #[Value.slice (some ⟨(w9.heap.size + 1), 0, none⟩) 1 1, Value.int .i64 0, Value.int .i64 0, Value.int .i64 0, Value.int .i64 (-1), Value.int .i64 (-1), Value.int .i64 (-1), Value.int .i64 (-1), Value.int .i64 (-1), Value.int .i64 (-1), Value.int .i64 (-1), Value.int .i64 (-1)] 35)).heap.size = w9.heap.size + 1 + 1 + 1 by simp] at hX0
      rw [show ((w9.alloc (.cells #[Value.int .i64 0, Value.int .i64 0, Value.int .i64 0, Value.int .i64 (-1), Value.int .i64 (-1), Value.int .i64 (-1), Value.int .i64 (-1), Value.int .i64 (-1), Value.int .i64 (-1), Value.int .i64 (-1), Value.int .i64 (-1)] 28)).alloc (.cells #[Value.int .i64 2, Value.int .i64 cost, Value.int .i64 1, Value.int .i64 rate] 32)).heap.size = w9.heap.size + 1 + 1 by simp] at hE0
      rw [show (w9.alloc (.cells #[Value.int .i64 0, Value.int .i64 0, Value.int .i64 0, Value.int .i64 (-1), Value.int .i64 (-1), Value.int .i64 (-1), Value.int .i64 (-1), Value.int .i64 (-1), Value.int .i64 (-1), Value.int .i64 (-1), Value.int .i64 (-1)] 28)).heap.size = w9.heap.size + 1 by simp] at hC0
      have hT : Hid (TarAt ((((w9.alloc (.cells #[Value.int .i64 0, Value.int .i64 0, Value.int .i64 0, Value.int .i64 (-1), Value.int .i64 (-1), Value.int .i64 (-1), Value.int .i64 (-1), Value.int .i64 (-1), Value.int .i64 (-1), Value.int .i64 (-1), Value.int .i64 (-1)] 28)).alloc (.cells #[Value.int .i64 2, Value.int .i64 cost, Value.int .i64 1, Value.int .i64 rate] 32)).alloc (.cells #[Value.slice (some ⟨(w9.heap.size + 1), 0, none⟩) 1 1, Value.int .i64 0, Value.int .i64 0, Value.int .i64 0, Value.int .i64 (-1), Value.int .i64 (-1), Value.int .i64 (-1), Value.int .i64 (-1), Value.int .i64 (-1), Value.int .i64 (-1), Value.int .i64 (-1), Value.int .i64 (-1)] 35)).alloc (.cells #[Value.string (⟨#[84]⟩ : ByteArray), Value.string (⟨#[69, 85, 82]⟩ : ByteArray), Value.int .i64 1, Value.int .i64 0, Value.int .i64 268435456, Value.slice (some ⟨(w9.heap.size + 1 + 1), 0, none⟩) 1 1, Value.int .i64 (-1), Value.int .i64 (-1)] 38)) (w9.heap.size + 1 + 1) (w9.heap.size + 1) cost rate) := ⟨hE0.below (a1 (((w9.alloc (.cells #[Value.int .i64 0, Value.int .i64 0, Value.int .i64 0, Value.int .i64 (-1), Value.int .i64 (-1), Value.int .i64 (-1), Value.int .i64 (-1), Value.int .i64 (-1), Value.int .i64 (-1), Value.int .i64 (-1), Value.int .i64 (-1)] 28)).alloc (.cells #[Value.int .i64 2, Value.int .i64 cost, Value.int .i64 1, Value.int .i64 rate] 32)).alloc (.cells #[Value.slice (some ⟨(w9.heap.size + 1), 0, none⟩) 1 1, Value.int .i64 0, Value.int .i64 0, Value.int .i64 0, Value.int .i64 (-1), Value.int .i64 (-1), Value.int .i64 (-1), Value.int .i64 (-1), Value.int .i64 (-1), Value.int .i64 (-1), Value.int .i64 (-1), Value.int .i64 (-1)] 35)) _) (by simp), hC0.below (below_new (a1 ((w9.alloc (.cells #[Value.int .i64 0, Value.int .i64 0, Value.int .i64 0, Value.int .i64 (-1), Value.int .i64 (-1), Value.int .i64 (-1), Value.int .i64 (-1), Value.int .i64 (-1), Value.int .i64 (-1), Value.int .i64 (-1), Value.int .i64 (-1)] 28)).alloc (.cells #[Value.int .i64 2, Value.int .i64 cost, Value.int .i64 1, Value.int .i64 rate] 32)) _) _) (by simp)⟩
      have hX := Lib.hid hX0
      have hb : Hid (Below w.heap.size w ((((w9.alloc (.cells #[Value.int .i64 0, Value.int .i64 0, Value.int .i64 0, Value.int .i64 (-1), Value.int .i64 (-1), Value.int .i64 (-1), Value.int .i64 (-1), Value.int .i64 (-1), Value.int .i64 (-1), Value.int .i64 (-1), Value.int .i64 (-1)] 28)).alloc (.cells #[Value.int .i64 2, Value.int .i64 cost, Value.int .i64 1, Value.int .i64 rate] 32)).alloc (.cells #[Value.slice (some ⟨(w9.heap.size + 1), 0, none⟩) 1 1, Value.int .i64 0, Value.int .i64 0, Value.int .i64 0, Value.int .i64 (-1), Value.int .i64 (-1), Value.int .i64 (-1), Value.int .i64 (-1), Value.int .i64 (-1), Value.int .i64 (-1), Value.int .i64 (-1), Value.int .i64 (-1)] 35)).alloc (.cells #[Value.string (⟨#[84]⟩ : ByteArray), Value.string (⟨#[69, 85, 82]⟩ : ByteArray), Value.int .i64 1, Value.int .i64 0, Value.int .i64 268435456, Value.slice (some ⟨(w9.heap.size + 1 + 1), 0, none⟩) 1 1, Value.int .i64 (-1), Value.int .i64 (-1)] 38))) := hb1.out.trans ((below_new (below_new (below_new (a1 w9 _) _) _) _).mono hb1.out.size)
      have t0 : (((((w9.alloc (.cells #[Value.int .i64 0, Value.int .i64 0, Value.int .i64 0, Value.int .i64 (-1), Value.int .i64 (-1), Value.int .i64 (-1), Value.int .i64 (-1), Value.int .i64 (-1), Value.int .i64 (-1), Value.int .i64 (-1), Value.int .i64 (-1)] 28)).alloc (.cells #[Value.int .i64 2, Value.int .i64 cost, Value.int .i64 1, Value.int .i64 rate] 32)).alloc (.cells #[Value.slice (some ⟨(w9.heap.size + 1), 0, none⟩) 1 1, Value.int .i64 0, Value.int .i64 0, Value.int .i64 0, Value.int .i64 (-1), Value.int .i64 (-1), Value.int .i64 (-1), Value.int .i64 (-1), Value.int .i64 (-1), Value.int .i64 (-1), Value.int .i64 (-1), Value.int .i64 (-1)] 35)).alloc (.cells #[Value.string (⟨#[84]⟩ : ByteArray), Value.string (⟨#[69, 85, 82]⟩ : ByteArray), Value.int .i64 1, Value.int .i64 0, Value.int .i64 268435456, Value.slice (some ⟨(w9.heap.size + 1 + 1), 0, none⟩) 1 1, Value.int .i64 (-1), Value.int .i64 (-1)] 38))).cell? ⟨(w9.heap.size + 1 + 1 + 1), 0, none⟩ = some (Value.string (⟨#[84]⟩ : ByteArray)) := (hX.out).cell 0; have t1 : (((((w9.alloc (.cells #[Value.int .i64 0, Value.int .i64 0, Value.int .i64 0, Value.int .i64 (-1), Value.int .i64 (-1), Value.int .i64 (-1), Value.int .i64 (-1), Value.int .i64 (-1), Value.int .i64 (-1), Value.int .i64 (-1), Value.int .i64 (-1)] 28)).alloc (.cells #[Value.int .i64 2, Value.int .i64 cost, Value.int .i64 1, Value.int .i64 rate] 32)).alloc (.cells #[Value.slice (some ⟨(w9.heap.size + 1), 0, none⟩) 1 1, Value.int .i64 0, Value.int .i64 0, Value.int .i64 0, Value.int .i64 (-1), Value.int .i64 (-1), Value.int .i64 (-1), Value.int .i64 (-1), Value.int .i64 (-1), Value.int .i64 (-1), Value.int .i64 (-1), Value.int .i64 (-1)] 35)).alloc (.cells #[Value.string (⟨#[84]⟩ : ByteArray), Value.string (⟨#[69, 85, 82]⟩ : ByteArray), Value.int .i64 1, Value.int .i64 0, Value.int .i64 268435456, Value.slice (some ⟨(w9.heap.size + 1 + 1), 0, none⟩) 1 1, Value.int .i64 (-1), Value.int .i64 (-1)] 38))).cell? ⟨(w9.heap.size + 1 + 1 + 1), 1, none⟩ = some (Value.string (⟨#[69, 85, 82]⟩ : ByteArray)) := (hX.out).cell 1; have t2 : (((((w9.alloc (.cells #[Value.int .i64 0, Value.int .i64 0, Value.int .i64 0, Value.int .i64 (-1), Value.int .i64 (-1), Value.int .i64 (-1), Value.int .i64 (-1), Value.int .i64 (-1), Value.int .i64 (-1), Value.int .i64 (-1), Value.int .i64 (-1)] 28)).alloc (.cells #[Value.int .i64 2, Value.int .i64 cost, Value.int .i64 1, Value.int .i64 rate] 32)).alloc (.cells #[Value.slice (some ⟨(w9.heap.size + 1), 0, none⟩) 1 1, Value.int .i64 0, Value.int .i64 0, Value.int .i64 0, Value.int .i64 (-1), Value.int .i64 (-1), Value.int .i64 (-1), Value.int .i64 (-1), Value.int .i64 (-1), Value.int .i64 (-1), Value.int .i64 (-1), Value.int .i64 (-1)] 35)).alloc (.cells #[Value.string (⟨#[84]⟩ : ByteArray), Value.string (⟨#[69, 85, 82]⟩ : ByteArray), Value.int .i64 1, Value.int .i64 0, Value.int .i64 268435456, Value.slice (some ⟨(w9.heap.size + 1 + 1), 0, none⟩) 1 1, Value.int .i64 (-1), Value.int .i64 (-1)] 38))).cell? ⟨(w9.heap.size + 1 + 1 + 1), 2, none⟩ = some (Value.int .i64 1) := (hX.out).cell 2; have t3 : (((((w9.alloc (.cells #[Value.int .i64 0, Value.int .i64 0, Value.int .i64 0, Value.int .i64 (-1), Value.int .i64 (-1), Value.int .i64 (-1), Value.int .i64 (-1), Value.int .i64 (-1), Value.int .i64 (-1), Value.int .i64 (-1), Value.int .i64 (-1)] 28)).alloc (.cells #[Value.int .i64 2, Value.int .i64 cost, Value.int .i64 1, Value.int .i64 rate] 32)).alloc (.cells #[Value.slice (some ⟨(w9.heap.size + 1), 0, none⟩) 1 1, Value.int .i64 0, Value.int .i64 0, Value.int .i64 0, Value.int .i64 (-1), Value.int .i64 (-1), Value.int .i64 (-1), Value.int .i64 (-1), Value.int .i64 (-1), Value.int .i64 (-1), Value.int .i64 (-1), Value.int .i64 (-1)] 35)).alloc (.cells #[Value.string (⟨#[84]⟩ : ByteArray), Value.string (⟨#[69, 85, 82]⟩ : ByteArray), Value.int .i64 1, Value.int .i64 0, Value.int .i64 268435456, Value.slice (some ⟨(w9.heap.size + 1 + 1), 0, none⟩) 1 1, Value.int .i64 (-1), Value.int .i64 (-1)] 38))).cell? ⟨(w9.heap.size + 1 + 1 + 1), 3, none⟩ = some (Value.int .i64 0) := (hX.out).cell 3; have t4 : (((((w9.alloc (.cells #[Value.int .i64 0, Value.int .i64 0, Value.int .i64 0, Value.int .i64 (-1), Value.int .i64 (-1), Value.int .i64 (-1), Value.int .i64 (-1), Value.int .i64 (-1), Value.int .i64 (-1), Value.int .i64 (-1), Value.int .i64 (-1)] 28)).alloc (.cells #[Value.int .i64 2, Value.int .i64 cost, Value.int .i64 1, Value.int .i64 rate] 32)).alloc (.cells #[Value.slice (some ⟨(w9.heap.size + 1), 0, none⟩) 1 1, Value.int .i64 0, Value.int .i64 0, Value.int .i64 0, Value.int .i64 (-1), Value.int .i64 (-1), Value.int .i64 (-1), Value.int .i64 (-1), Value.int .i64 (-1), Value.int .i64 (-1), Value.int .i64 (-1), Value.int .i64 (-1)] 35)).alloc (.cells #[Value.string (⟨#[84]⟩ : ByteArray), Value.string (⟨#[69, 85, 82]⟩ : ByteArray), Value.int .i64 1, Value.int .i64 0, Value.int .i64 268435456, Value.slice (some ⟨(w9.heap.size + 1 + 1), 0, none⟩) 1 1, Value.int .i64 (-1), Value.int .i64 (-1)] 38))).cell? ⟨(w9.heap.size + 1 + 1 + 1), 4, none⟩ = some (Value.int .i64 268435456) := (hX.out).cell 4; have t5 : (((((w9.alloc (.cells #[Value.int .i64 0, Value.int .i64 0, Value.int .i64 0, Value.int .i64 (-1), Value.int .i64 (-1), Value.int .i64 (-1), Value.int .i64 (-1), Value.int .i64 (-1), Value.int .i64 (-1), Value.int .i64 (-1), Value.int .i64 (-1)] 28)).alloc (.cells #[Value.int .i64 2, Value.int .i64 cost, Value.int .i64 1, Value.int .i64 rate] 32)).alloc (.cells #[Value.slice (some ⟨(w9.heap.size + 1), 0, none⟩) 1 1, Value.int .i64 0, Value.int .i64 0, Value.int .i64 0, Value.int .i64 (-1), Value.int .i64 (-1), Value.int .i64 (-1), Value.int .i64 (-1), Value.int .i64 (-1), Value.int .i64 (-1), Value.int .i64 (-1), Value.int .i64 (-1)] 35)).alloc (.cells #[Value.string (⟨#[84]⟩ : ByteArray), Value.string (⟨#[69, 85, 82]⟩ : ByteArray), Value.int .i64 1, Value.int .i64 0, Value.int .i64 268435456, Value.slice (some ⟨(w9.heap.size + 1 + 1), 0, none⟩) 1 1, Value.int .i64 (-1), Value.int .i64 (-1)] 38))).cell? ⟨(w9.heap.size + 1 + 1 + 1), 5, none⟩ = some (Value.slice (some ⟨(w9.heap.size + 1 + 1), 0, none⟩) 1 1) := (hX.out).cell 5; have t6 : (((((w9.alloc (.cells #[Value.int .i64 0, Value.int .i64 0, Value.int .i64 0, Value.int .i64 (-1), Value.int .i64 (-1), Value.int .i64 (-1), Value.int .i64 (-1), Value.int .i64 (-1), Value.int .i64 (-1), Value.int .i64 (-1), Value.int .i64 (-1)] 28)).alloc (.cells #[Value.int .i64 2, Value.int .i64 cost, Value.int .i64 1, Value.int .i64 rate] 32)).alloc (.cells #[Value.slice (some ⟨(w9.heap.size + 1), 0, none⟩) 1 1, Value.int .i64 0, Value.int .i64 0, Value.int .i64 0, Value.int .i64 (-1), Value.int .i64 (-1), Value.int .i64 (-1), Value.int .i64 (-1), Value.int .i64 (-1), Value.int .i64 (-1), Value.int .i64 (-1), Value.int .i64 (-1)] 35)).alloc (.cells #[Value.string (⟨#[84]⟩ : ByteArray), Value.string (⟨#[69, 85, 82]⟩ : ByteArray), Value.int .i64 1, Value.int .i64 0, Value.int .i64 268435456, Value.slice (some ⟨(w9.heap.size + 1 + 1), 0, none⟩) 1 1, Value.int .i64 (-1), Value.int .i64 (-1)] 38))).cell? ⟨(w9.heap.size + 1 + 1 + 1), 6, none⟩ = some (Value.int .i64 (-1)) := (hX.out).cell 6; have t7 : (((((w9.alloc (.cells #[Value.int .i64 0, Value.int .i64 0, Value.int .i64 0, Value.int .i64 (-1), Value.int .i64 (-1), Value.int .i64 (-1), Value.int .i64 (-1), Value.int .i64 (-1), Value.int .i64 (-1), Value.int .i64 (-1), Value.int .i64 (-1)] 28)).alloc (.cells #[Value.int .i64 2, Value.int .i64 cost, Value.int .i64 1, Value.int .i64 rate] 32)).alloc (.cells #[Value.slice (some ⟨(w9.heap.size + 1), 0, none⟩) 1 1, Value.int .i64 0, Value.int .i64 0, Value.int .i64 0, Value.int .i64 (-1), Value.int .i64 (-1), Value.int .i64 (-1), Value.int .i64 (-1), Value.int .i64 (-1), Value.int .i64 (-1), Value.int .i64 (-1), Value.int .i64 (-1)] 35)).alloc (.cells #[Value.string (⟨#[84]⟩ : ByteArray), Value.string (⟨#[69, 85, 82]⟩ : ByteArray), Value.int .i64 1, Value.int .i64 0, Value.int .i64 268435456, Value.slice (some ⟨(w9.heap.size + 1 + 1), 0, none⟩) 1 1, Value.int .i64 (-1), Value.int .i64 (-1)] 38))).cell? ⟨(w9.heap.size + 1 + 1 + 1), 7, none⟩ = some (Value.int .i64 (-1)) := (hX.out).cell 7
      clear hX0 hE0 hC0 hb1
      go_wp2_with fail
      refine (htv.out _ hT.out).mono ?_; rintro e w5 ⟨rfl, hq⟩
      replace hX := Lib.hid (hX.out.below hq hX.out.lt)
      replace hT := Lib.hid (hT.out.more hq)
      replace hb := Lib.hid (hb.out.trans (hq.mono hb.out.size))
      clear hq htv
      clear t0 t1 t2 t3 t4 t5 t6 t7
      go_wp2_with fail
      refine (unit_any _).mono ?_; rintro e w6 ⟨rfl, rfl⟩
      go_wp2_with fail
      refine (hto.out _ hb.out).mono ?_; rintro e w7 ⟨rfl, hq⟩
      replace hX := Lib.hid (hX.out.below hq hX.out.lt)
      replace hT := Lib.hid (hT.out.more hq)
      replace hb := Lib.hid (hb.out.trans (hq.mono hb.out.size))
      clear hq
      have t0 : (w7).cell? ⟨(w9.heap.size + 1 + 1 + 1), 0, none⟩ = some (Value.string (⟨#[84]⟩ : ByteArray)) := (hX.out).cell 0; have t1 : (w7).cell? ⟨(w9.heap.size + 1 + 1 + 1), 1, none⟩ = some (Value.string (⟨#[69, 85, 82]⟩ : ByteArray)) := (hX.out).cell 1; have t2 : (w7).cell? ⟨(w9.heap.size + 1 + 1 + 1), 2, none⟩ = some (Value.int .i64 1) := (hX.out).cell 2; have t3 : (w7).cell? ⟨(w9.heap.size + 1 + 1 + 1), 3, none⟩ = some (Value.int .i64 0) := (hX.out).cell 3; have t4 : (w7).cell? ⟨(w9.heap.size + 1 + 1 + 1), 4, none⟩ = some (Value.int .i64 268435456) := (hX.out).cell 4; have t5 : (w7).cell? ⟨(w9.heap.size + 1 + 1 + 1), 5, none⟩ = some (Value.slice (some ⟨(w9.heap.size + 1 + 1), 0, none⟩) 1 1) := (hX.out).cell 5; have t6 : (w7).cell? ⟨(w9.heap.size + 1 + 1 + 1), 6, none⟩ = some (Value.int .i64 (-1)) := (hX.out).cell 6; have t7 : (w7).cell? ⟨(w9.heap.size + 1 + 1 + 1), 7, none⟩ = some (Value.int .i64 (-1)) := (hX.out).cell 7
      go_wp2_with fail
      refine (hbi.out _ hb.out hT.out).mono ?_; rintro e w8 ⟨rfl, hq⟩
      replace hX := Lib.hid (hX.out.below hq hX.out.lt)
      replace hT := Lib.hid (hT.out.more hq)
      replace hb := Lib.hid (hb.out.trans (hq.mono hb.out.size))
      clear hq hbi hto
      clear t0 t1 t2 t3 t4 t5 t6 t7
      have hz : ((n : Int) == 0) = false := by have := hn3.out.1; simp; omega
      have hne : n ≠ 0 := by have := hn3.out.1; omega
      obtain ⟨q1, q2⟩ := hd.out
      have hk := hk9.out
      go_wp2_with fail
      clear hne hz hk q1 q2
      have hu0 := Lib.hid (uses_any (some ad) n c L w8 (LAt.more h.out hb.out) hG.out.h1 hG.out.hn hG.out.hv hG.out.hm)
      rw [← hNU.out] at hu0
      refine hu0.out.mono ?_; rintro e wu ⟨⟨gu, rfl, hgu, hu⟩, hq⟩
      replace hX := Lib.hid (hX.out.below hq hX.out.lt)
      replace hT := Lib.hid (hT.out.more hq)
      replace hb := Lib.hid (hb.out.trans (hq.mono hb.out.size))
      replace hu := Lib.hid hu
      have hnn : Hid (0 < n) := hn3.out.1
      clear hq hu0 hgu
      go_wp2_with fail
      have hcell : Hid (∀ wz, Below wu.heap.size wu wz → wz.cell? ⟨(w9.heap.size + 1 + 1 + 1), 0, none⟩ = some (Value.string (⟨#[84]⟩ : ByteArray)) ∧ wz.cell? ⟨(w9.heap.size + 1 + 1 + 1), 1, none⟩ = some (Value.string (⟨#[69, 85, 82]⟩ : ByteArray)) ∧ wz.cell? ⟨(w9.heap.size + 1 + 1 + 1), 2, none⟩ = some (Value.int .i64 1) ∧ wz.cell? ⟨(w9.heap.size + 1 + 1 + 1), 3, none⟩ = some (Value.int .i64 0) ∧ wz.cell? ⟨(w9.heap.size + 1 + 1 + 1), 4, none⟩ = some (Value.int .i64 268435456) ∧ wz.cell? ⟨(w9.heap.size + 1 + 1 + 1), 5, none⟩ = some (Value.slice (some ⟨(w9.heap.size + 1 + 1), 0, none⟩) 1 1) ∧ wz.cell? ⟨(w9.heap.size + 1 + 1 + 1), 6, none⟩ = some (Value.int .i64 (-1)) ∧ wz.cell? ⟨(w9.heap.size + 1 + 1 + 1), 7, none⟩ = some (Value.int .i64 (-1)) ∧ wz.cell? ad = some (Value.int .i64 first)) := fun wz hz => by
        have q := hX.out.below hz hX.out.lt
        exact ⟨q.cell 0, q.cell 1, q.cell 2, q.cell 3, q.cell 4, q.cell 5, q.cell 6, q.cell 7, (he.out wz (hb.out.trans (hz.mono hb.out.size))).2⟩
      have hrun : Hid (∀ wz, Below wu.heap.size wu wz → Calls Tryd.prog 10 #[.agg #[Value.string (⟨#[84]⟩ : ByteArray), Value.string (⟨#[69, 85, 82]⟩ : ByteArray), Value.int .i64 1, Value.int .i64 0, Value.int .i64 268435456, Value.slice (some ⟨(w9.heap.size + 1 + 1), 0, none⟩) 1 1, Value.int .i64 (-1), Value.int .i64 (-1)], .agg #[Value.int .i64 0, Value.bool false], .int .i64 first, .slice (some ⟨gu, 0, none⟩) NU NU] wz fun e w' => (∃ A n c, e = .returned (.tuple #[.slice A n c, .int .i64 0]) ∧ LAt (chC cost rate) 4 w' w'.heap.size A n (chL T) ∧ n ≤ c ∧ c ≤ maxLen) ∧ Below wz.heap.size wz w') := fun wz hz => hrn.out gu wz (hb.out.trans (hz.mono hb.out.size)) (hT.out.more hz) (hu.out.more hz)
      refine RU.region [] [] 12 (F := F3c (w9.heap.size + 1 + 1 + 1) (w9.heap.size + 1 + 1) n c gu NU ad cost rate first T) (W := fun wz => Below wu.heap.size wu wz) (R := fun _ => Rb) rfl F3c_more (by kernel_rfl) (by kernel_rfl) (by kernel_rfl) (by kernel_rfl) (by kernel_rfl) (by kernel_rfl) ?_ ?_ ?_ ?_
      · exact (Below.refl _ _).drew
      · intro t ht
        unfold F3c
        split <;> first | trivial | exact rfl | (exact absurd ht (by decide))
      · intro i o hi ho
        have hcs : i = 0 ∨ i = 1 ∨ i = 2 ∨ i = 3 ∨ i = 4 ∨ i = 5 ∨ i = 6 ∨ i = 7 ∨ i = 8 ∨ i = 9 ∨ i = 10 ∨ i = 11 := by omega
        rcases hcs with rfl | rfl | rfl | rfl | rfl | rfl | rfl | rfl | rfl | rfl | rfl | rfl <;> (injection ho with ho; subst ho)
        · intro a w2 hw _ hf K hK
          have f0 := hf 10 rfl
          simp only [F3c] at f0
          clear hf
          obtain ⟨k0, k1, k2, k3, k4, k5, k6, k7, e0⟩ := hcell.out w2 hw
          go_simp
          exact hK _ _ _ rfl rfl hw (Below.refl _ _) (fun h => absurd h (by decide))
        · intro a w2 hw _ hf K hK
          clear hf
          go_simp
          exact hK _ _ _ rfl rfl hw (Below.refl _ _) (fun h => absurd h (by decide))
        · intro a w2 hw _ hf K hK
          have f0 := hf 0 rfl
          simp only [F3c] at f0
          clear hf
          go_simp
          exact hK _ _ _ rfl rfl hw (Below.refl _ _) (fun h => absurd h (by decide))
        · intro a w2 hw _ hf K hK
          have f0 := hf 147 rfl
          simp only [F3c] at f0
          clear hf
          have hn1 := hnn.out
          go_simp
          exact hK _ _ _ rfl rfl hw (Below.refl _ _) (fun h => absurd h (by decide))
        · intro a w2 hw _ hf K hK
          have f0 := hf 148 rfl
          simp only [F3c] at f0
          clear hf
          go_simp
          exact hK _ _ _ rfl rfl hw (Below.refl _ _) (fun h => absurd h (by decide))
        · intro a w2 hw _ hf K hK
          have f0 := hf 149 rfl
          simp only [F3c] at f0
          clear hf
          obtain ⟨k0, k1, k2, k3, k4, k5, k6, k7, e0⟩ := hcell.out w2 hw
          go_simp
          exact hK _ _ _ rfl rfl hw (Below.refl _ _) (fun h => absurd h (by decide))
        · intro a w2 hw _ hf K hK
          have f0 := hf 17 rfl
          simp only [F3c] at f0
          clear hf
          go_simp
          exact hK _ _ _ rfl rfl hw (Below.refl _ _) (fun h => absurd h (by decide))
        · intro a w2 hw _ hf K hK
          have f0 := hf 145 rfl
          have f1 := hf 146 rfl
          have f2 := hf 150 rfl
          have f3 := hf 151 rfl
          simp only [F3c] at f0 f1 f2 f3
          clear hf
          go_simp
          refine (hrun.out w2 hw).mono ?_; rintro e w5 ⟨⟨A7, n7, c7, rfl, r1, r2, r3⟩, hb⟩
          exact hK _ _ _ rfl ⟨A7, n7, c7, rfl, r1, r2, r3⟩ (hw.trans (hb.mono hw.size)) hb (fun h => absurd h (by decide))
        · intro a w2 hw _ hf K hK
          have f0 := hf 152 rfl
          simp only [F3c] at f0
          clear hf
          obtain ⟨A7, n7, c7, e0, r1, r2, r3⟩ := f0
          go_simp
          exact hK _ _ _ rfl ⟨A7, n7, c7, rfl, r1, r2, r3⟩ hw (Below.refl _ _) (fun h => absurd h (by decide))
        · intro a w2 hw _ hf K hK
          have f0 := hf 144 rfl
          simp only [F3c] at f0
          clear hf
          obtain ⟨A7, n7, c7, e0, r1, r2, r3⟩ := f0
          go_simp
          exact hK _ _ _ rfl ⟨A7, n7, c7, rfl, r1, r2, r3⟩ hw (Below.refl _ _) (fun h => absurd h (by decide))
        · intro a w2 hw _ hf K hK
          have f0 := hf 144 rfl
          simp only [F3c] at f0
          clear hf
          obtain ⟨A7, n7, c7, e0, r1, r2, r3⟩ := f0
          go_simp
          exact hK _ _ _ rfl rfl hw (Below.refl _ _) (fun h => absurd h (by decide))
        · intro a w2 hw _ hf K hK
          have f0 := hf 153 rfl
          simp only [F3c] at f0
          clear hf
          obtain ⟨A7, n7, c7, e0, r1, r2, r3⟩ := f0
          go_simp
          exact hK _ _ _ rfl ⟨A7, n7, c7, rfl, r1, r2, r3⟩ hw (Below.refl _ _) (fun h => absurd h (by decide))
      · intro a' wr hd hs hw hout hf
        have h19 := hf 11 19 (by decide) rfl rfl
        simp only [F3c] at h19
        have h154 := hf 10 154 (by decide) rfl rfl
        simp only [F3c] at h154
        have e0 : _ = some (Value.slice (some ad) n c) := hout 0 rfl
        have e10 : _ = some (Value.pointer (some ⟨(w9.heap.size + 1 + 1 + 1), 0, none⟩)) := hout 10 rfl
        have e11 : _ = some (Value.int .i64 T) := hout 11 rfl
        have e17 : _ = some (Value.slice (some ⟨gu, 0, none⟩) NU NU) := hout 17 rfl
        obtain ⟨tm, df⟩ := a'
        simp only at hd hs h19 h154 e0 e10 e11 e17
        rw [← sl_eq tm 19] at h19
        rw [← sl_eq tm 154] at h154
        replace e0 := sl_some e0
        replace e10 := sl_some e10
        replace e11 := sl_some e11
        replace e17 := sl_some e17
        have e := lit232 tm hs
        simp only [h154, e0, e10, e11, e17] at e
        clear hf hout hs
        rw [e, hd]
        clear e hd h154 e0 e10 e11 e17
        generalize sl tm 19 = v19x at h19 ⊢
        generalize sl tm 1 = v1x, sl tm 2 = v2x, sl tm 3 = v3x, sl tm 4 = v4x, sl tm 5 = v5x, sl tm 6 = v6x, sl tm 7 = v7x, sl tm 8 = v8x, sl tm 9 = v9x, sl tm 12 = v12x, sl tm 13 = v13x, sl tm 14 = v14x, sl tm 15 = v15x, sl tm 16 = v16x, sl tm 18 = v18x, sl tm 20 = v20x, sl tm 21 = v21x, sl tm 22 = v22x, sl tm 23 = v23x, sl tm 24 = v24x, sl tm 25 = v25x, sl tm 26 = v26x, sl tm 27 = v27x, sl tm 28 = v28x, sl tm 29 = v29x, sl tm 30 = v30x, sl tm 31 = v31x, sl tm 32 = v32x, sl tm 33 = v33x, sl tm 34 = v34x, sl tm 35 = v35x, sl tm 36 = v36x, sl tm 37 = v37x, sl tm 38 = v38x, sl tm 39 = v39x, sl tm 40 = v40x, sl tm 41 = v41x, sl tm 42 = v42x, sl tm 43 = v43x, sl tm 44 = v44x, sl tm 45 = v45x, sl tm 46 = v46x, sl tm 47 = v47x, sl tm 48 = v48x, sl tm 49 = v49x, sl tm 50 = v50x, sl tm 51 = v51x, sl tm 52 = v52x, sl tm 53 = v53x, sl tm 54 = v54x, sl tm 55 = v55x, sl tm 56 = v56x, sl tm 57 = v57x, sl tm 58 = v58x, sl tm 59 = v59x, sl tm 60 = v60x, sl tm 61 = v61x, sl tm 62 = v62x, sl tm 63 = v63x, sl tm 64 = v64x, sl tm 65 = v65x, sl tm 66 = v66x, sl tm 67 = v67x, sl tm 68 = v68x, sl tm 69 = v69x, sl tm 70 = v70x, sl tm 71 = v71x, sl tm 72 = v72x, sl tm 73 = v73x, sl tm 74 = v74x, sl tm 75 = v75x, sl tm 76 = v76x, sl tm 77 = v77x, sl tm 78 = v78x, sl tm 79 = v79x, sl tm 80 = v80x, sl tm 81 = v81x, sl tm 82 = v82x, sl tm 83 = v83x, sl tm 84 = v84x, sl tm 85 = v85x, sl tm 86 = v86x, sl tm 87 = v87x, sl tm 88 = v88x, sl tm 89 = v89x, sl tm 90 = v90x, sl tm 91 = v91x, sl tm 92 = v92x, sl tm 93 = v93x, sl tm 94 = v94x, sl tm 95 = v95x, sl tm 96 = v96x, sl tm 97 = v97x, sl tm 98 = v98x, sl tm 99 = v99x, sl tm 100 = v100x, sl tm 101 = v101x, sl tm 102 = v102x, sl tm 103 = v103x, sl tm 104 = v104x, sl tm 105 = v105x, sl tm 106 = v106x, sl tm 107 = v107x, sl tm 108 = v108x, sl tm 109 = v109x, sl tm 110 = v110x, sl tm 111 = v111x, sl tm 112 = v112x, sl tm 113 = v113x, sl tm 114 = v114x, sl tm 115 = v115x, sl tm 116 = v116x, sl tm 117 = v117x, sl tm 118 = v118x, sl tm 119 = v119x, sl tm 120 = v120x, sl tm 121 = v121x, sl tm 122 = v122x, sl tm 123 = v123x, sl tm 124 = v124x, sl tm 125 = v125x, sl tm 126 = v126x, sl tm 127 = v127x, sl tm 128 = v128x, sl tm 129 = v129x, sl tm 130 = v130x, sl tm 131 = v131x, sl tm 132 = v132x, sl tm 133 = v133x, sl tm 134 = v134x, sl tm 135 = v135x, sl tm 136 = v136x, sl tm 137 = v137x, sl tm 138 = v138x, sl tm 139 = v139x, sl tm 140 = v140x, sl tm 141 = v141x, sl tm 142 = v142x, sl tm 143 = v143x, sl tm 144 = v144x, sl tm 145 = v145x, sl tm 146 = v146x, sl tm 147 = v147x, sl tm 148 = v148x, sl tm 149 = v149x, sl tm 150 = v150x, sl tm 151 = v151x, sl tm 152 = v152x, sl tm 153 = v153x, sl tm 155 = v155x, sl tm 156 = v156x, sl tm 157 = v157x, sl tm 158 = v158x, sl tm 159 = v159x, sl tm 160 = v160x, sl tm 161 = v161x, sl tm 162 = v162x, sl tm 163 = v163x, sl tm 164 = v164x, sl tm 165 = v165x, sl tm 166 = v166x, sl tm 167 = v167x, sl tm 168 = v168x, sl tm 169 = v169x, sl tm 170 = v170x, sl tm 171 = v171x, sl tm 172 = v172x, sl tm 173 = v173x, sl tm 174 = v174x, sl tm 175 = v175x, sl tm 176 = v176x, sl tm 177 = v177x, sl tm 178 = v178x, sl tm 179 = v179x, sl tm 180 = v180x, sl tm 181 = v181x, sl tm 182 = v182x, sl tm 183 = v183x, sl tm 184 = v184x, sl tm 185 = v185x, sl tm 186 = v186x, sl tm 187 = v187x, sl tm 188 = v188x, sl tm 189 = v189x, sl tm 190 = v190x, sl tm 191 = v191x, sl tm 192 = v192x, sl tm 193 = v193x, sl tm 194 = v194x, sl tm 195 = v195x, sl tm 196 = v196x, sl tm 197 = v197x, sl tm 198 = v198x, sl tm 199 = v199x, sl tm 200 = v200x, sl tm 201 = v201x, sl tm 202 = v202x, sl tm 203 = v203x, sl tm 204 = v204x, sl tm 205 = v205x, sl tm 206 = v206x, sl tm 207 = v207x, sl tm 208 = v208x, sl tm 209 = v209x, sl tm 210 = v210x, sl tm 211 = v211x, sl tm 212 = v212x, sl tm 213 = v213x, sl tm 214 = v214x, sl tm 215 = v215x, sl tm 216 = v216x, sl tm 217 = v217x, sl tm 218 = v218x, sl tm 219 = v219x, sl tm 220 = v220x, sl tm 221 = v221x, sl tm 222 = v222x, sl tm 223 = v223x, sl tm 224 = v224x, sl tm 225 = v225x, sl tm 226 = v226x, sl tm 227 = v227x, sl tm 228 = v228x, sl tm 229 = v229x, sl tm 230 = v230x, sl tm 231 = v231x
        obtain ⟨A7, n7, c7, rfl, r1, r2, r3⟩ := h19
        have hLc := Lib.hid r1
        have hX9 := Lib.hid (hX.out.below hw hX.out.lt)
        have hb9 : Hid (Below w.heap.size w wr) := hb.out.trans (hw.mono hb.out.size)
        have h7 : Hid (n7 ≤ 64) := by show _ ≤ _; have a := hLc.out.len; have b := hCI.out.2.1; omega
        have hit := Lib.hid (items_any A7 n7 c7 cost rate (chL T) wr hLc.out h7.out hCI.out.2.2 hB.out.1 hB.out.2.1 hB.out.2.2.1 hB.out.2.2.2)
        have hl7 := Lib.hid hLc.out.len
        clear hcell hw hb hrun r2 r3 r1 hX hT hu hLc h7
        simp only [List.drop_succ_cons, List.drop_zero]
        go_wp2_with fail
        refine hit.out.mono ?_; rintro e wi ⟨⟨gi, rfl, hI⟩, hq⟩
        have hb := Lib.hid (hb9.out.trans (hq.mono hb9.out.size))
        have hI := Lib.hid hI
        clear hq hit hb9
        by_cases hT0 : T ≤ 0
        · obtain rfl : T = 0 := by have := hCI.out.1; have := hT1.out; omega
          have h70 : n7 = 0 := by have a := hl7.out; unfold chL at a; rw [if_pos (by omega)] at a; exact a.symm
          subst h70
          clear hT0
          go_wp2_with fail
          go_ret
          exact ⟨rfl, hb.out⟩
        · have h71 : n7 = 1 := by have a := hl7.out; unfold chL at a; rw [if_neg hT0] at a; exact a.symm
          subst h71
          replace hI : Hid (ItAt wi (some ⟨gi, 0, none⟩) 1 [itR cost rate T]) := by have a := hI.out; unfold chL at a; rw [if_neg hT0] at a; exact a
          have hsm := Lib.hid (small1 hB.out.1 hB.out.2.1 hB.out.2.2.1 hB.out.2.2.2 hT1.out.1 (by have := hT1.out.2; omega))
          generalize itR cost rate T = x at *
          have hT0 := Lib.hid hT0
          have e1 : wi.cell? (ad.add ((n - 1) * 2)) = some (Value.int .i64 last) := (he.out wi hb.out).1
          obtain ⟨q1, q2, q3⟩ := hn3.out
          have q5 : ((n : Int) - 1).toNat = n - 1 := by omega
          have q6 : (0 : Int) ≤ (n : Int) - 1 := by omega
          have q7 : (n : Int) - 1 < n := by omega
          have his := Lib.hid (issue_any none 0 0 [] cA cE last (some ⟨gi, 0, none⟩) 1 1 [x] wi (GoodM.nil _) ⟨hI.out, Nat.le_refl _, by simp only [maxLen]; omega⟩ (by omega) (by omega))
          go_wp2_with fail
          refine his.out.mono ?_; rintro e wj ⟨hr, hq⟩
          obtain ⟨A1, n1, c1, L1, rfl, hG1, hv1⟩ := hr.of (iss1 hla.out.1 hla.out.2 hsm.out) (val1 hla.out.1 hla.out.2 hsm.out)
          have hbj : Hid (Below w.heap.size w (wj.alloc (.cells #[Value.slice A1 n1 c1] 57))) := (hb.out.trans (hq.mono hb.out.size)).alloc (hb.out.trans (hq.mono hb.out.size)).size _
          have hI2 := Lib.hid (hI.out.more (hq.alloc hq.size (.cells #[Value.slice A1 n1 c1] 57)))
          have hG2 := Lib.hid (hG1.more (a1 wj (.cells #[Value.slice A1 n1 c1] 57)))
          have hgbw : Hid (w.heap.size ≤ wj.heap.size) := (hb.out.trans (hq.mono hb.out.size)).size
          have hBox := Lib.hid (Blk.new wj 57 #[Value.slice A1 n1 c1])
          have hto := Lib.hid (totals_any (some ⟨gi, 0, none⟩) 1 1 [x] _ hI2.out (by omega) hsm.out)
          replace hv1 := Lib.hid hv1
          clear hr hq his hb hI hG1 e1
          go_wp2_with fail
          refine hto.out.mono ?_; rintro e wk ⟨rfl, hq⟩
          replace hbj := Lib.hid (hbj.out.trans (hq.mono hbj.out.size))
          replace hG2 := Lib.hid (hG2.out.more hq)
          replace hBox := Lib.hid (hBox.out.below hq hBox.out.lt)
          have k0 : wk.cell? ⟨wj.heap.size, 0, none⟩ = some (Value.slice A1 n1 c1) := hBox.out.cell 0
          have hdu := Lib.hid (due_any A1 n1 c1 L1 cA cE wk hG2.out)
          rw [hv1.out, due1] at hdu
          generalize netS [x] = N1 at *
          generalize vatS [x] = N2 at *
          generalize grossS [x] = N3 at *
          clear hq hto hI2
          go_wp2_with fail
          refine hdu.out.mono ?_; rintro e wl ⟨rfl, hq⟩
          replace hbj := Lib.hid (hbj.out.trans (hq.mono hbj.out.size))
          replace hG2 := Lib.hid (hG2.out.more hq)
          replace hBox := Lib.hid (hBox.out.below hq hBox.out.lt)
          clear hq hdu k0
          go_wp2_with fail
          have hn255 : Hid (n1 ≤ 255) := by show _ ≤ _; have a := hG2.out.at_.len; have b := congrArg List.length hv1.out; rw [List.length_map] at b; have d : (bk1 last x).length = 1 := rfl; omega
          have hbox : Hid ((∀ wz, Below wl.heap.size wl wz → wz.cell? ⟨wj.heap.size, 0, none⟩ = some (Value.slice A1 n1 c1)) ∧ (∀ wz, Below wl.heap.size wl wz → wz.frozen? ⟨wj.heap.size, 0, none⟩ = false)) := ⟨fun wz hz => (hBox.out.below hz hBox.out.lt).cell 0, fun wz hz => (hBox.out.below hz hBox.out.lt).frozen 0⟩
          have hlast : Hid (∀ wz, Below wl.heap.size wl wz → wz.cell? (ad.add ((n - 1) * 2)) = some (Value.int .i64 last)) := fun wz hz => (he.out wz (hbj.out.trans (hz.mono hbj.out.size))).1
          have hcr : Hid (∀ wz, Below wl.heap.size wl wz → Calls Tryd.prog 15 #[.agg #[Value.slice A1 n1 c1], .int .i64 1, .int .i64 last] wz fun e w' => (∃ v9, e = .returned v9 ∧ BkT2 wj.heap.size (bk2 last x) v9 w') ∧ Below wz.heap.size wz w') := fun wz hz => (credit_any A1 n1 c1 L1 1 last wz (hG2.out.more hz) hn255.out).mono (by
            rintro e w' ⟨hr, hq⟩
            obtain ⟨A2, n2, c2, L2, rfl, hG, hv⟩ := hr.of (by rw [hv1.out]; exact cre1 hla.out.1 hla.out.2 hsm.out) (val2 hla.out.1 hla.out.2 hsm.out)
            exact ⟨⟨_, rfl, A2, n2, c2, L2, rfl, ⟨hG, Nat.lt_of_lt_of_le hBox.out.lt (Nat.le_trans hz.size hq.size)⟩, hv⟩, hq⟩)
          refine RW.region [] [] 13 12 (F := fun _ => F3d ad n c wj.heap.size n1 c1 A1 last (bk2 last x)) (W := fun ph wz => if ph = true then ∃ (w8 : World) (A2 : Option Addr) (n2 c2 : Nat) (L2 : List Im), Below wl.heap.size wl w8 ∧ wz = w8.setCell ⟨wj.heap.size, 0, none⟩ (Value.slice A2 n2 c2) ∧ (GoodM w8 A2 n2 c2 L2 ∧ wj.heap.size < w8.heap.size) ∧ L2.map Im.val = bk2 last x else Below wl.heap.size wl wz) (R := fun _ => Rb) rfl (fun _ => F3d_more) (by kernel_rfl) (by kernel_rfl) (by kernel_rfl) (by kernel_rfl) (by kernel_rfl) (by kernel_rfl) (by decide) rfl rfl ?_ ?_ ?_ ?_ ?_
          · show if false = true then _ else _
            rw [if_neg (by decide)]
            exact (Below.refl _ _).drew
          · intro t ht
            unfold F3d
            split <;> first | trivial | exact rfl | (exact absurd ht (by decide))
          · intro ph i o hi his hpa ho
            have hcs : i = 0 ∨ i = 1 ∨ i = 2 ∨ i = 3 ∨ i = 4 ∨ i = 5 ∨ i = 6 ∨ i = 7 ∨ i = 8 ∨ i = 9 ∨ i = 10 ∨ i = 11 := by omega
            rcases hcs with rfl | rfl | rfl | rfl | rfl | rfl | rfl | rfl | rfl | rfl | rfl | rfl <;> (injection ho with ho; subst ho)
            · have hph : ph = false := by
                cases ph with
                | false => rfl
                | true => exact absurd ((show RW.ahead _ 12 0 = true by kernel_rfl).symm.trans (hpa rfl)) (by decide)
              subst hph
              intro a w2 hw0 _ hf K hK
              have hK' : ∀ d v w', _ = some d → F3d ad n c wj.heap.size n1 c1 A1 last (bk2 last x) d v w' → (Below wl.heap.size wl w') → Rb w2 w' → _ → K (a.put (some d) v) w' := fun d v w' h1 h2 h3 h4 h5 => hK d v w' h1 h2 (by simpa using h3) h4 h5
              have hw : Below wl.heap.size wl w2 := by simpa using hw0
              have f0 := hf 22 rfl
              simp only [F3d] at f0
              clear hf
              have k0 := hbox.out.1 w2 hw
              go_simp
              exact hK' _ _ _ rfl rfl hw (Below.refl _ _) (fun h => absurd h (by decide))
            · have hph : ph = false := by
                cases ph with
                | false => rfl
                | true => exact absurd ((show RW.ahead _ 12 1 = true by kernel_rfl).symm.trans (hpa rfl)) (by decide)
              subst hph
              intro a w2 hw0 _ hf K hK
              have hK' : ∀ d v w', _ = some d → F3d ad n c wj.heap.size n1 c1 A1 last (bk2 last x) d v w' → (Below wl.heap.size wl w') → Rb w2 w' → _ → K (a.put (some d) v) w' := fun d v w' h1 h2 h3 h4 h5 => hK d v w' h1 h2 (by simpa using h3) h4 h5
              have hw : Below wl.heap.size wl w2 := by simpa using hw0
              have f0 := hf 0 rfl
              simp only [F3d] at f0
              clear hf
              go_simp
              exact hK' _ _ _ rfl rfl hw (Below.refl _ _) (fun h => absurd h (by decide))
            · have hph : ph = false := by
                cases ph with
                | false => rfl
                | true => exact absurd ((show RW.ahead _ 12 2 = true by kernel_rfl).symm.trans (hpa rfl)) (by decide)
              subst hph
              intro a w2 hw0 _ hf K hK
              have hK' : ∀ d v w', _ = some d → F3d ad n c wj.heap.size n1 c1 A1 last (bk2 last x) d v w' → (Below wl.heap.size wl w') → Rb w2 w' → _ → K (a.put (some d) v) w' := fun d v w' h1 h2 h3 h4 h5 => hK d v w' h1 h2 (by simpa using h3) h4 h5
              have hw : Below wl.heap.size wl w2 := by simpa using hw0
              have f0 := hf 0 rfl
              simp only [F3d] at f0
              clear hf
              go_simp
              exact hK' _ _ _ rfl rfl hw (Below.refl _ _) (fun h => absurd h (by decide))
            · have hph : ph = false := by
                cases ph with
                | false => rfl
                | true => exact absurd ((show RW.ahead _ 12 3 = true by kernel_rfl).symm.trans (hpa rfl)) (by decide)
              subst hph
              intro a w2 hw0 _ hf K hK
              have hK' : ∀ d v w', _ = some d → F3d ad n c wj.heap.size n1 c1 A1 last (bk2 last x) d v w' → (Below wl.heap.size wl w') → Rb w2 w' → _ → K (a.put (some d) v) w' := fun d v w' h1 h2 h3 h4 h5 => hK d v w' h1 h2 (by simpa using h3) h4 h5
              have hw : Below wl.heap.size wl w2 := by simpa using hw0
              have f0 := hf 210 rfl
              simp only [F3d] at f0
              clear hf
              go_simp
              exact hK' _ _ _ rfl rfl hw (Below.refl _ _) (fun h => absurd h (by decide))
            · have hph : ph = false := by
                cases ph with
                | false => rfl
                | true => exact absurd ((show RW.ahead _ 12 4 = true by kernel_rfl).symm.trans (hpa rfl)) (by decide)
              subst hph
              intro a w2 hw0 _ hf K hK
              have hK' : ∀ d v w', _ = some d → F3d ad n c wj.heap.size n1 c1 A1 last (bk2 last x) d v w' → (Below wl.heap.size wl w') → Rb w2 w' → _ → K (a.put (some d) v) w' := fun d v w' h1 h2 h3 h4 h5 => hK d v w' h1 h2 (by simpa using h3) h4 h5
              have hw : Below wl.heap.size wl w2 := by simpa using hw0
              have f0 := hf 211 rfl
              simp only [F3d] at f0
              clear hf
              obtain ⟨q1, q2, q3⟩ := hn3.out
              go_simp
              exact hK' _ _ _ rfl (by show _ = _; rw [IntWalk.i64_in _ (by omega)]) hw (Below.refl _ _) (fun h => absurd h (by decide))
            · have hph : ph = false := by
                cases ph with
                | false => rfl
                | true => exact absurd ((show RW.ahead _ 12 5 = true by kernel_rfl).symm.trans (hpa rfl)) (by decide)
              subst hph
              intro a w2 hw0 _ hf K hK
              have hK' : ∀ d v w', _ = some d → F3d ad n c wj.heap.size n1 c1 A1 last (bk2 last x) d v w' → (Below wl.heap.size wl w') → Rb w2 w' → _ → K (a.put (some d) v) w' := fun d v w' h1 h2 h3 h4 h5 => hK d v w' h1 h2 (by simpa using h3) h4 h5
              have hw : Below wl.heap.size wl w2 := by simpa using hw0
              have f0 := hf 209 rfl
              have f1 := hf 212 rfl
              simp only [F3d] at f0 f1
              clear hf
              obtain ⟨q1, q2, q3⟩ := hn3.out
              have q5 : ((n : Int) - 1).toNat = n - 1 := by omega
              have q6 : (0 : Int) ≤ (n : Int) - 1 := by omega
              have q7 : (n : Int) - 1 < n := by omega
              have q8 : (1 : Int) ≤ n := by omega
              go_simp
              exact hK' _ _ _ rfl rfl hw (Below.refl _ _) (fun h => absurd h (by decide))
            · have hph : ph = false := by
                cases ph with
                | false => rfl
                | true => exact absurd ((show RW.ahead _ 12 6 = true by kernel_rfl).symm.trans (hpa rfl)) (by decide)
              subst hph
              intro a w2 hw0 _ hf K hK
              have hK' : ∀ d v w', _ = some d → F3d ad n c wj.heap.size n1 c1 A1 last (bk2 last x) d v w' → (Below wl.heap.size wl w') → Rb w2 w' → _ → K (a.put (some d) v) w' := fun d v w' h1 h2 h3 h4 h5 => hK d v w' h1 h2 (by simpa using h3) h4 h5
              have hw : Below wl.heap.size wl w2 := by simpa using hw0
              have f0 := hf 213 rfl
              simp only [F3d] at f0
              clear hf
              go_simp
              exact hK' _ _ _ rfl rfl hw (Below.refl _ _) (fun h => absurd h (by decide))
            · have hph : ph = false := by
                cases ph with
                | false => rfl
                | true => exact absurd ((show RW.ahead _ 12 7 = true by kernel_rfl).symm.trans (hpa rfl)) (by decide)
              subst hph
              intro a w2 hw0 _ hf K hK
              have hK' : ∀ d v w', _ = some d → F3d ad n c wj.heap.size n1 c1 A1 last (bk2 last x) d v w' → (Below wl.heap.size wl w') → Rb w2 w' → _ → K (a.put (some d) v) w' := fun d v w' h1 h2 h3 h4 h5 => hK d v w' h1 h2 (by simpa using h3) h4 h5
              have hw : Below wl.heap.size wl w2 := by simpa using hw0
              have f0 := hf 214 rfl
              simp only [F3d] at f0
              clear hf
              have e1 := hlast.out w2 hw
              go_simp
              exact hK' _ _ _ rfl rfl hw (Below.refl _ _) (fun h => absurd h (by decide))
            · have hph : ph = false := by
                cases ph with
                | false => rfl
                | true => exact absurd ((show RW.ahead _ 12 8 = true by kernel_rfl).symm.trans (hpa rfl)) (by decide)
              subst hph
              intro a w2 hw0 _ hf K hK
              have hK' : ∀ d v w', _ = some d → F3d ad n c wj.heap.size n1 c1 A1 last (bk2 last x) d v w' → (Below wl.heap.size wl w') → Rb w2 w' → _ → K (a.put (some d) v) w' := fun d v w' h1 h2 h3 h4 h5 => hK d v w' h1 h2 (by simpa using h3) h4 h5
              have hw : Below wl.heap.size wl w2 := by simpa using hw0
              have f0 := hf 208 rfl
              have f1 := hf 215 rfl
              simp only [F3d] at f0 f1
              clear hf
              go_simp
              refine (hcr.out w2 hw).mono ?_; rintro e w5 ⟨hP, hbq⟩
              obtain ⟨v9, rfl, hT⟩ := hP
              exact hK' _ _ _ rfl hT (hw.trans (hbq.mono hw.size)) hbq (fun h => absurd h (by decide))
            · have hph : ph = false := by
                cases ph with
                | false => rfl
                | true => exact absurd ((show RW.ahead _ 12 9 = true by kernel_rfl).symm.trans (hpa rfl)) (by decide)
              subst hph
              intro a w2 hw0 _ hf K hK
              have hK' : ∀ d v w', _ = some d → F3d ad n c wj.heap.size n1 c1 A1 last (bk2 last x) d v w' → (Below wl.heap.size wl w') → Rb w2 w' → _ → K (a.put (some d) v) w' := fun d v w' h1 h2 h3 h4 h5 => hK d v w' h1 h2 (by simpa using h3) h4 h5
              have hw : Below wl.heap.size wl w2 := by simpa using hw0
              have f0 := hf 216 rfl
              simp only [F3d] at f0
              clear hf
              have hT := Lib.hid f0
              clear f0
              go_simp
              exact hK' _ _ _ rfl hT.out hw (Below.refl _ _) (fun h => absurd h (by decide))
            · have hph : ph = false := by
                cases ph with
                | false => rfl
                | true => exact absurd ((show RW.ahead _ 12 10 = true by kernel_rfl).symm.trans (hpa rfl)) (by decide)
              subst hph
              intro a w2 hw0 _ hf K hK
              have hK' : ∀ d v w', _ = some d → F3d ad n c wj.heap.size n1 c1 A1 last (bk2 last x) d v w' → (Below wl.heap.size wl w') → Rb w2 w' → _ → K (a.put (some d) v) w' := fun d v w' h1 h2 h3 h4 h5 => hK d v w' h1 h2 (by simpa using h3) h4 h5
              have hw : Below wl.heap.size wl w2 := by simpa using hw0
              have f0 := hf 207 rfl
              simp only [F3d] at f0
              clear hf
              obtain ⟨A2, n2, c2, L2, hv, h1, h2⟩ := f0
              replace h1 := Lib.hid h1
              replace h2 := Lib.hid h2
              go_simp
              exact hK' _ _ _ rfl ⟨A2, n2, c2, L2, rfl, h1.out, h2.out⟩ hw (Below.refl _ _) (fun h => absurd h (by decide))
            · intro a w2 hw _ hf K hK
              have f0 := hf 207 rfl
              simp only [F3d] at f0
              clear hf
              obtain ⟨A2, n2, c2, L2, hv, h1, h2⟩ := f0
              replace h1 := Lib.hid h1
              replace h2 := Lib.hid h2
              go_simp
              exact hK _ _ _ rfl rfl hw (Below.refl _ _) (fun h => absurd h (by decide))
          · intro o ho a w2 hw0 hf K hK
            injection ho with ho
            subst ho
            have hw : Below wl.heap.size wl w2 := by simpa using hw0
            have f0 := hf 22 rfl
            have f1 := hf 217 rfl
            simp only [F3d] at f0 f1
            clear hf
            obtain ⟨A2, n2, c2, L2, hl9, q1, q2⟩ := f1
            have q1 := Lib.hid q1
            have q2 := Lib.hid q2
            have k0 := hbox.out.1 w2 hw
            have z0 := hbox.out.2 w2 hw
            have hB9 := Lib.hid (hBox.out.below hw hBox.out.lt)
            have hg1 := Lib.hid (only_set (World.grownBy.refl w2 (some wj.heap.size)) 0 (Value.slice A2 n2 c2))
            go_simp
            exact hK undef _ (by show if true = true then _ else _; rw [if_pos rfl]; exact ⟨w2, A2, n2, c2, L2, hw, rfl, q1.out, q2.out⟩) (fun t u hF => F3d_st t u w2 _ hB9.out hg1.out hF)
          · intro a' wq hd hs hw hout hf
            replace hw : ∃ (w8 : World) (A2 : Option Addr) (n2 c2 : Nat) (L2 : List Im), Below wl.heap.size wl w8 ∧ wq = w8.setCell ⟨wj.heap.size, 0, none⟩ (Value.slice A2 n2 c2) ∧ (GoodM w8 A2 n2 c2 L2 ∧ wj.heap.size < w8.heap.size) ∧ L2.map Im.val = bk2 last x := by simpa using hw
            have h218 := hf 11 218 (by decide) rfl rfl
            simp only [F3d] at h218
            have e0 : _ = some (Value.slice (some ad) n c) := hout 0 rfl
            have e22 : _ = some (Value.pointer (some ⟨wj.heap.size, 0, none⟩)) := hout 22 rfl
            obtain ⟨tm, df⟩ := a'
            simp only at hd hs h218 e0 e22
            rw [← sl_eq tm 218] at h218
            replace e0 := sl_some e0
            replace e22 := sl_some e22
            have e := lit232 tm hs
            simp only [h218, e0, e22] at e
            clear hf hout hs
            rw [e, hd]
            clear e hd h218 e0 e22
            generalize sl tm 1 = y1x, sl tm 2 = y2x, sl tm 3 = y3x, sl tm 4 = y4x, sl tm 5 = y5x, sl tm 6 = y6x, sl tm 7 = y7x, sl tm 8 = y8x, sl tm 9 = y9x, sl tm 10 = y10x, sl tm 11 = y11x, sl tm 12 = y12x, sl tm 13 = y13x, sl tm 14 = y14x, sl tm 15 = y15x, sl tm 16 = y16x, sl tm 17 = y17x, sl tm 18 = y18x, sl tm 19 = y19x, sl tm 20 = y20x, sl tm 21 = y21x, sl tm 23 = y23x, sl tm 24 = y24x, sl tm 25 = y25x, sl tm 26 = y26x, sl tm 27 = y27x, sl tm 28 = y28x, sl tm 29 = y29x, sl tm 30 = y30x, sl tm 31 = y31x, sl tm 32 = y32x, sl tm 33 = y33x, sl tm 34 = y34x, sl tm 35 = y35x, sl tm 36 = y36x, sl tm 37 = y37x, sl tm 38 = y38x, sl tm 39 = y39x, sl tm 40 = y40x, sl tm 41 = y41x, sl tm 42 = y42x, sl tm 43 = y43x, sl tm 44 = y44x, sl tm 45 = y45x, sl tm 46 = y46x, sl tm 47 = y47x, sl tm 48 = y48x, sl tm 49 = y49x, sl tm 50 = y50x, sl tm 51 = y51x, sl tm 52 = y52x, sl tm 53 = y53x, sl tm 54 = y54x, sl tm 55 = y55x, sl tm 56 = y56x, sl tm 57 = y57x, sl tm 58 = y58x, sl tm 59 = y59x, sl tm 60 = y60x, sl tm 61 = y61x, sl tm 62 = y62x, sl tm 63 = y63x, sl tm 64 = y64x, sl tm 65 = y65x, sl tm 66 = y66x, sl tm 67 = y67x, sl tm 68 = y68x, sl tm 69 = y69x, sl tm 70 = y70x, sl tm 71 = y71x, sl tm 72 = y72x, sl tm 73 = y73x, sl tm 74 = y74x, sl tm 75 = y75x, sl tm 76 = y76x, sl tm 77 = y77x, sl tm 78 = y78x, sl tm 79 = y79x, sl tm 80 = y80x, sl tm 81 = y81x, sl tm 82 = y82x, sl tm 83 = y83x, sl tm 84 = y84x, sl tm 85 = y85x, sl tm 86 = y86x, sl tm 87 = y87x, sl tm 88 = y88x, sl tm 89 = y89x, sl tm 90 = y90x, sl tm 91 = y91x, sl tm 92 = y92x, sl tm 93 = y93x, sl tm 94 = y94x, sl tm 95 = y95x, sl tm 96 = y96x, sl tm 97 = y97x, sl tm 98 = y98x, sl tm 99 = y99x, sl tm 100 = y100x, sl tm 101 = y101x, sl tm 102 = y102x, sl tm 103 = y103x, sl tm 104 = y104x, sl tm 105 = y105x, sl tm 106 = y106x, sl tm 107 = y107x, sl tm 108 = y108x, sl tm 109 = y109x, sl tm 110 = y110x, sl tm 111 = y111x, sl tm 112 = y112x, sl tm 113 = y113x, sl tm 114 = y114x, sl tm 115 = y115x, sl tm 116 = y116x, sl tm 117 = y117x, sl tm 118 = y118x, sl tm 119 = y119x, sl tm 120 = y120x, sl tm 121 = y121x, sl tm 122 = y122x, sl tm 123 = y123x, sl tm 124 = y124x, sl tm 125 = y125x, sl tm 126 = y126x, sl tm 127 = y127x, sl tm 128 = y128x, sl tm 129 = y129x, sl tm 130 = y130x, sl tm 131 = y131x, sl tm 132 = y132x, sl tm 133 = y133x, sl tm 134 = y134x, sl tm 135 = y135x, sl tm 136 = y136x, sl tm 137 = y137x, sl tm 138 = y138x, sl tm 139 = y139x, sl tm 140 = y140x, sl tm 141 = y141x, sl tm 142 = y142x, sl tm 143 = y143x, sl tm 144 = y144x, sl tm 145 = y145x, sl tm 146 = y146x, sl tm 147 = y147x, sl tm 148 = y148x, sl tm 149 = y149x, sl tm 150 = y150x, sl tm 151 = y151x, sl tm 152 = y152x, sl tm 153 = y153x, sl tm 154 = y154x, sl tm 155 = y155x, sl tm 156 = y156x, sl tm 157 = y157x, sl tm 158 = y158x, sl tm 159 = y159x, sl tm 160 = y160x, sl tm 161 = y161x, sl tm 162 = y162x, sl tm 163 = y163x, sl tm 164 = y164x, sl tm 165 = y165x, sl tm 166 = y166x, sl tm 167 = y167x, sl tm 168 = y168x, sl tm 169 = y169x, sl tm 170 = y170x, sl tm 171 = y171x, sl tm 172 = y172x, sl tm 173 = y173x, sl tm 174 = y174x, sl tm 175 = y175x, sl tm 176 = y176x, sl tm 177 = y177x, sl tm 178 = y178x, sl tm 179 = y179x, sl tm 180 = y180x, sl tm 181 = y181x, sl tm 182 = y182x, sl tm 183 = y183x, sl tm 184 = y184x, sl tm 185 = y185x, sl tm 186 = y186x, sl tm 187 = y187x, sl tm 188 = y188x, sl tm 189 = y189x, sl tm 190 = y190x, sl tm 191 = y191x, sl tm 192 = y192x, sl tm 193 = y193x, sl tm 194 = y194x, sl tm 195 = y195x, sl tm 196 = y196x, sl tm 197 = y197x, sl tm 198 = y198x, sl tm 199 = y199x, sl tm 200 = y200x, sl tm 201 = y201x, sl tm 202 = y202x, sl tm 203 = y203x, sl tm 204 = y204x, sl tm 205 = y205x, sl tm 206 = y206x, sl tm 207 = y207x, sl tm 208 = y208x, sl tm 209 = y209x, sl tm 210 = y210x, sl tm 211 = y211x, sl tm 212 = y212x, sl tm 213 = y213x, sl tm 214 = y214x, sl tm 215 = y215x, sl tm 216 = y216x, sl tm 217 = y217x, sl tm 219 = y219x, sl tm 220 = y220x, sl tm 221 = y221x, sl tm 222 = y222x, sl tm 223 = y223x, sl tm 224 = y224x, sl tm 225 = y225x, sl tm 226 = y226x, sl tm 227 = y227x, sl tm 228 = y228x, sl tm 229 = y229x, sl tm 230 = y230x, sl tm 231 = y231x
            obtain ⟨w8, A2, n2, c2, L2, hw, hws, hg3, hv3⟩ := hw
            subst hws
            have hbm : Hid (Below w.heap.size w (w8.setCell ⟨wj.heap.size, 0, none⟩ (Value.slice A2 n2 c2))) := below_set (hbj.out.trans (hw.mono hbj.out.size)) hgbw.out 0 _
            have hBox8 := hBox.out.below hw hBox.out.lt
            have hG4 : GoodM (w8.setCell ⟨wj.heap.size, 0, none⟩ (Value.slice A2 n2 c2)) A2 n2 c2 L2 := ⟨hg3.1.at_.stB hBox8 (only_set (World.grownBy.refl _ _) 0 _), hg3.1.ok⟩
            have k0 : (w8.setCell ⟨wj.heap.size, 0, none⟩ (Value.slice A2 n2 c2)).cell? ⟨wj.heap.size, 0, none⟩ = some (Value.slice A2 n2 c2) := (hBox8.set_ 0 _).cell 0
            have hd2 := Lib.hid (due_any A2 n2 c2 L2 cA cE _ hG4)
            rw [hv3, due2] at hd2
            simp only [List.drop_succ_cons, List.drop_zero]
            clear hbox hlast hcr hw hBox8 hG4 hg3 hbj hBox hG2 hv3
            go_wp2_with fail
            refine hd2.out.mono ?_; rintro e wy ⟨rfl, hq⟩
            have hbz := Lib.hid (hbm.out.trans (hq.mono hbm.out.size))
            clear hq k0 hd2
            go_wp2_with fail
            go_ret
            exact ⟨rfl, hbz.out⟩
end Go.Proofs.YtbngclibfnnejaaDoor
