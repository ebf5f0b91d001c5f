/- Replicated servers: Submit, walked. -/
import Derived.Test.YtiapeenfggjpnaaPL
set_option linter.unusedVariables false
set_option linter.unusedSimpArgs false
namespace Go.Proofs.Ytiapeenfggjpnaa
open Go.RowKit
theorem set_same {α : Type} (l : List α) (k : Nat) (x : α) (h : l[k]? = some x) : l.set k x = l := by
  obtain ⟨hk, rfl⟩ := List.getElem?_eq_some_iff.1 h
  exact List.set_getElem_self hk
theorem svSm_val {s : Sm} {w : World} {Q : Nat → Prop} (h : SmAt w Q s) (hs : s.n ≤ 5000 ∧ sumD s.log ≤ 990000) : svSm s.val := by
  refine ⟨?_, ?_⟩
  · show (s.log.map Em.val).length ≤ 5000
    rw [List.length_map, h.len]; exact hs.1
  · show ((s.log.map Em.val).map _).sum ≤ 1000000
    rw [List.map_map]
    have := hs.2
    unfold sumD at this
    exact Nat.le_trans this (by omega)
theorem svSm_nl {nl lv : List En} {pl : List Em} {pn : Nat} {view : Int} {d : List UInt8} (hnl : nl = lv ++ [⟨view, d⟩]) (hlv : pl.map Em.val = lv) (hl : pl.length = pn) (hp : pn ≤ 5000 ∧ sumD pl ≤ 990000) (hpn : pn ≤ 4096) (hd : d.length ≤ 8198) (pu : Bool) (pv : Int) : svSm ⟨pu, pv, nl⟩ := by
  subst hnl
  subst hlv
  refine ⟨?_, ?_⟩
  · show (pl.map Em.val ++ [_]).length ≤ 5000
    rw [List.length_append, List.length_map]
    simp
    omega
  · show ((pl.map Em.val ++ [_]).map _).sum ≤ 1000000
    rw [List.map_append, List.sum_append, List.map_map]
    have := hp.2
    unfold sumD at this
    have e : (List.map ((fun x : En => x.d.length) ∘ Em.val) pl).sum = (pl.map (·.d.length)).sum := rfl
    rw [e]
    simp
    omega
/-- small enough that one entry more may be copied, too -/
def CmSm2 (k : Cm) : Prop := 1 ≤ k.n ∧ k.n ≤ 7 ∧ ∀ s ∈ k.servers, s.n ≤ 5000 ∧ sumD s.log ≤ 990000
theorem primOf_at (k : Cm) (pj : Nat) (p : Sm) (hpj : k.primary = (pj : Int)) (hp : k.servers[pj]? = some p) : primOf k.val = some p.val := by
  unfold primOf Cm.val
  simp only [hpj]
  rw [if_neg (by omega), Int.toNat_natCast, List.getElem?_map, hp]
  rfl
set_option maxRecDepth 100000 in
set_option maxHeartbeats 8000000 in
theorem submit_any (k : Cm) (dA : Option Addr) (dc : Nat) (d : List UInt8) (reach : Int) (w : World) {Q : Nat → Prop} (h : CmAt w Q k) (hs : CmSm2 k) (hp1 : k.primary < k.n) (hda : BAt w w.heap.size dA d.length d) :
    Calls Try.prog 23 #[clV k, .slice dA d.length dc, .int .i64 reach] w fun e w' => ResS Q w w' (submitC k.val d reach) e ∧ Below w.heap.size w w' := by
  obtain ⟨r, hr⟩ : ∃ r, r = submitC k.val d reach := ⟨_, rfl⟩
  rw [← hr]
  have hl : Hid (k.servers.length = k.n) := h.len
  have hcm := Lib.hid h.lt
  obtain ⟨hn1, hn7, hsm⟩ := hs
  have hno0 : (!hasP k || !(majN k.n (countUp (k.servers.map Sm.val)))) = true → submitC k.val d reach = (k.val, 0, 24) := by
    intro hb
    unfold submitC
    cases hpo : primOf k.val with
    | none => rfl
    | some p =>
      have hh : hasP k = true := by
        unfold primOf at hpo
        split at hpo
        · cases hpo
        · rename_i h0
          unfold hasP
          have h0 : ¬ k.primary < 0 := h0
          simp
          omega
      rw [hh] at hb
      simp only
      have : majN k.val.servers.length (countUp k.val.servers) = false := by
        have e : k.val.servers.length = k.n := by show (k.servers.map Sm.val).length = _; rw [List.length_map]; exact hl.out
        rw [e]
        show majN k.n (countUp (k.servers.map Sm.val)) = false
        simpa using hb
      rw [if_pos this]
  have hyes0 : (!hasP k || !(majN k.n (countUp (k.servers.map Sm.val)))) = false → ∃ (pj : Nat) (p : Sm), k.primary = (pj : Int) ∧ pj < k.n ∧ k.servers[pj]? = some p ∧ submitC k.val d reach = if 8198 < d.length ∨ 4096 ≤ (p.log.map Em.val).length then (k.val, 0, 3) else
      let nl := p.log.map Em.val ++ [(⟨k.view, d⟩ : En)]
      let q := updS k.view nl reach k.primary ((k.servers.map Sm.val).set k.primary.toNat ⟨p.up, p.view, nl⟩) 0 1
      if majN k.n q.2.toNat then ((⟨k.primary, k.view, nl.length, q.1⟩ : Cv), ((p.log.map Em.val).length : Int), (0 : Int)) else (⟨-1, k.view, k.commit, q.1.set k.primary.toNat ⟨false, p.view, nl⟩⟩, 0, 18) := by
    intro hb
    simp only [Bool.or_eq_false_iff, Bool.not_eq_false'] at hb
    obtain ⟨hb1, hb2⟩ := hb
    have hh : 0 ≤ k.primary := by unfold hasP at hb1; simp at hb1; omega
    obtain ⟨pj, hpj⟩ : ∃ pj : Nat, k.primary = (pj : Int) := ⟨k.primary.toNat, by omega⟩
    have hpn : pj < k.n := by omega
    have hpl : pj < k.servers.length := by rw [hl.out]; exact hpn
    refine ⟨pj, k.servers[pj], hpj, hpn, List.getElem?_eq_getElem hpl, ?_⟩
    unfold submitC
    rw [primOf_at k pj _ hpj (List.getElem?_eq_getElem hpl)]
    have e : k.val.servers.length = k.n := by show (k.servers.map Sm.val).length = _; rw [List.length_map]; exact hl.out
    simp only
    rw [if_neg (by rw [e, show countUp k.val.servers = countUp (k.servers.map Sm.val) from rfl, hb2]; decide), e]
    rfl
  obtain ⟨hp, hhp0⟩ : ∃ hp, hp = hasP k := ⟨_, rfl⟩
  obtain ⟨cu, hcu0⟩ : ∃ cu, cu = countUp (k.servers.map Sm.val) := ⟨_, rfl⟩
  obtain ⟨mj, hmj0⟩ : ∃ mj, mj = majN k.n cu := ⟨_, rfl⟩
  rw [← hhp0, ← hcu0, ← hmj0] at hno0 hyes0
  have hhp : Hid (∀ wz, Calls Try.prog 46 #[clV k] wz fun e w' => e = .returned (.bool hp) ∧ Below wz.heap.size wz w') := fun wz => by rw [hhp0]; exact hasPrimary_any k wz
  have hcu : Hid (∀ wz, Below w.heap.size w wz → Calls Try.prog 44 #[clV k] wz fun e w' => e = .returned (.int .i64 (cu : Int)) ∧ Below wz.heap.size wz w') := fun wz hz => by rw [hcu0]; exact countUp_any k wz (h.more hz) hn7
  have hmj : Hid (∀ wz, Calls Try.prog 43 #[clV k, .int .i64 (cu : Int)] wz fun e w' => e = .returned (.bool mj) ∧ Below wz.heap.size wz w') := fun wz => by rw [hmj0]; exact majority_any k cu wz hn7
  clear hhp0 hcu0 hmj0 h
  have hno := Lib.hid hno0
  have hyes := Lib.hid hyes0
  clear hno0 hyes0
  replace hr := Lib.hid hr
  replace hsm := Lib.hid hsm
  replace hda := Lib.hid hda
  obtain ⟨primary, view, commit, A, n, c, sl⟩ := k
  simp only [clV] at *
  obtain ⟨i59, hi59, hz590, hz591, hz592⟩ := info_parts en_info
  replace hi59 := Lib.hid hi59
  replace hz590 := Lib.hid hz590
  replace hz591 := Lib.hid hz591
  replace hz592 := Lib.hid hz592
  have hx0 := Lib.hid ((Blk.new w 24 #[Value.int .i64 primary, Value.int .i64 view, Value.int .i64 commit, Value.slice A n c]).alloc (.cells #[Value.int .i64 0, Value.int .i64 0, Value.int .i64 0, Value.slice none 0 0] 24))
  have hz0 := Blk.new (w.alloc (.cells #[Value.int .i64 primary, Value.int .i64 view, Value.int .i64 commit, Value.slice A n c] 24)) 24 #[Value.int .i64 0, Value.int .i64 0, Value.int .i64 0, Value.slice none 0 0]
  rw [show (w.alloc (.cells #[Value.int .i64 primary, Value.int .i64 view, Value.int .i64 commit, Value.slice A n c] 24)).heap.size = w.heap.size + 1 by simp] at hz0
  replace hz0 := Lib.hid hz0
  have hb0 : Hid (Below w.heap.size w ((w.alloc (.cells #[Value.int .i64 primary, Value.int .i64 view, Value.int .i64 commit, Value.slice A n c] 24)).alloc (.cells #[Value.int .i64 0, Value.int .i64 0, Value.int .i64 0, Value.slice none 0 0] 24))) := (a1 w _).alloc (by simp) _
  have hcc : Hid (∀ wz, Below ((w.alloc (.cells #[Value.int .i64 primary, Value.int .i64 view, Value.int .i64 commit, Value.slice A n c] 24)).alloc (.cells #[Value.int .i64 0, Value.int .i64 0, Value.int .i64 0, Value.slice none 0 0] 24)).heap.size ((w.alloc (.cells #[Value.int .i64 primary, Value.int .i64 view, Value.int .i64 commit, Value.slice A n c] 24)).alloc (.cells #[Value.int .i64 0, Value.int .i64 0, Value.int .i64 0, Value.slice none 0 0] 24)) wz → wz.cell? ⟨w.heap.size, 0, none⟩ = some (Value.int .i64 primary) ∧ wz.cell? ⟨w.heap.size, 1, none⟩ = some (Value.int .i64 view) ∧ wz.cell? ⟨w.heap.size, 2, none⟩ = some (Value.int .i64 commit) ∧ wz.cell? ⟨w.heap.size, 3, none⟩ = some (Value.slice A n c)) := fun wz hz => by
    have q := hx0.out.below hz hx0.out.lt
    exact ⟨q.cell 0, q.cell 1, q.cell 2, q.cell 3⟩
  replace hcu : Hid (∀ wz, Below ((w.alloc (.cells #[Value.int .i64 primary, Value.int .i64 view, Value.int .i64 commit, Value.slice A n c] 24)).alloc (.cells #[Value.int .i64 0, Value.int .i64 0, Value.int .i64 0, Value.slice none 0 0] 24)).heap.size ((w.alloc (.cells #[Value.int .i64 primary, Value.int .i64 view, Value.int .i64 commit, Value.slice A n c] 24)).alloc (.cells #[Value.int .i64 0, Value.int .i64 0, Value.int .i64 0, Value.slice none 0 0] 24)) wz → Calls Try.prog 44 #[.agg #[Value.int .i64 primary, Value.int .i64 view, Value.int .i64 commit, Value.slice A n c]] wz fun e w' => e = .returned (.int .i64 (cu : Int)) ∧ Below wz.heap.size wz w') := fun wz hz => hcu.out wz (hb0.out.trans (hz.mono hb0.out.size))
  go_enter Try.func23, Try.ntmps23
  go_wp2_with fail
  refine RM.region [] [] (F := F23a w.heap.size cu #[Value.int .i64 primary, Value.int .i64 view, Value.int .i64 commit, Value.slice A n c] hp mj) (W := fun wz => Below ((w.alloc (.cells #[Value.int .i64 primary, Value.int .i64 view, Value.int .i64 commit, Value.slice A n c] 24)).alloc (.cells #[Value.int .i64 0, Value.int .i64 0, Value.int .i64 0, Value.slice none 0 0] 24)).heap.size ((w.alloc (.cells #[Value.int .i64 primary, Value.int .i64 view, Value.int .i64 commit, Value.slice A n c] 24)).alloc (.cells #[Value.int .i64 0, Value.int .i64 0, Value.int .i64 0, Value.slice none 0 0] 24)) wz) (R := fun _ => Rb) (S := noS) (G := noG) rfl F23a_more (fun _ _ _ _ _ _ _ => trivial) (fun _ _ _ _ _ h => h.elim) (fun _ _ _ _ _ h => h.elim) (by kernel_rfl) (by kernel_rfl) (by kernel_rfl) (by kernel_rfl) (by kernel_rfl) ?_ ?_ ?_ (by kernel_rfl) ?_
  · exact (Below.refl _ _).drew
  · intro t ht
    unfold F23a
    split <;> first | trivial | exact rfl | (exact absurd ht (by decide))
  · simp only [List.forall_mem_cons, List.not_mem_nil, false_implies, implies_true, and_true]
    refine ⟨?_, ?_, ?_, ?_, ?_, ?_, ?_, ?_, ?_, ?_⟩
    · intro a w2 hw _ hf K hK
      have f0 := hf 3 rfl
      simp only [F23a] at f0
      clear hf
      obtain ⟨c0, c1, c2, c3⟩ := hcc.out w2 hw
      go_simp
      exact hK _ _ _ rfl rfl hw (Below.refl _ _) (fun h => absurd h (by decide))
    · intro a w2 hw _ hf K hK
      have f0 := hf 15 rfl
      simp only [F23a] at f0
      clear hf
      go_simp
      refine (hhp.out w2).mono ?_; rintro e w5 ⟨rfl, hbq⟩
      exact hK _ _ _ rfl rfl (hw.trans (hbq.mono hw.size)) hbq (fun h => absurd h (by decide))
    · intro a w2 hw _ hf K hK
      have f0 := hf 16 rfl
      simp only [F23a] at f0
      clear hf
      go_simp
      exact hK _ _ _ rfl rfl hw (Below.refl _ _) (fun h => absurd h (by decide))
    · intro a w2 hw _ hf K hK
      have f0 := hf 17 rfl
      simp only [F23a] at f0
      clear hf
      go_simp
      exact hK _ _ _ rfl rfl hw (Below.refl _ _) (fun h => absurd h (by decide))
    · refine ⟨?_, ?_⟩
      · intro a w2 hw hg hf K hK
        have f0 := hf 3 rfl
        simp only [F23a] at f0
        simp only [F23a] at hg
        have hg : hp = true := by have := Value.bool.inj hg; cases hp with
          | true => rfl
          | false => cases this
        clear hf
        clear hg
        obtain ⟨c0, c1, c2, c3⟩ := hcc.out w2 hw
        go_simp
        exact hK _ _ _ rfl (fun _ => rfl) hw (Below.refl _ _) (fun h => absurd h (by decide))
      · intro v w _ hv hne; simp only [F23a] at hv ⊢; intro h; rw [h] at hv; exact absurd hv hne
    · refine ⟨?_, ?_⟩
      · intro a w2 hw hg hf K hK
        have f0 := hf 3 rfl
        simp only [F23a] at f0
        simp only [F23a] at hg
        have hg : hp = true := by have := Value.bool.inj hg; cases hp with
          | true => rfl
          | false => cases this
        clear hf
        clear hg
        obtain ⟨c0, c1, c2, c3⟩ := hcc.out w2 hw
        go_simp
        exact hK _ _ _ rfl (fun _ => rfl) hw (Below.refl _ _) (fun h => absurd h (by decide))
      · intro v w _ hv hne; simp only [F23a] at hv ⊢; intro h; rw [h] at hv; exact absurd hv hne
    · refine ⟨?_, ?_⟩
      · intro a w2 hw hg hf K hK
        have f0 := hf 20 rfl
        simp only [F23a] at f0
        simp only [F23a] at hg
        have hg : hp = true := by have := Value.bool.inj hg; cases hp with
          | true => rfl
          | false => cases this
        clear hf
        replace f0 := f0 hg
        clear hg
        go_simp
        refine (hcu.out w2 hw).mono ?_; rintro e w5 ⟨rfl, hbq⟩
        exact hK _ _ _ rfl (fun _ => rfl) (hw.trans (hbq.mono hw.size)) hbq (fun h => absurd h (by decide))
      · intro v w _ hv hne; simp only [F23a] at hv ⊢; intro h; rw [h] at hv; exact absurd hv hne
    · refine ⟨?_, ?_⟩
      · intro a w2 hw hg hf K hK
        have f0 := hf 19 rfl
        have f1 := hf 21 rfl
        simp only [F23a] at f0 f1
        simp only [F23a] at hg
        have hg : hp = true := by have := Value.bool.inj hg; cases hp with
          | true => rfl
          | false => cases this
        clear hf
        replace f0 := f0 hg
        replace f1 := f1 hg
        clear hg
        go_simp
        refine (hmj.out w2).mono ?_; rintro e w5 ⟨rfl, hbq⟩
        exact hK _ _ _ rfl (fun _ => rfl) (hw.trans (hbq.mono hw.size)) hbq (fun h => absurd h (by decide))
      · intro v w _ hv hne; simp only [F23a] at hv ⊢; intro h; rw [h] at hv; exact absurd hv hne
    · refine ⟨?_, ?_⟩
      · intro a w2 hw hg hf K hK
        have f0 := hf 22 rfl
        simp only [F23a] at f0
        simp only [F23a] at hg
        have hg : hp = true := by have := Value.bool.inj hg; cases hp with
          | true => rfl
          | false => cases this
        clear hf
        replace f0 := f0 hg
        clear hg
        go_simp
        exact hK _ _ _ rfl (fun _ => rfl) hw (Below.refl _ _) (fun h => absurd h (by decide))
      · intro v w _ hv hne; simp only [F23a] at hv ⊢; intro h; rw [h] at hv; exact absurd hv hne
    · intro a w2 hw _ hf K hK
      have f0 := hf 18 rfl
      have f1 := hf 23 rfl
      simp only [F23a] at f0 f1
      clear hf
      cases hp with
      | false =>
        go_simp
        exact hK _ _ _ rfl rfl hw (Below.refl _ _) (fun h => absurd h (by decide))
      | true =>
        replace f1 := f1 rfl
        go_simp
        exact hK _ _ _ rfl rfl hw (Below.refl _ _) (fun h => absurd h (by decide))
  · intro a' w1 hd hs hw hout hf _
    have h24 := hf 24 rfl
    simp only [F23a] at h24
    have e0 : _ = some (Value.agg #[Value.int .i64 primary, Value.int .i64 view, Value.int .i64 commit, Value.slice A n c]) := hout 0 rfl
    have e1 : _ = some (Value.slice dA d.length dc) := hout 1 rfl
    have e2 : _ = some (Value.int .i64 reach) := hout 2 rfl
    have e3 : _ = some (Value.pointer (some ⟨w.heap.size, 0, none⟩)) := hout 3 rfl
    have e4 : _ = some (undef) := hout 4 rfl
    have e5 : _ = some (undef) := hout 5 rfl
    have e6 : _ = some (Value.pointer (some ⟨w.heap.size + 1, 0, none⟩)) := hout 6 rfl
    have e7 : _ = some (Value.int .i64 0) := hout 7 rfl
    have e8 : _ = some (Value.int .i64 0) := hout 8 rfl
    have e9 : _ = some (undef) := hout 9 rfl
    have e10 : _ = some (undef) := hout 10 rfl
    have e11 : _ = some (undef) := hout 11 rfl
    have e12 : _ = some (undef) := hout 12 rfl
    have e13 : _ = some (undef) := hout 13 rfl
    have e14 : _ = some (undef) := hout 14 rfl
    have e25 : _ = some (undef) := hout 25 rfl
    have e26 : _ = some (undef) := hout 26 rfl
    have e27 : _ = some (undef) := hout 27 rfl
    have e28 : _ = some (undef) := hout 28 rfl
    have e29 : _ = some (undef) := hout 29 rfl
    have e30 : _ = some (undef) := hout 30 rfl
    have e31 : _ = some (undef) := hout 31 rfl
    have e32 : _ = some (undef) := hout 32 rfl
    have e33 : _ = some (undef) := hout 33 rfl
    have e34 : _ = some (undef) := hout 34 rfl
    have e35 : _ = some (undef) := hout 35 rfl
    have e36 : _ = some (undef) := hout 36 rfl
    have e37 : _ = some (undef) := hout 37 rfl
    have e38 : _ = some (undef) := hout 38 rfl
    have e39 : _ = some (undef) := hout 39 rfl
    have e40 : _ = some (undef) := hout 40 rfl
    have e41 : _ = some (undef) := hout 41 rfl
    have e42 : _ = some (undef) := hout 42 rfl
    have e43 : _ = some (undef) := hout 43 rfl
    have e44 : _ = some (undef) := hout 44 rfl
    have e45 : _ = some (undef) := hout 45 rfl
    have e46 : _ = some (undef) := hout 46 rfl
    have e47 : _ = some (undef) := hout 47 rfl
    have e48 : _ = some (undef) := hout 48 rfl
    have e49 : _ = some (undef) := hout 49 rfl
    have e50 : _ = some (undef) := hout 50 rfl
    have e51 : _ = some (undef) := hout 51 rfl
    have e52 : _ = some (undef) := hout 52 rfl
    have e53 : _ = some (undef) := hout 53 rfl
    have e54 : _ = some (undef) := hout 54 rfl
    have e55 : _ = some (undef) := hout 55 rfl
    have e56 : _ = some (undef) := hout 56 rfl
    have e57 : _ = some (undef) := hout 57 rfl
    have e58 : _ = some (undef) := hout 58 rfl
    have e59 : _ = some (undef) := hout 59 rfl
    have e60 : _ = some (undef) := hout 60 rfl
    have e61 : _ = some (undef) := hout 61 rfl
    have e62 : _ = some (undef) := hout 62 rfl
    have e63 : _ = some (undef) := hout 63 rfl
    have e64 : _ = some (undef) := hout 64 rfl
    have e65 : _ = some (undef) := hout 65 rfl
    have e66 : _ = some (undef) := hout 66 rfl
    have e67 : _ = some (undef) := hout 67 rfl
    have e68 : _ = some (undef) := hout 68 rfl
    have e69 : _ = some (undef) := hout 69 rfl
    have e70 : _ = some (undef) := hout 70 rfl
    have e71 : _ = some (undef) := hout 71 rfl
    have e72 : _ = some (undef) := hout 72 rfl
    have e73 : _ = some (undef) := hout 73 rfl
    have e74 : _ = some (undef) := hout 74 rfl
    have e75 : _ = some (undef) := hout 75 rfl
    have e76 : _ = some (undef) := hout 76 rfl
    have e77 : _ = some (undef) := hout 77 rfl
    have e78 : _ = some (undef) := hout 78 rfl
    have e79 : _ = some (undef) := hout 79 rfl
    have e80 : _ = some (undef) := hout 80 rfl
    have e81 : _ = some (undef) := hout 81 rfl
    have e82 : _ = some (undef) := hout 82 rfl
    have e83 : _ = some (undef) := hout 83 rfl
    have e84 : _ = some (undef) := hout 84 rfl
    have e85 : _ = some (undef) := hout 85 rfl
    have e86 : _ = some (undef) := hout 86 rfl
    have e87 : _ = some (undef) := hout 87 rfl
    have e88 : _ = some (undef) := hout 88 rfl
    have e89 : _ = some (undef) := hout 89 rfl
    have e90 : _ = some (undef) := hout 90 rfl
    have e91 : _ = some (undef) := hout 91 rfl
    have e92 : _ = some (undef) := hout 92 rfl
    have e93 : _ = some (undef) := hout 93 rfl
    have e94 : _ = some (undef) := hout 94 rfl
    have e95 : _ = some (undef) := hout 95 rfl
    have e96 : _ = some (undef) := hout 96 rfl
    have e97 : _ = some (undef) := hout 97 rfl
    have e98 : _ = some (undef) := hout 98 rfl
    have e99 : _ = some (undef) := hout 99 rfl
    have e100 : _ = some (undef) := hout 100 rfl
    have e101 : _ = some (undef) := hout 101 rfl
    have e102 : _ = some (undef) := hout 102 rfl
    have e103 : _ = some (undef) := hout 103 rfl
    have e104 : _ = some (undef) := hout 104 rfl
    have e105 : _ = some (undef) := hout 105 rfl
    have e106 : _ = some (undef) := hout 106 rfl
    have e107 : _ = some (undef) := hout 107 rfl
    have e108 : _ = some (undef) := hout 108 rfl
    have e109 : _ = some (undef) := hout 109 rfl
    have e110 : _ = some (undef) := hout 110 rfl
    have e111 : _ = some (undef) := hout 111 rfl
    have e112 : _ = some (undef) := hout 112 rfl
    have e113 : _ = some (undef) := hout 113 rfl
    have e114 : _ = some (undef) := hout 114 rfl
    have e115 : _ = some (undef) := hout 115 rfl
    have e116 : _ = some (undef) := hout 116 rfl
    have e117 : _ = some (undef) := hout 117 rfl
    have e118 : _ = some (undef) := hout 118 rfl
    have e119 : _ = some (undef) := hout 119 rfl
    have e120 : _ = some (undef) := hout 120 rfl
    have e121 : _ = some (undef) := hout 121 rfl
    have e122 : _ = some (undef) := hout 122 rfl
    have e123 : _ = some (undef) := hout 123 rfl
    obtain ⟨tm, df⟩ := a'
    simp only at hd hs h24 e0 e1 e2 e3 e4 e5 e6 e7 e8 e9 e10 e11 e12 e13 e14 e25 e26 e27 e28 e29 e30 e31 e32 e33 e34 e35 e36 e37 e38 e39 e40 e41 e42 e43 e44 e45 e46 e47 e48 e49 e50 e51 e52 e53 e54 e55 e56 e57 e58 e59 e60 e61 e62 e63 e64 e65 e66 e67 e68 e69 e70 e71 e72 e73 e74 e75 e76 e77 e78 e79 e80 e81 e82 e83 e84 e85 e86 e87 e88 e89 e90 e91 e92 e93 e94 e95 e96 e97 e98 e99 e100 e101 e102 e103 e104 e105 e106 e107 e108 e109 e110 e111 e112 e113 e114 e115 e116 e117 e118 e119 e120 e121 e122 e123
    have e := F23a_lit tm hs
    simp only [h24, e0, e1, e2, e3, e4, e5, e6, e7, e8, e9, e10, e11, e12, e13, e14, e25, e26, e27, e28, e29, e30, e31, e32, e33, e34, e35, e36, e37, e38, e39, e40, e41, e42, e43, e44, e45, e46, e47, e48, e49, e50, e51, e52, e53, e54, e55, e56, e57, e58, e59, e60, e61, e62, e63, e64, e65, e66, e67, e68, e69, e70, e71, e72, e73, e74, e75, e76, e77, e78, e79, e80, e81, e82, e83, e84, e85, e86, e87, e88, e89, e90, e91, e92, e93, e94, e95, e96, e97, e98, e99, e100, e101, e102, e103, e104, e105, e106, e107, e108, e109, e110, e111, e112, e113, e114, e115, e116, e117, e118, e119, e120, e121, e122, e123, Option.getD_some] at e
    clear hf hout hs
    rw [e, hd]
    clear e hd h24 e0 e1 e2 e3 e4 e5 e6 e7 e8 e9 e10 e11 e12 e13 e14 e25 e26 e27 e28 e29 e30 e31 e32 e33 e34 e35 e36 e37 e38 e39 e40 e41 e42 e43 e44 e45 e46 e47 e48 e49 e50 e51 e52 e53 e54 e55 e56 e57 e58 e59 e60 e61 e62 e63 e64 e65 e66 e67 e68 e69 e70 e71 e72 e73 e74 e75 e76 e77 e78 e79 e80 e81 e82 e83 e84 e85 e86 e87 e88 e89 e90 e91 e92 e93 e94 e95 e96 e97 e98 e99 e100 e101 e102 e103 e104 e105 e106 e107 e108 e109 e110 e111 e112 e113 e114 e115 e116 e117 e118 e119 e120 e121 e122 e123
    generalize tm[15]?.getD undef = u15x, tm[16]?.getD undef = u16x, tm[17]?.getD undef = u17x, tm[18]?.getD undef = u18x, tm[19]?.getD undef = u19x, tm[20]?.getD undef = u20x, tm[21]?.getD undef = u21x, tm[22]?.getD undef = u22x, tm[23]?.getD undef = u23x
    have hX1 := Lib.hid (hx0.out.below hw hx0.out.lt)
    have hZ1 := Lib.hid (hz0.out.below hw hz0.out.lt)
    have hb1 := Lib.hid (hb0.out.trans (hw.mono hb0.out.size))
    clear hw hcc hhp hcu hmj hx0 hz0 hb0
    cases hbt : (!hp || !mj) with
    | true =>
      have hF : Hid (r = (⟨primary, view, commit, sl.map Sm.val⟩, 0, 24)) := by show _ = _; rw [hr.out]; exact hno.out hbt
      obtain ⟨k0, k1, k2, k3⟩ := cells4 (w1) (w.heap.size) (Value.int .i64 primary) (Value.int .i64 view) (Value.int .i64 commit) (Value.slice A n c) (hX1.out)
      obtain ⟨u0, u1, u2, u3, y0, y1, y2, y3⟩ := cells4z (w1) ((w.heap.size + 1)) (Value.int .i64 0) (Value.int .i64 0) (Value.int .i64 0) (Value.slice none 0 0) (hZ1.out)
      go_wp2_with fail
      (try simp only [Exit.inBlock, Exit.then])
      have hBF := cl_set4 hZ1.out (Value.int .i64 primary) (Value.int .i64 view) (Value.int .i64 commit) (Value.slice A n c)
      have hbF := below_set4 hb1.out (Nat.le_succ _) (Value.int .i64 primary) (Value.int .i64 view) (Value.int .i64 commit) (Value.slice A n c)
      have hgF := grown_set4 (w1) (w.heap.size + 1) (Value.int .i64 primary) (Value.int .i64 view) (Value.int .i64 commit) (Value.slice A n c)
      refine bodyPost_ret (v := .tuple #[.agg #[Value.int .i64 primary, Value.int .i64 view, Value.int .i64 commit, Value.slice A n c], .int .i64 0, .int .i64 24]) ?_ rfl ?_
      · refine (res3 (fn := Try.f23) (p := 6) (u := 7) (v := 8) (ty := 24) rfl _ _ (w.heap.size + 1) 24 _ (0, 0) _ ?_ hBF Try.underlying24 rfl (by kernel_rfl)).trans ?_
        · rfl
        · rfl
      clear hBF
      generalize ((((w1.setCell ⟨(w.heap.size + 1), 0, none⟩ (Value.int .i64 primary)).setCell ⟨(w.heap.size + 1), 1, none⟩ (Value.int .i64 view)).setCell ⟨(w.heap.size + 1), 2, none⟩ (Value.int .i64 commit)).setCell ⟨(w.heap.size + 1), 3, none⟩ (Value.slice A n c)) = wF at *
      exact ⟨⟨⟨primary, view, commit, A, n, c, sl⟩, by rw [hF.out]; rfl, ((hcm.out.more hb1.out).st hgF (fun b hb e => by injection e with e; have := hb.2; omega)).imp (fun b hb => Or.inl hb.1), by rw [hF.out]; rfl⟩, hbF⟩
    | false =>
      obtain ⟨pj, p, hpj, hpn, hpo⟩ := hyes.out hbt
      clear hno hyes hbt
      subst hpj
      obtain ⟨ad, hA, -, -, -, -⟩ := sv_cells hcm.out.at_ hpn
      (try simp only at hA)
      subst hA
      have hpl : pj < sl.length := by have := hl.out; (try simp only at this); omega
      have hpx : sl[pj]? = some p := hpo.1
      have hsub := Lib.hid hpo.2
      have hps := Lib.hid (hcm.out.els p (List.mem_of_getElem? hpx))
      have hpm := Lib.hid (hsm.out p (List.mem_of_getElem? hpx))
      have hpxe : sl[pj] = p := (List.getElem?_eq_some_iff.1 hpx).2
      have hpc : Hid (∀ wz, Below w.heap.size w wz → wz.cell? (ad.add (pj * 3)) = some (Value.bool p.up) ∧ wz.cell? ⟨(ad.add (pj * 3)).block, (ad.add (pj * 3)).off + 1, none⟩ = some (Value.int .i64 p.view) ∧ wz.cell? ⟨(ad.add (pj * 3)).block, (ad.add (pj * 3)).off + 2, none⟩ = some (Value.slice p.A p.n p.c)) := fun wz hz => by
        obtain ⟨ad', hA', -, q⟩ := sv_cells (hcm.out.at_.below hz (Nat.le_refl _)) hpn
        (try simp only at hA')
        injection hA' with hA'
        subst hA'
        rw [hpxe] at q
        exact q
      clear hpo
      replace hpxe := Lib.hid hpxe
      replace hpx := Lib.hid hpx
      have hp0 : (0 : Int) ≤ pj := by omega
      have hp1 : (pj : Int) < n := by omega
      obtain ⟨pu, pv, pA, pn, pc, pl⟩ := p
      (try simp only at hpc hpm hsub)
      have hpnl : Hid (pl.length = pn) := hps.out.len
      by_cases r1 : 8198 < d.length
      · have r1d : decide ((8198 : Int) < (d.length : Int)) = true := by simp; omega
        have r1i : (8198 : Int) < (d.length : Int) := by omega
        have hF : Hid (r = (⟨(pj : Int), view, commit, sl.map Sm.val⟩, 0, 3)) := by show _ = _; rw [hr.out, hsub.out, if_pos (.inl r1)]; rfl
        obtain ⟨k0, k1, k2, k3⟩ := cells4 (w1) (w.heap.size) (Value.int .i64 (pj : Int)) (Value.int .i64 view) (Value.int .i64 commit) (Value.slice (some ad) n c) (hX1.out)
        obtain ⟨u0, u1, u2, u3, y0, y1, y2, y3⟩ := cells4z (w1) ((w.heap.size + 1)) (Value.int .i64 0) (Value.int .i64 0) (Value.int .i64 0) (Value.slice none 0 0) (hZ1.out)
        go_wp2_with fail
        (try simp only [Exit.inBlock, Exit.then])
        have hBF := cl_set4 hZ1.out (Value.int .i64 (pj : Int)) (Value.int .i64 view) (Value.int .i64 commit) (Value.slice (some ad) n c)
        have hbF := below_set4 hb1.out (Nat.le_succ _) (Value.int .i64 (pj : Int)) (Value.int .i64 view) (Value.int .i64 commit) (Value.slice (some ad) n c)
        have hgF := grown_set4 (w1) (w.heap.size + 1) (Value.int .i64 (pj : Int)) (Value.int .i64 view) (Value.int .i64 commit) (Value.slice (some ad) n c)
        refine bodyPost_ret (v := .tuple #[.agg #[Value.int .i64 (pj : Int), Value.int .i64 view, Value.int .i64 commit, Value.slice (some ad) n c], .int .i64 0, .int .i64 3]) ?_ rfl ?_
        · refine (res3 (fn := Try.f23) (p := 6) (u := 7) (v := 8) (ty := 24) rfl _ _ (w.heap.size + 1) 24 _ (0, 0) _ ?_ hBF Try.underlying24 rfl (by kernel_rfl)).trans ?_
          · rfl
          · rfl
        clear hBF
        generalize ((((w1.setCell ⟨(w.heap.size + 1), 0, none⟩ (Value.int .i64 (pj : Int))).setCell ⟨(w.heap.size + 1), 1, none⟩ (Value.int .i64 view)).setCell ⟨(w.heap.size + 1), 2, none⟩ (Value.int .i64 commit)).setCell ⟨(w.heap.size + 1), 3, none⟩ (Value.slice (some ad) n c)) = wF at *
        exact ⟨⟨⟨(pj : Int), view, commit, (some ad), n, c, sl⟩, by rw [hF.out]; rfl, ((hcm.out.more hb1.out).st hgF (fun b hb e => by injection e with e; have := hb.2; omega)).imp (fun b hb => Or.inl hb.1), by rw [hF.out]; rfl⟩, hbF⟩
      have r1d : decide ((8198 : Int) < (d.length : Int)) = false := by simp; omega
      have r1i : ¬ (8198 : Int) < (d.length : Int) := by omega
      obtain ⟨e0, e1, e2⟩ := hpc.out w1 hb1.out
      by_cases r2 : 4096 ≤ pn
      · have r2d : decide ((4096 : Int) ≤ (pn : Int)) = true := by simp; omega
        have r2i : (4096 : Int) ≤ (pn : Int) := by omega
        have hF : Hid (r = (⟨(pj : Int), view, commit, sl.map Sm.val⟩, 0, 3)) := by show _ = _; rw [hr.out, hsub.out, if_pos (.inr (by rw [List.length_map, hpnl.out]; exact r2))]; rfl
        obtain ⟨k0, k1, k2, k3⟩ := cells4 (w1) (w.heap.size) (Value.int .i64 (pj : Int)) (Value.int .i64 view) (Value.int .i64 commit) (Value.slice (some ad) n c) (hX1.out)
        obtain ⟨u0, u1, u2, u3, y0, y1, y2, y3⟩ := cells4z (w1) ((w.heap.size + 1)) (Value.int .i64 0) (Value.int .i64 0) (Value.int .i64 0) (Value.slice none 0 0) (hZ1.out)
        go_wp2_with fail
        (try simp only [Exit.inBlock, Exit.then])
        have hBF := cl_set4 hZ1.out (Value.int .i64 (pj : Int)) (Value.int .i64 view) (Value.int .i64 commit) (Value.slice (some ad) n c)
        have hbF := below_set4 hb1.out (Nat.le_succ _) (Value.int .i64 (pj : Int)) (Value.int .i64 view) (Value.int .i64 commit) (Value.slice (some ad) n c)
        have hgF := grown_set4 (w1) (w.heap.size + 1) (Value.int .i64 (pj : Int)) (Value.int .i64 view) (Value.int .i64 commit) (Value.slice (some ad) n c)
        refine bodyPost_ret (v := .tuple #[.agg #[Value.int .i64 (pj : Int), Value.int .i64 view, Value.int .i64 commit, Value.slice (some ad) n c], .int .i64 0, .int .i64 3]) ?_ rfl ?_
        · refine (res3 (fn := Try.f23) (p := 6) (u := 7) (v := 8) (ty := 24) rfl _ _ (w.heap.size + 1) 24 _ (0, 0) _ ?_ hBF Try.underlying24 rfl (by kernel_rfl)).trans ?_
          · rfl
          · rfl
        clear hBF
        generalize ((((w1.setCell ⟨(w.heap.size + 1), 0, none⟩ (Value.int .i64 (pj : Int))).setCell ⟨(w.heap.size + 1), 1, none⟩ (Value.int .i64 view)).setCell ⟨(w.heap.size + 1), 2, none⟩ (Value.int .i64 commit)).setCell ⟨(w.heap.size + 1), 3, none⟩ (Value.slice (some ad) n c)) = wF at *
        exact ⟨⟨⟨(pj : Int), view, commit, (some ad), n, c, sl⟩, by rw [hF.out]; rfl, ((hcm.out.more hb1.out).st hgF (fun b hb e => by injection e with e; have := hb.2; omega)).imp (fun b hb => Or.inl hb.1), by rw [hF.out]; rfl⟩, hbF⟩
      have r2d : decide ((4096 : Int) ≤ (pn : Int)) = false := by simp; omega
      have r2i : ¬ (4096 : Int) ≤ (pn : Int) := by omega
      have hFs := Lib.hid (hsub.out.trans (if_neg (fun h => h.elim r1 (fun h => r2 (by rw [List.length_map, hpnl.out] at h; exact h)))))
      clear hsub
      have hcm1 := Lib.hid (hcm.out.more hb1.out)
      have hx5 := Lib.hid (hX1.out.alloc (.cells #[Value.int .i64 (pj : Int), Value.int .i64 view, Value.int .i64 commit, Value.slice (some ad) n c] 24))
      have hz5 := Lib.hid (hZ1.out.alloc (.cells #[Value.int .i64 (pj : Int), Value.int .i64 view, Value.int .i64 commit, Value.slice (some ad) n c] 24))
      have hn5 := Lib.hid (Blk.new w1 24 #[Value.int .i64 (pj : Int), Value.int .i64 view, Value.int .i64 commit, Value.slice (some ad) n c])
      have hb5 : Hid (Below w.heap.size w (w1.alloc (.cells #[Value.int .i64 (pj : Int), Value.int .i64 view, Value.int .i64 commit, Value.slice (some ad) n c] 24))) := hb1.out.alloc hb1.out.size _
      have hcl := Lib.hid (cloneS_any (some ad) n c sl (w1.alloc (.cells #[Value.int .i64 (pj : Int), Value.int .i64 view, Value.int .i64 commit, Value.slice (some ad) n c] 24)) (hcm.out.at_.more hb5.out) (by omega))
      obtain ⟨k0, k1, k2, k3⟩ := cells4 (w1) (w.heap.size) (Value.int .i64 (pj : Int)) (Value.int .i64 view) (Value.int .i64 commit) (Value.slice (some ad) n c) (hX1.out)
      obtain ⟨m0, m1, m2, m3⟩ := cells4 ((w1.alloc (.cells #[Value.int .i64 (pj : Int), Value.int .i64 view, Value.int .i64 commit, Value.slice (some ad) n c] 24))) (w.heap.size) (Value.int .i64 (pj : Int)) (Value.int .i64 view) (Value.int .i64 commit) (Value.slice (some ad) n c) (hx5.out)
      obtain ⟨q0, q1, q2, q3⟩ := cells4 ((w1.alloc (.cells #[Value.int .i64 (pj : Int), Value.int .i64 view, Value.int .i64 commit, Value.slice (some ad) n c] 24))) (w1.heap.size) (Value.int .i64 (pj : Int)) (Value.int .i64 view) (Value.int .i64 commit) (Value.slice (some ad) n c) (hn5.out)
      have e0 := cell_alloc e0 (.cells #[Value.int .i64 (pj : Int), Value.int .i64 view, Value.int .i64 commit, Value.slice (some ad) n c] 24)
      go_wp2_with fail
      refine hcl.out.mono ?_; rintro e w2 ⟨v, rfl, hown, hq⟩
      obtain ⟨g, cap, rfl⟩ := hown.some_ (by have := hl.out; (try simp only at this); omega)
      rw [hl.out] at hown ⊢
      (try simp only at hown)
      obtain ⟨g9, hg9⟩ : ∃ g9, g9 = w1.heap.size := ⟨_, rfl⟩
      rw [← hg9] at hn5
      try rw [← hg9]
      have hg9w : Hid (w.heap.size + 1 < g9) := by show w.heap.size + 1 < g9; have := hZ1.out.lt; omega
      have hX2 := Lib.hid (hx5.out.below hq hx5.out.lt)
      have hZ2 := Lib.hid (hz5.out.below hq hz5.out.lt)
      have hN2 := Lib.hid (hn5.out.below hq hn5.out.lt)
      have hb2 := Lib.hid (hb5.out.trans (hq.mono hb5.out.size))
      have hgg : Hid (g9 < g) := by show g9 < g; have h1 := (hown.grown_base hl.out.symm).1; have h2 := hn5.out.lt; omega
      have hrow2 := Lib.hid (hown.mono hb5.out.size)
      clear hq hown hcl hx5 hz5 hn5 hb5 hX1 hZ1 hb1 hcm1 k0 k1 k2 k3 m0 m1 m2 m3 q0 q1 q2 q3 e0 e1 e2
      replace hg9 := Lib.hid hg9
      obtain ⟨k0, k1, k2, k3, z0, z1, z2, z3⟩ := cells4z (w2) (g9) (Value.int .i64 (pj : Int)) (Value.int .i64 view) (Value.int .i64 commit) (Value.slice (some ad) n c) (hN2.out)
      have hg3 : Hid (w2.grownBy (w2.setCell ⟨g9, 3, none⟩ (Value.slice (some ⟨g, 0, none⟩) n cap)) (some g9)) := only_set (World.grownBy.refl _ _) _ _
      have hN3 := Lib.hid (hN2.out.set_ 3 (Value.slice (some ⟨g, 0, none⟩) n cap))
      have hX3 := Lib.hid (hX2.out.grown hg3.out (by intro e; injection e with e; have := hg9w.out; omega))
      have hZ3 := Lib.hid (hZ2.out.grown hg3.out (by intro e; injection e with e; have := hg9w.out; omega))
      have hrow3 := Lib.hid (hrow2.out.grownO hg3.out (.inr (by intro e; simp [Value.ownBlock] at e; have := hgg.out; omega)))
      have hb3 := Lib.hid (below_set hb2.out (show w.heap.size ≤ g9 by have := hg9w.out; omega) 3 (Value.slice (some ⟨g, 0, none⟩) n cap))
      obtain ⟨q0, q1, q2, q3⟩ := cells4 ((w2.setCell ⟨g9, 3, none⟩ (Value.slice (some ⟨g, 0, none⟩) n cap))) (g9) (Value.int .i64 (pj : Int)) (Value.int .i64 view) (Value.int .i64 commit) (Value.slice (some ⟨g, 0, none⟩) n cap) (hN3.out)
      obtain ⟨m0, m1, m2, m3⟩ := cells4 ((w2.setCell ⟨g9, 3, none⟩ (Value.slice (some ⟨g, 0, none⟩) n cap))) (w.heap.size) (Value.int .i64 (pj : Int)) (Value.int .i64 view) (Value.int .i64 commit) (Value.slice (some ad) n c) (hX3.out)
      have c6 : (w2.setCell ⟨g9, 3, none⟩ (Value.slice (some ⟨g, 0, none⟩) n cap)).cell? ⟨g, pj * 3 + 2, none⟩ = some (Value.slice pA pn pc) := by
        rw [hrow3.out.cellAt hl.out.symm (k := pj) hpl (j := 2) (by decide), hpxe.out]; rfl
      clear hg3 hX2 hZ2 hN2 hrow2 hb2
      go_wp2_with fail
      clear k0 k1 k2 k3 z0 z1 z2 z3 q0 q1 q2 q3 m0 m1 m2 m3 c6
      generalize w2.setCell ⟨g9, 3, none⟩ (Value.slice (some ⟨g, 0, none⟩) n cap) = w6 at *
      have hgS : Hid (g < w6.heap.size) := (hrow3.out.grown_base hl.out.symm).2
      have hcell : Hid (∀ wz, Below w6.heap.size w6 wz → wz.cell? ⟨g, pj * 3 + 2, none⟩ = some (Value.slice pA pn pc) ∧ wz.cell? ⟨w.heap.size, 1, none⟩ = some (Value.int .i64 view)) := fun wz hz => by
        refine ⟨?_, (hX3.out.below hz hX3.out.lt).cell 1⟩
        rw [(hrow3.out.kept hz).cellAt hl.out.symm (k := pj) hpl (j := 2) (by decide), hpxe.out]; rfl
      have hcl : Hid (∀ wz, Below w6.heap.size w6 wz → Calls Try.prog 42 #[.slice pA pn pc] wz fun e w' => CopyRes wz w' pn pl e ∧ Below wz.heap.size wz w') := fun wz hz => copyLog_any pA pn pc pl wz (LogAt.more (LogAt.more hps.out hb3.out) hz) hpm.out.1 (Nat.le_trans hpm.out.2 (by omega))
      have hdc : Hid (∀ wz, Below w6.heap.size w6 wz → Calls Try.prog 50 #[.slice dA d.length dc] wz fun e w' => ∃ v, e = .returned v ∧ BOwn w' wz.heap.size v d ∧ Below wz.heap.size wz w') := fun wz hz => bclone_any dA d.length dc d wz (hda.out.more (hb3.out.trans (hz.mono hb3.out.size))) (by omega)
      obtain ⟨lv, hlv⟩ : ∃ lv, pl.map Em.val = lv := ⟨_, rfl⟩
      have hlvl : Hid (lv.length = pn) := by show _ = _; rw [← hlv, List.length_map]; exact hpnl.out
      replace hlv := Lib.hid hlv
      refine RUZ.region [(68, 61), (68, 67)] [] 15 (F := F23b w.heap.size g pj pn pc d.length dc w6.heap.size pA dA view d lv) (W := fun wz => Below w6.heap.size w6 wz) (R := R23b) rfl F23b_more (by kernel_rfl) (by kernel_rfl) (by kernel_rfl) (by kernel_rfl) (by kernel_rfl) (by kernel_rfl) ?_ ?_ ?_ ?_
      · exact (Below.refl _ _).drew
      · intro t ht
        unfold F23b
        split <;> first | trivial | exact rfl | (exact absurd ht (by decide))
      · intro i o hi ho
        have hcs : i = 0 ∨ i = 1 ∨ i = 2 ∨ i = 3 ∨ i = 4 ∨ i = 5 ∨ i = 6 ∨ i = 7 ∨ i = 8 ∨ i = 9 ∨ i = 10 ∨ i = 11 ∨ i = 12 ∨ i = 13 ∨ i = 14 := by omega
        rcases hcs with rfl | rfl | rfl | rfl | rfl | rfl | rfl | rfl | rfl | rfl | rfl | rfl | rfl | rfl | rfl <;> (injection ho with ho; subst ho)
        · intro a w2 hw _ hf K hK
          have f0 := hf 10 rfl
          simp only [F23b] at f0
          clear hf
          go_simp
          exact hK _ _ _ rfl rfl hw (Below.refl _ _) (fun h => absurd h (by decide))
        · intro a w2 hw _ hf K hK
          have f0 := hf 10 rfl
          simp only [F23b] at f0
          clear hf
          go_simp
          exact hK _ _ _ rfl rfl hw (Below.refl _ _) (fun h => absurd h (by decide))
        · intro a w2 hw _ hf K hK
          have f0 := hf 57 rfl
          simp only [F23b] at f0
          clear hf
          go_simp
          exact hK _ _ _ rfl rfl hw (Below.refl _ _) (fun h => absurd h (by decide))
        · intro a w2 hw _ hf K hK
          have f0 := hf 58 rfl
          simp only [F23b] at f0
          clear hf
          go_simp
          exact hK _ _ _ rfl rfl hw (Below.refl _ _) (fun h => absurd h (by decide))
        · intro a w2 hw _ hf K hK
          have f0 := hf 59 rfl
          simp only [F23b] at f0
          clear hf
          have e := (hcell.out w2 hw).1
          go_simp
          exact hK _ _ _ rfl rfl hw (Below.refl _ _) (fun h => absurd h (by decide))
        · intro a w2 hw _ hf K hK
          have f0 := hf 60 rfl
          simp only [F23b] at f0
          clear hf
          go_simp
          refine (hcl.out w2 hw).mono ?_; rintro e w5 ⟨⟨g5, l5, rfl, ho5, he5, hv5⟩, hbq⟩
          exact hK _ _ _ rfl ⟨g5, l5, rfl, ho5.mono hw.size, fun e he => (he5 e he).imp (fun b hb => ⟨Nat.le_trans hw.size hb.1, hb.2⟩), hv5.trans hlv.out⟩ (hw.trans (hbq.mono hw.size)) hbq (fun h => absurd h (by decide))
        · intro a w2 hw _ hf K hK
          have f0 := hf 3 rfl
          simp only [F23b] at f0
          clear hf
          go_simp
          exact hK _ _ _ rfl rfl hw (Below.refl _ _) (fun h => absurd h (by decide))
        · intro a w2 hw _ hf K hK
          have f0 := hf 62 rfl
          simp only [F23b] at f0
          clear hf
          have e := (hcell.out w2 hw).2
          go_simp
          exact hK _ _ _ rfl rfl hw (Below.refl _ _) (fun h => absurd h (by decide))
        · intro a w2 hw _ hf K hK
          have f0 := hf 1 rfl
          simp only [F23b] at f0
          clear hf
          go_simp
          exact hK _ _ _ rfl rfl hw (Below.refl _ _) (fun h => absurd h (by decide))
        · intro a w2 hw _ hf K hK
          have f0 := hf 64 rfl
          simp only [F23b] at f0
          clear hf
          go_simp
          refine (hdc.out w2 hw).mono ?_; rintro e w5 ⟨v5, rfl, ho5, hbq⟩
          exact hK _ _ _ rfl (ho5.mono hw.size) (hw.trans (hbq.mono hw.size)) hbq (fun h => absurd h (by decide))
        · intro a w2 hw _ hf K hK
          have f0 := hf 63 rfl
          have f1 := hf 65 rfl
          simp only [F23b] at f0 f1
          clear hf
          obtain ⟨A6, c6, e6, -, -, -, -⟩ := f1.form
          have f1 := Lib.hid f1
          have e7 := e6
          rw [e6] at f1
          go_simp
          exact hK _ _ _ rfl ⟨A6, c6, rfl, f1.out⟩ hw (Below.refl _ _) (fun h => absurd h (by decide))
        · intro a w2 hw _ hf K hK
          have f0 := hf 66 rfl
          simp only [F23b] at f0
          clear hf
          obtain ⟨A6, c6, e6, f0⟩ := f0
          have f0 := Lib.hid f0
          go_simp
          exact hK _ _ _ rfl ⟨w2.heap.size, A6, c6, rfl, hw.size, Blk.new w2 59 _, f0.out.alloc _⟩ (below_new hw _) (a1 w2 _) (fun h => absurd h (by decide))
        · intro a w2 hw _ hf K hK
          have f0 := hf 61 rfl
          have f1 := hf 67 rfl
          simp only [F23b] at f0 f1
          clear hf
          obtain ⟨g5, l5, e5, h51, h52, h53⟩ := f0
          obtain ⟨g6, A6, c6, e6, h61, h62, h63⟩ := f1
          have hl5 : l5.length = pn := by have := congrArg List.length h53; rw [List.length_map, hlvl.out] at this; exact this
          refine wp_append_in w2 (.tmp 61) (.tmp 67) 45 rfl w6.heap.size 59 i59 2 Try.underlying45 hi59.out hz591.out g5 pn (pn + 1) ((eval_tmp a 61).trans e5) h51 hl5.symm w2.heap.size (some ⟨g6, 0, none⟩) 1 1 ((eval_tmp a 67).trans e6) (lat_blk enC_len h62 [(⟨view, A6, d.length, c6, d⟩ : Em)] 1 rfl (by simp [flat, enC])).2 rfl (enC_one _) (Nat.le_refl _) ?_
          intro w5 ho hg
          have hbb : Below w6.heap.size w6 w5 := hw.grown hg hw.size (fun k hk => by injection hk with hk; rw [← hk]; exact (h51.grown_base hl5.symm).1)
          have hb6 := h63.grownT h51 (by decide) (by simpa [Value.ownBlock] using hg)
          obtain ⟨A7, c7, e7, hc7, hm7, hf7, hat7⟩ := hb6.form
          injection e7 with e7a _ e7b
          subst e7a
          subst e7b
          refine hK _ _ _ rfl ⟨some ⟨g5, 0, none⟩, pn + 1, l5 ++ [(⟨view, A6, d.length, c6, d⟩ : Em)], rfl, LogAt.of_own ho (by rw [List.length_append, hl5]; rfl) (fun e he => ?_), by rw [List.map_append, h53]; rfl⟩ hbb (by show if (68 : Nat) = 68 then _ else _; rw [if_pos rfl]; exact h51.blk_of hg) (fun h => absurd h (by decide))
          rcases List.mem_append.1 he with he | he
          · exact ((h52 e he).st hg (fun b hb e2 => by injection e2 with e2; exact hb.2 e2)).imp (fun b hb => hb.1)
          · simp at he
            subst he
            exact ⟨hat7, ⟨hc7, hm7⟩, fun _ ad e2 => (hf7 ad e2).2.1⟩
        · intro a w2 hw _ hf K hK
          have f0 := hf 56 rfl
          simp only [F23b] at f0
          clear hf
          go_simp
          exact hK _ _ _ rfl rfl hw (Below.refl _ _) (fun h => absurd h (by decide))
        · intro a w2 hw _ hf K hK
          have f0 := hf 69 rfl
          simp only [F23b] at f0
          clear hf
          go_simp
          exact hK _ _ _ rfl rfl hw (Below.refl _ _) (fun h => absurd h (by decide))
      · intro a' w9 hd hs hw hout hf
        have h68 := hf 12 68 (by decide) rfl rfl
        simp only [F23b] at h68
        have h70 := hf 14 70 (by decide) rfl rfl
        simp only [F23b] at h70
        have e0 := hout 0 rfl
        have e1 := hout 1 rfl
        have e2 := hout 2 rfl
        have e3 := hout 3 rfl
        have e4 := hout 4 rfl
        have e5 := hout 5 rfl
        have e6 := hout 6 rfl
        have e7 := hout 7 rfl
        have e8 := hout 8 rfl
        have e9 := hout 9 rfl
        have e10 := hout 10 rfl
        have e11 := hout 11 rfl
        have e12 := hout 12 rfl
        have e13 := hout 13 rfl
        have e14 := hout 14 rfl
        have e15 := hout 15 rfl
        have e16 := hout 16 rfl
        have e17 := hout 17 rfl
        have e18 := hout 18 rfl
        have e19 := hout 19 rfl
        have e20 := hout 20 rfl
        have e21 := hout 21 rfl
        have e22 := hout 22 rfl
        have e23 := hout 23 rfl
        have e24 := hout 24 rfl
        have e25 := hout 25 rfl
        have e26 := hout 26 rfl
        have e27 := hout 27 rfl
        have e28 := hout 28 rfl
        have e29 := hout 29 rfl
        have e30 := hout 30 rfl
        have e31 := hout 31 rfl
        have e32 := hout 32 rfl
        have e33 := hout 33 rfl
        have e34 := hout 34 rfl
        have e35 := hout 35 rfl
        have e36 := hout 36 rfl
        have e37 := hout 37 rfl
        have e38 := hout 38 rfl
        have e39 := hout 39 rfl
        have e40 := hout 40 rfl
        have e41 := hout 41 rfl
        have e42 := hout 42 rfl
        have e43 := hout 43 rfl
        have e44 := hout 44 rfl
        have e45 := hout 45 rfl
        have e46 := hout 46 rfl
        have e47 := hout 47 rfl
        have e48 := hout 48 rfl
        have e49 := hout 49 rfl
        have e50 := hout 50 rfl
        have e51 := hout 51 rfl
        have e52 := hout 52 rfl
        have e53 := hout 53 rfl
        have e54 := hout 54 rfl
        have e55 := hout 55 rfl
        have e108 := hout 108 rfl
        have e109 := hout 109 rfl
        have e110 := hout 110 rfl
        have e111 := hout 111 rfl
        have e112 := hout 112 rfl
        have e113 := hout 113 rfl
        have e114 := hout 114 rfl
        have e115 := hout 115 rfl
        have e116 := hout 116 rfl
        have e117 := hout 117 rfl
        have e118 := hout 118 rfl
        have e119 := hout 119 rfl
        have e120 := hout 120 rfl
        have e121 := hout 121 rfl
        have e122 := hout 122 rfl
        have e123 := hout 123 rfl
        simp only [List.getElem?_toArray, List.getElem?_cons_succ, List.getElem?_cons_zero] at e0 e1 e2 e3 e4 e5 e6 e7 e8 e9 e10 e11 e12 e13 e14 e15 e16 e17 e18 e19 e20 e21 e22 e23 e24 e25 e26 e27 e28 e29 e30 e31 e32 e33 e34 e35 e36 e37 e38 e39 e40 e41 e42 e43 e44 e45 e46 e47 e48 e49 e50 e51 e52 e53 e54 e55 e108 e109 e110 e111 e112 e113 e114 e115 e116 e117 e118 e119 e120 e121 e122 e123
        obtain ⟨tm, df⟩ := a'
        simp only at hd hs h68 h70 e0 e1 e2 e3 e4 e5 e6 e7 e8 e9 e10 e11 e12 e13 e14 e15 e16 e17 e18 e19 e20 e21 e22 e23 e24 e25 e26 e27 e28 e29 e30 e31 e32 e33 e34 e35 e36 e37 e38 e39 e40 e41 e42 e43 e44 e45 e46 e47 e48 e49 e50 e51 e52 e53 e54 e55 e108 e109 e110 e111 e112 e113 e114 e115 e116 e117 e118 e119 e120 e121 e122 e123
        have e := F23b_lit tm hs
        simp only [h70, e0, e1, e2, e3, e4, e5, e6, e7, e8, e9, e10, e11, e12, e13, e14, e15, e16, e17, e18, e19, e20, e21, e22, e23, e24, e25, e26, e27, e28, e29, e30, e31, e32, e33, e34, e35, e36, e37, e38, e39, e40, e41, e42, e43, e44, e45, e46, e47, e48, e49, e50, e51, e52, e53, e54, e55, e108, e109, e110, e111, e112, e113, e114, e115, e116, e117, e118, e119, e120, e121, e122, e123, Option.getD_some] at e
        clear hf hout hs
        rw [e, hd]
        clear e hd h70 e0 e1 e2 e3 e4 e5 e6 e7 e8 e9 e10 e11 e12 e13 e14 e15 e16 e17 e18 e19 e20 e21 e22 e23 e24 e25 e26 e27 e28 e29 e30 e31 e32 e33 e34 e35 e36 e37 e38 e39 e40 e41 e42 e43 e44 e45 e46 e47 e48 e49 e50 e51 e52 e53 e54 e55 e108 e109 e110 e111 e112 e113 e114 e115 e116 e117 e118 e119 e120 e121 e122 e123
        generalize tm[68]?.getD undef = u68x at h68 ⊢
        generalize tm[56]?.getD undef = u56x, tm[57]?.getD undef = u57x, tm[58]?.getD undef = u58x, tm[59]?.getD undef = u59x, tm[60]?.getD undef = u60x, tm[61]?.getD undef = u61x, tm[62]?.getD undef = u62x, tm[63]?.getD undef = u63x, tm[64]?.getD undef = u64x, tm[65]?.getD undef = u65x, tm[66]?.getD undef = u66x, tm[67]?.getD undef = u67x, tm[69]?.getD undef = u69x, tm[71]?.getD undef = u71x, tm[72]?.getD undef = u72x, tm[73]?.getD undef = u73x, tm[74]?.getD undef = u74x, tm[75]?.getD undef = u75x, tm[76]?.getD undef = u76x, tm[77]?.getD undef = u77x, tm[78]?.getD undef = u78x, tm[79]?.getD undef = u79x, tm[80]?.getD undef = u80x, tm[81]?.getD undef = u81x, tm[82]?.getD undef = u82x, tm[83]?.getD undef = u83x, tm[84]?.getD undef = u84x, tm[85]?.getD undef = u85x, tm[86]?.getD undef = u86x, tm[87]?.getD undef = u87x, tm[88]?.getD undef = u88x, tm[89]?.getD undef = u89x, tm[90]?.getD undef = u90x, tm[91]?.getD undef = u91x, tm[92]?.getD undef = u92x, tm[93]?.getD undef = u93x, tm[94]?.getD undef = u94x, tm[95]?.getD undef = u95x, tm[96]?.getD undef = u96x, tm[97]?.getD undef = u97x, tm[98]?.getD undef = u98x, tm[99]?.getD undef = u99x, tm[100]?.getD undef = u100x, tm[101]?.getD undef = u101x, tm[102]?.getD undef = u102x, tm[103]?.getD undef = u103x, tm[104]?.getD undef = u104x, tm[105]?.getD undef = u105x, tm[106]?.getD undef = u106x, tm[107]?.getD undef = u107x
        obtain ⟨A9, c9, l9, rfl, hl9, hv9⟩ := h68
        have hrow9 := Lib.hid (hrow3.out.kept hw)
        have hX9 := Lib.hid (hX3.out.below hw hX3.out.lt)
        have hZ9 := Lib.hid (hZ3.out.below hw hZ3.out.lt)
        have hN9 := Lib.hid (hN3.out.below hw hN3.out.lt)
        have hb9 : Hid (Below w.heap.size w w9) := hb3.out.trans (hw.mono hb3.out.size)
        replace hl9 := Lib.hid hl9
        replace hv9 := Lib.hid hv9
        clear hw hcell hcl hdc hrow3 hX3 hZ3 hN3 hb3
        have c5 : w9.cell? ⟨g, pj * 3 + 2, none⟩ = some (Value.slice pA pn pc) := by
          rw [hrow9.out.cellAt hl.out.symm (k := pj) hpl (j := 2) (by decide), hpxe.out]; rfl
        have z5 : w9.frozen? ⟨g, pj * 3 + 2, none⟩ = false := hrow9.out.frozenAt hl.out.symm _
        have hrowS := (hrow9.out.storep hl.out.symm (k := pj) hpl (⟨pu, pv, A9, pn + 1, c9, l9⟩ : Sm) 2 [Value.slice A9 (pn + 1) c9] (by simp) (row_set hpl ⟨pu, pv, pA, pn, pc, pl⟩ _ 2 _ (by decide) hpxe.out (by
          intro j hj h1
          have : j = 0 ∨ j = 1 := by omega
          rcases this with rfl | rfl <;> rfl) rfl)).1
        replace hrowS : Hid (LOwn svC 3 47 (w9.setCell ⟨g, pj * 3 + 2, none⟩ (Value.slice A9 (pn + 1) c9)) w.heap.size (.slice (some ⟨g, 0, none⟩) n cap) (sl.set pj ⟨pu, pv, A9, pn + 1, c9, l9⟩)) := hrowS
        have hgS9 : Hid (w9.grownBy (w9.setCell ⟨g, pj * 3 + 2, none⟩ (Value.slice A9 (pn + 1) c9)) (some g)) := only_set (World.grownBy.refl _ _) _ _
        have hXS := Lib.hid (hX9.out.grown hgS9.out (by intro e; injection e with e; have := hg9w.out; have := hgg.out; omega))
        have hZS := Lib.hid (hZ9.out.grown hgS9.out (by intro e; injection e with e; have := hg9w.out; have := hgg.out; omega))
        have hNS := Lib.hid (hN9.out.grown hgS9.out (by intro e; injection e with e; have := hgg.out; omega))
        have hbS := Lib.hid (hb9.out.grown hgS9.out hb9.out.size (fun g8 e8 => by injection e8 with e8; have := hg9w.out; have := hgg.out; omega))
        have hES : Hid (∀ s ∈ sl.set pj ⟨pu, pv, A9, pn + 1, c9, l9⟩, SmAt (w9.setCell ⟨g, pj * 3 + 2, none⟩ (Value.slice A9 (pn + 1) c9)) (fun b => ((Q b ∧ b < w.heap.size) ∨ g9 < b) ∧ b ≠ g) s) := fun s hs => by
          rcases List.mem_or_eq_of_mem_set hs with hs | rfl
          · refine SmAt.imp (SmAt.st ((hcm.out.els s hs).more hb9.out) hgS9.out (fun b hb e => ?_)) (fun b hb => ⟨Or.inl hb, ?_⟩)
            · injection e with e; have := hb.2; have := hg9w.out; have := hgg.out; omega
            · have := hb.2; have := hg9w.out; have := hgg.out; omega
          · show LogAt _ (fun b => ((Q b ∧ b < w.heap.size) ∨ g9 < b) ∧ b ≠ g) _ _ _ _
            refine LogAt.imp (LogAt.st hl9.out hgS9.out (fun b hb e => ?_)) (fun b hb => ⟨Or.inr ?_, ?_⟩)
            · injection e with e; have := hgS.out; omega
            · have := hgS.out; have := hgg.out; omega
            · have := hgS.out; omega
        clear hrow9 hX9 hZ9 hN9 hb9 hgS9 hl9
        obtain ⟨q0, q1, q2, q3⟩ := cells4 ((w9.setCell ⟨g, pj * 3 + 2, none⟩ (Value.slice A9 (pn + 1) c9))) (g9) (Value.int .i64 (pj : Int)) (Value.int .i64 view) (Value.int .i64 commit) (Value.slice (some ⟨g, 0, none⟩) n cap) (hNS.out)
        go_wp2_with fail
        clear c5 z5 q0 q1 q2 q3
        generalize w9.setCell ⟨g, pj * 3 + 2, none⟩ (Value.slice A9 (pn + 1) c9) = wS at *
        obtain ⟨nl, hnl⟩ : ∃ nl, nl = lv ++ [(⟨view, d⟩ : En)] := ⟨_, rfl⟩
        rw [← hnl] at hv9
        obtain ⟨U0, hU0⟩ : ∃ U0 : List Sv, U0 = (sl.set pj ⟨pu, pv, A9, pn + 1, c9, l9⟩).map Sm.val := ⟨_, rfl⟩
        have hU0' : Hid (U0 = (sl.map Sm.val).set pj ⟨pu, pv, nl⟩) := by show _ = _; rw [hU0, List.map_set]; show _ = _; congr 1; show Sv.mk pu pv (l9.map Em.val) = _; rw [hv9.out]
        have hUs : Hid (∀ u ∈ U0, svSm u) := fun u hu => by
          rw [hU0'.out] at hu
          rcases List.mem_or_eq_of_mem_set hu with hu | rfl
          · obtain ⟨s, hs, rfl⟩ := List.mem_map.1 hu
            exact svSm_val (hcm.out.els s hs) (hsm.out s hs)
          · have h1 := hpm.out
            refine svSm_nl hnl hlv.out hpnl.out ⟨h1.1, h1.2⟩ (by omega) (by omega) _ _
        have hUp : Hid (U0[pj]? = some ⟨pu, pv, nl⟩) := by show _ = _; rw [hU0'.out, List.getElem?_set_self (by simpa using hpl)]
        obtain ⟨R, hR⟩ : ∃ R, R = updS view nl reach (pj : Int) U0 0 1 := ⟨_, rfl⟩
        replace hR := Lib.hid hR
        replace hnl := Lib.hid hnl
        replace hv9 := Lib.hid hv9
        go_loopw [74, 12] (fun i v12 wr => ∃ (k h : Nat) (T : List Sm), k ≤ n ∧ h ≤ k + 1 ∧ i = .int .i64 k ∧ v12 = .int .i64 h ∧ Hid (T.length = n) ∧ Hid (LOwn svC 3 47 wr w.heap.size (.slice (some ⟨g, 0, none⟩) n cap) T) ∧ Hid (∀ s ∈ T, SmAt wr (fun b => ((Q b ∧ b < w.heap.size) ∨ g9 < b) ∧ b ≠ g) s) ∧ Hid (∀ u ∈ T.map Sm.val, svSm u) ∧ Hid (R = ((T.map Sm.val).take k ++ (updS view nl reach (pj : Int) ((T.map Sm.val).drop k) k h).1, (updS view nl reach (pj : Int) ((T.map Sm.val).drop k) k h).2)) ∧ Hid ((T.map Sm.val)[pj]? = some ⟨pu, pv, nl⟩) ∧ Hid (Blk wr w.heap.size 24 #[Value.int .i64 (pj : Int), Value.int .i64 view, Value.int .i64 commit, Value.slice (some ad) n c]) ∧ Hid (Blk wr (w.heap.size + 1) 24 #[Value.int .i64 0, Value.int .i64 0, Value.int .i64 0, Value.slice none 0 0]) ∧ Hid (Blk wr g9 24 #[Value.int .i64 (pj : Int), Value.int .i64 view, Value.int .i64 commit, Value.slice (some ⟨g, 0, none⟩) n cap]) ∧ Hid (Below w.heap.size w wr)) (fun i _ _ => n - (intOf i).toNat)
        case atStart => exact ⟨0, 1, _, Nat.zero_le _, Nat.le_refl _, rfl, rfl, by show _ = _; rw [List.length_set]; exact hl.out, hrowS.out, hES.out, by rw [← hU0]; exact hUs.out, by show _ = _; rw [← hU0, hR.out]; rfl, by rw [← hU0]; exact hUp.out, hXS.out, hZS.out, hNS.out, hbS.out⟩
        clear hrowS hES hXS hZS hNS hbS
        case round =>
          obtain ⟨k, h, T, hkn, hhk, rfl, rfl, hTn, hrow, hE, hTs, hRk, hTp, hX, hZ, hN, hb⟩ := hrel
          by_cases hlt : k < n
          · have hkT : k < T.length := by rw [hTn.out]; exact hlt
            have hk0 : (0 : Int) ≤ k := by omega
            have hk1 : (k : Int) < n := by omega
            obtain ⟨x, hx⟩ : ∃ x, T[k]? = some x := ⟨_, List.getElem?_eq_getElem hkT⟩
            have hxe : Hid (T[k] = x) := (List.getElem?_eq_some_iff.1 hx).2
            have hxo := Lib.hid hx
            clear hx
            have hUx : Hid ((T.map Sm.val)[k]? = some x.val) := by show _ = _; rw [List.getElem?_map, hxo.out]; rfl
            obtain ⟨xu, xv, xA, xn, xc, xl⟩ := x
            obtain ⟨e0, e1, e2⟩ := (show wr.cell? ⟨g, k * 3, none⟩ = some (Value.bool xu) ∧ wr.cell? ⟨g, k * 3 + 1, none⟩ = some (Value.int .i64 xv) ∧ wr.cell? ⟨g, k * 3 + 2, none⟩ = some (Value.slice xA xn xc) from by
              refine ⟨?_, ?_, ?_⟩
              · have := hrow.out.cellAt hTn.out.symm (k := k) hkT (j := 0) (by decide); rw [hxe.out] at this; exact this
              · have := hrow.out.cellAt hTn.out.symm (k := k) hkT (j := 1) (by decide); rw [hxe.out] at this; exact this
              · have := hrow.out.cellAt hTn.out.symm (k := k) hkT (j := 2) (by decide); rw [hxe.out] at this; exact this)
            have hbx : Hid (Below wr.heap.size wr (wr.alloc (.cells #[Value.bool xu, Value.int .i64 xv, Value.slice xA xn xc] 47))) := a1 wr _
            have hrowX := Lib.hid (hrow.out.kept hbx.out)
            have hXX := Lib.hid (hX.out.below hbx.out hX.out.lt)
            have hZX := Lib.hid (hZ.out.below hbx.out hZ.out.lt)
            have hNX := Lib.hid (hN.out.below hbx.out hN.out.lt)
            have hbX := Lib.hid (hb.out.trans (hbx.out.mono hb.out.size))
            have hEX : Hid (∀ s ∈ T, SmAt (wr.alloc (.cells #[Value.bool xu, Value.int .i64 xv, Value.slice xA xn xc] 47)) (fun b => ((Q b ∧ b < w.heap.size) ∨ g9 < b) ∧ b ≠ g) s) := fun s hs => (hE.out s hs).more hbx.out
            have hgX : Hid (g < (wr.alloc (.cells #[Value.bool xu, Value.int .i64 xv, Value.slice xA xn xc] 47)).heap.size) := (hrowX.out.grown_base hTn.out.symm).2
            have hy := Lib.hid (Blk.new wr 47 #[Value.bool xu, Value.int .i64 xv, Value.slice xA xn xc])
            clear hrow hX hZ hN hb hE hbx
            obtain ⟨k0, k1, k2, k3⟩ := cells4 ((wr.alloc (.cells #[Value.bool xu, Value.int .i64 xv, Value.slice xA xn xc] 47))) (w.heap.size) (Value.int .i64 (pj : Int)) (Value.int .i64 view) (Value.int .i64 commit) (Value.slice (some ad) n c) (hXX.out)
            obtain ⟨q0, q1, q2, q3⟩ := cells4 ((wr.alloc (.cells #[Value.bool xu, Value.int .i64 xv, Value.slice xA xn xc] 47))) (g9) (Value.int .i64 (pj : Int)) (Value.int .i64 view) (Value.int .i64 commit) (Value.slice (some ⟨g, 0, none⟩) n cap) (hNX.out)
            obtain ⟨y0, y1, y2⟩ := cells3 ((wr.alloc (.cells #[Value.bool xu, Value.int .i64 xv, Value.slice xA xn xc] 47))) (wr.heap.size) (Value.bool xu) (Value.int .i64 xv) (Value.slice xA xn xc) (hy.out)
            by_cases q1 : k = pj
            · subst q1
              have q1d : ((k : Int) == (k : Int)) = true := by simp
              have hR1 : Hid (R = ((T.map Sm.val).take (k + 1) ++ (updS view nl reach (k : Int) ((T.map Sm.val).drop (k + 1)) (k + 1) (h : Int)).1, (updS view nl reach (k : Int) ((T.map Sm.val).drop (k + 1)) (k + 1) (h : Int)).2)) := by
                show _ = _
                have := upd_step view nl reach (k : Int) _ k h _ hUx.out R hRk.out (Sm.val ⟨xu, xv, xA, xn, xc, xl⟩) (h : Int) (by rw [if_pos rfl])
                rw [set_same _ k _ hUx.out] at this
                exact this
              go_wp2_with fail
              go_roundw
              case rel => exact ⟨k + 1, h, T, by omega, by omega, by go_num, by go_num, hTn.out, hrowX.out, hEX.out, hTs.out, hR1.out, hTp.out, hXX.out, hZX.out, hNX.out, hbX.out⟩
              case measure => simp [intOf]; omega
            · have q1d : ((k : Int) == (pj : Int)) = false := by simp; omega
              have hkp : k ≠ pj := q1
              obtain ⟨p', hp'⟩ : ∃ p', T[pj]? = some p' := ⟨_, List.getElem?_eq_getElem (by rw [hTn.out]; exact hpn)⟩
              have hpv' : p'.val = ⟨pu, pv, nl⟩ := by
                have := hTp.out
                rw [List.getElem?_map, hp'] at this
                injection this
              have hpnl' : Hid (p'.log.map Em.val = nl) := congrArg Sv.log hpv'
              have hpo' := Lib.hid hp'
              have hpsm := Lib.hid (svSm_of (hEX.out _ (List.mem_of_getElem? hp')) (hTs.out _ (List.mem_map.2 ⟨_, List.mem_of_getElem? hp', rfl⟩)))
              have hnlsm : Hid (∀ a b, svSm ⟨a, b, nl⟩) := fun a b => by
                have := hTs.out _ (List.mem_of_getElem? hTp.out)
                exact ⟨this.1, this.2⟩
              clear hp' hpv'
              cases xu with
              | false =>
                have hnot : Hid (¬ ((Sm.val ⟨false, xv, xA, xn, xc, xl⟩).up = true ∧ (reach < 1 ∨ (h : Int) < reach))) := fun h => by cases h.1
                have hcell : Hid (∀ wz, Below (wr.alloc (.cells #[Value.bool false, Value.int .i64 xv, Value.slice xA xn xc] 47)).heap.size (wr.alloc (.cells #[Value.bool false, Value.int .i64 xv, Value.slice xA xn xc] 47)) wz → wz.cell? ⟨g9, 3, none⟩ = some (Value.slice (some ⟨g, 0, none⟩) n cap) ∧ wz.cell? ⟨wr.heap.size, 2, none⟩ = some (Value.slice xA xn xc)) := fun wz hz => ⟨(hNX.out.below hz hNX.out.lt).cell 3, (hy.out.below hz hy.out.lt).cell 2⟩
                have hxs2 := Lib.hid (hEX.out _ (List.mem_of_getElem? hxo.out))
                have hxm2 := Lib.hid (svSm_of hxs2.out (hTs.out _ (List.mem_map.2 ⟨_, List.mem_of_getElem? hxo.out, rfl⟩)))
                have hcl : Hid (∀ wz, Below (wr.alloc (.cells #[Value.bool false, Value.int .i64 xv, Value.slice xA xn xc] 47)).heap.size (wr.alloc (.cells #[Value.bool false, Value.int .i64 xv, Value.slice xA xn xc] 47)) wz → Calls Try.prog 42 #[.slice xA xn xc] wz fun e w' => CopyRes wz w' xn xl e ∧ Below wz.heap.size wz w') := fun wz hz => copyLog_any xA xn xc xl wz (SmAt.more hxs2.out hz) hxm2.out.1 hxm2.out.2
                obtain ⟨lv', hlv'⟩ : ∃ lv', xl.map Em.val = lv' := ⟨_, rfl⟩
                have hxl : Hid (xl.length = xn) := hxs2.out.len
                replace hlv' := Lib.hid hlv'
                go_wp2_with fail
                refine RUZ.region [] [] 8 (F := F23c g9 wr.heap.size g n cap k xn xc (wr.alloc (.cells #[Value.bool false, Value.int .i64 xv, Value.slice xA xn xc] 47)).heap.size xA lv') (W := fun wz => Below (wr.alloc (.cells #[Value.bool false, Value.int .i64 xv, Value.slice xA xn xc] 47)).heap.size (wr.alloc (.cells #[Value.bool false, Value.int .i64 xv, Value.slice xA xn xc] 47)) wz) (R := fun _ => Rb) rfl F23c_more (by kernel_rfl) (by kernel_rfl) (by kernel_rfl) (by kernel_rfl) (by kernel_rfl) (by kernel_rfl) ?_ ?_ ?_ ?_
                · exact (Below.refl _ _).drew
                · intro t ht
                  unfold F23c
                  split <;> first | trivial | exact rfl | (exact absurd ht (by decide))
                · intro i o hi ho
                  have hcs : i = 0 ∨ i = 1 ∨ i = 2 ∨ i = 3 ∨ i = 4 ∨ i = 5 ∨ i = 6 ∨ i = 7 := by omega
                  rcases hcs with rfl | rfl | rfl | rfl | rfl | rfl | rfl | rfl <;> (injection ho with ho; subst ho)
                  · intro a w2 hw _ hf K hK
                    have f0 := hf 9 rfl
                    simp only [F23c] at f0
                    clear hf
                    go_simp
                    exact hK _ _ _ rfl rfl hw (Below.refl _ _) (fun h => absurd h (by decide))
                  · intro a w2 hw _ hf K hK
                    have f0 := hf 99 rfl
                    simp only [F23c] at f0
                    clear hf
                    have e := (hcell.out w2 hw).1
                    go_simp
                    exact hK _ _ _ rfl rfl hw (Below.refl _ _) (fun h => absurd h (by decide))
                  · intro a w2 hw _ hf K hK
                    have f0 := hf 13 rfl
                    simp only [F23c] at f0
                    clear hf
                    go_simp
                    exact hK _ _ _ rfl rfl hw (Below.refl _ _) (fun h => absurd h (by decide))
                  · intro a w2 hw _ hf K hK
                    have f0 := hf 14 rfl
                    simp only [F23c] at f0
                    clear hf
                    go_simp
                    exact hK _ _ _ rfl rfl hw (Below.refl _ _) (fun h => absurd h (by decide))
                  · intro a w2 hw _ hf K hK
                    have f0 := hf 102 rfl
                    simp only [F23c] at f0
                    clear hf
                    have e := (hcell.out w2 hw).2
                    go_simp
                    exact hK _ _ _ rfl rfl hw (Below.refl _ _) (fun h => absurd h (by decide))
                  · intro a w2 hw _ hf K hK
                    have f0 := hf 103 rfl
                    simp only [F23c] at f0
                    clear hf
                    go_simp
                    refine (hcl.out w2 hw).mono ?_; rintro e w5 ⟨⟨g5, l5, rfl, ho5, he5, hv5⟩, hbq⟩
                    exact hK _ _ _ rfl ⟨some ⟨g5, 0, none⟩, xn + 1, l5, rfl, (LogAt.of_own ho5 (by have := congrArg List.length hv5; rw [List.length_map, List.length_map] at this; rw [this]; exact hxl.out) (fun e he => (he5 e he).imp (fun b hb => hb.1))).imp (fun b hb => Nat.le_trans hw.size hb), hv5.trans hlv'.out⟩ (hw.trans (hbq.mono hw.size)) hbq (fun h => absurd h (by decide))
                  · intro a w2 hw _ hf K hK
                    have f0 := hf 100 rfl
                    have f1 := hf 101 rfl
                    simp only [F23c] at f0 f1
                    clear hf
                    go_simp
                    exact hK _ _ _ rfl (by show _ = _; first | rfl | rw [add_row]) hw (Below.refl _ _) (fun h => absurd h (by decide))
                  · intro a w2 hw _ hf K hK
                    have f0 := hf 105 rfl
                    simp only [F23c] at f0
                    clear hf
                    go_simp
                    exact hK _ _ _ rfl rfl hw (Below.refl _ _) (fun h => absurd h (by decide))
                · intro a' w9 hd hs hw hout hf
                  have h104 := hf 5 104 (by decide) rfl rfl
                  simp only [F23c] at h104
                  have h106 := hf 7 106 (by decide) rfl rfl
                  simp only [F23c] at h106
                  have e0 := hout 0 rfl
                  have e1 := hout 1 rfl
                  have e2 := hout 2 rfl
                  have e3 := hout 3 rfl
                  have e4 := hout 4 rfl
                  have e5 := hout 5 rfl
                  have e6 := hout 6 rfl
                  have e7 := hout 7 rfl
                  have e8 := hout 8 rfl
                  have e9 := hout 9 rfl
                  have e10 := hout 10 rfl
                  have e11 := hout 11 rfl
                  have e12 := hout 12 rfl
                  have e13 := hout 13 rfl
                  have e14 := hout 14 rfl
                  have e15 := hout 15 rfl
                  have e16 := hout 16 rfl
                  have e17 := hout 17 rfl
                  have e18 := hout 18 rfl
                  have e19 := hout 19 rfl
                  have e20 := hout 20 rfl
                  have e21 := hout 21 rfl
                  have e22 := hout 22 rfl
                  have e23 := hout 23 rfl
                  have e24 := hout 24 rfl
                  have e25 := hout 25 rfl
                  have e26 := hout 26 rfl
                  have e27 := hout 27 rfl
                  have e28 := hout 28 rfl
                  have e29 := hout 29 rfl
                  have e30 := hout 30 rfl
                  have e31 := hout 31 rfl
                  have e32 := hout 32 rfl
                  have e33 := hout 33 rfl
                  have e34 := hout 34 rfl
                  have e35 := hout 35 rfl
                  have e36 := hout 36 rfl
                  have e37 := hout 37 rfl
                  have e38 := hout 38 rfl
                  have e39 := hout 39 rfl
                  have e40 := hout 40 rfl
                  have e41 := hout 41 rfl
                  have e42 := hout 42 rfl
                  have e43 := hout 43 rfl
                  have e44 := hout 44 rfl
                  have e45 := hout 45 rfl
                  have e46 := hout 46 rfl
                  have e47 := hout 47 rfl
                  have e48 := hout 48 rfl
                  have e49 := hout 49 rfl
                  have e50 := hout 50 rfl
                  have e51 := hout 51 rfl
                  have e52 := hout 52 rfl
                  have e53 := hout 53 rfl
                  have e54 := hout 54 rfl
                  have e55 := hout 55 rfl
                  have e56 := hout 56 rfl
                  have e57 := hout 57 rfl
                  have e58 := hout 58 rfl
                  have e59 := hout 59 rfl
                  have e60 := hout 60 rfl
                  have e61 := hout 61 rfl
                  have e62 := hout 62 rfl
                  have e63 := hout 63 rfl
                  have e64 := hout 64 rfl
                  have e65 := hout 65 rfl
                  have e66 := hout 66 rfl
                  have e67 := hout 67 rfl
                  have e68 := hout 68 rfl
                  have e69 := hout 69 rfl
                  have e70 := hout 70 rfl
                  have e71 := hout 71 rfl
                  have e72 := hout 72 rfl
                  have e73 := hout 73 rfl
                  have e74 := hout 74 rfl
                  have e108 := hout 108 rfl
                  have e109 := hout 109 rfl
                  have e110 := hout 110 rfl
                  have e111 := hout 111 rfl
                  have e112 := hout 112 rfl
                  have e113 := hout 113 rfl
                  have e114 := hout 114 rfl
                  have e115 := hout 115 rfl
                  have e116 := hout 116 rfl
                  have e117 := hout 117 rfl
                  have e118 := hout 118 rfl
                  have e119 := hout 119 rfl
                  have e120 := hout 120 rfl
                  have e121 := hout 121 rfl
                  have e122 := hout 122 rfl
                  have e123 := hout 123 rfl
                  simp only [List.getElem?_toArray, List.getElem?_cons_succ, List.getElem?_cons_zero] at e0 e1 e2 e3 e4 e5 e6 e7 e8 e9 e10 e11 e12 e13 e14 e15 e16 e17 e18 e19 e20 e21 e22 e23 e24 e25 e26 e27 e28 e29 e30 e31 e32 e33 e34 e35 e36 e37 e38 e39 e40 e41 e42 e43 e44 e45 e46 e47 e48 e49 e50 e51 e52 e53 e54 e55 e56 e57 e58 e59 e60 e61 e62 e63 e64 e65 e66 e67 e68 e69 e70 e71 e72 e73 e74 e108 e109 e110 e111 e112 e113 e114 e115 e116 e117 e118 e119 e120 e121 e122 e123
                  obtain ⟨tm, df⟩ := a'
                  simp only at hd hs h104 h106 e0 e1 e2 e3 e4 e5 e6 e7 e8 e9 e10 e11 e12 e13 e14 e15 e16 e17 e18 e19 e20 e21 e22 e23 e24 e25 e26 e27 e28 e29 e30 e31 e32 e33 e34 e35 e36 e37 e38 e39 e40 e41 e42 e43 e44 e45 e46 e47 e48 e49 e50 e51 e52 e53 e54 e55 e56 e57 e58 e59 e60 e61 e62 e63 e64 e65 e66 e67 e68 e69 e70 e71 e72 e73 e74 e108 e109 e110 e111 e112 e113 e114 e115 e116 e117 e118 e119 e120 e121 e122 e123
                  have e := F23c_lit tm hs
                  simp only [h106, e0, e1, e2, e3, e4, e5, e6, e7, e8, e9, e10, e11, e12, e13, e14, e15, e16, e17, e18, e19, e20, e21, e22, e23, e24, e25, e26, e27, e28, e29, e30, e31, e32, e33, e34, e35, e36, e37, e38, e39, e40, e41, e42, e43, e44, e45, e46, e47, e48, e49, e50, e51, e52, e53, e54, e55, e56, e57, e58, e59, e60, e61, e62, e63, e64, e65, e66, e67, e68, e69, e70, e71, e72, e73, e74, e108, e109, e110, e111, e112, e113, e114, e115, e116, e117, e118, e119, e120, e121, e122, e123, Option.getD_some] at e
                  clear hf hout hs
                  rw [e, hd]
                  clear e hd h106 e0 e1 e2 e3 e4 e5 e6 e7 e8 e9 e10 e11 e12 e13 e14 e15 e16 e17 e18 e19 e20 e21 e22 e23 e24 e25 e26 e27 e28 e29 e30 e31 e32 e33 e34 e35 e36 e37 e38 e39 e40 e41 e42 e43 e44 e45 e46 e47 e48 e49 e50 e51 e52 e53 e54 e55 e56 e57 e58 e59 e60 e61 e62 e63 e64 e65 e66 e67 e68 e69 e70 e71 e72 e73 e74 e108 e109 e110 e111 e112 e113 e114 e115 e116 e117 e118 e119 e120 e121 e122 e123
                  generalize tm[104]?.getD undef = u104x at h104 ⊢
                  generalize tm[75]?.getD undef = u75x, tm[76]?.getD undef = u76x, tm[77]?.getD undef = u77x, tm[78]?.getD undef = u78x, tm[79]?.getD undef = u79x, tm[80]?.getD undef = u80x, tm[81]?.getD undef = u81x, tm[82]?.getD undef = u82x, tm[83]?.getD undef = u83x, tm[84]?.getD undef = u84x, tm[85]?.getD undef = u85x, tm[86]?.getD undef = u86x, tm[87]?.getD undef = u87x, tm[88]?.getD undef = u88x, tm[89]?.getD undef = u89x, tm[90]?.getD undef = u90x, tm[91]?.getD undef = u91x, tm[92]?.getD undef = u92x, tm[93]?.getD undef = u93x, tm[94]?.getD undef = u94x, tm[95]?.getD undef = u95x, tm[96]?.getD undef = u96x, tm[97]?.getD undef = u97x, tm[98]?.getD undef = u98x, tm[99]?.getD undef = u99x, tm[100]?.getD undef = u100x, tm[101]?.getD undef = u101x, tm[102]?.getD undef = u102x, tm[103]?.getD undef = u103x, tm[105]?.getD undef = u105x, tm[107]?.getD undef = u107x
                  obtain ⟨A9, c9, l9, rfl, hl9, hv9'⟩ := h104
                  have hrow9 := Lib.hid (hrowX.out.kept hw)
                  have hX9 := Lib.hid (hXX.out.below hw hXX.out.lt)
                  have hZ9 := Lib.hid (hZX.out.below hw hZX.out.lt)
                  have hN9 := Lib.hid (hNX.out.below hw hNX.out.lt)
                  have hb9 : Hid (Below w.heap.size w w9) := hbX.out.trans (hw.mono hbX.out.size)
                  have hE9 : Hid (∀ s ∈ T, SmAt w9 (fun b => ((Q b ∧ b < w.heap.size) ∨ g9 < b) ∧ b ≠ g) s) := fun s hs => (hEX.out s hs).more hw
                  replace hl9 := Lib.hid hl9
                  replace hv9' := Lib.hid hv9'
                  clear hw hcell hcl
                  have c5 : w9.cell? ⟨g, k * 3 + 2, none⟩ = some (Value.slice xA xn xc) := by
                    rw [hrow9.out.cellAt hTn.out.symm (k := k) hkT (j := 2) (by decide), hxe.out]; rfl
                  have z5 : w9.frozen? ⟨g, k * 3 + 2, none⟩ = false := hrow9.out.frozenAt hTn.out.symm _
                  have hrow3 := (hrow9.out.storep hTn.out.symm (k := k) hkT (⟨false, xv, A9, xn, c9, l9⟩ : Sm) 2 [Value.slice A9 xn c9] (by simp) (row_set hkT ⟨false, xv, xA, xn, xc, xl⟩ _ 2 _ (by decide) hxe.out (by
                    intro j hj h1
                    have : j = 0 ∨ j = 1 := by omega
                    rcases this with rfl | rfl <;> rfl) rfl)).1
                  replace hrow3 : Hid (LOwn svC 3 47 (w9.setCell ⟨g, k * 3 + 2, none⟩ (Value.slice A9 xn c9)) w.heap.size (.slice (some ⟨g, 0, none⟩) n cap) (T.set k (⟨false, xv, A9, xn, c9, l9⟩ : Sm))) := hrow3
                  have hg3 : Hid (w9.grownBy (w9.setCell ⟨g, k * 3 + 2, none⟩ (Value.slice A9 xn c9)) (some g)) := only_set (World.grownBy.refl _ _) _ _
                  have hE3 : Hid (∀ s ∈ T.set k (⟨false, xv, A9, xn, c9, l9⟩ : Sm), SmAt (w9.setCell ⟨g, k * 3 + 2, none⟩ (Value.slice A9 xn c9)) (fun b => ((Q b ∧ b < w.heap.size) ∨ g9 < b) ∧ b ≠ g) s) := fun s hs => by
                    rcases List.mem_or_eq_of_mem_set hs with hs | rfl
                    · exact (hE9.out s hs).st hg3.out (fun b hb e => by injection e with e; exact hb.2 e)
                    · show LogAt _ (fun b => ((Q b ∧ b < w.heap.size) ∨ g9 < b) ∧ b ≠ g) _ _ _ _
                      refine LogAt.imp (LogAt.st hl9.out hg3.out (fun b hb e => ?_)) (fun b hb => ?_)
                      · injection e with e; have := hgX.out; omega
                      · have := hgX.out; have := hgg.out; exact ⟨Or.inr (by omega), by omega⟩
                  have hU3 : (T.set k (⟨false, xv, A9, xn, c9, l9⟩ : Sm)).map Sm.val = T.map Sm.val := by
                    rw [List.map_set]
                    refine set_same _ k _ ?_
                    rw [hUx.out]
                    show some (Sv.mk false xv (xl.map Em.val)) = some (Sv.mk false xv (l9.map Em.val))
                    rw [hv9'.out, hlv'.out]
                  have hR3 : Hid (R = (((T.set k (⟨false, xv, A9, xn, c9, l9⟩ : Sm)).map Sm.val).take (k + 1) ++ (updS view nl reach (pj : Int) (((T.set k (⟨false, xv, A9, xn, c9, l9⟩ : Sm)).map Sm.val).drop (k + 1)) (k + 1) (h : Int)).1, (updS view nl reach (pj : Int) (((T.set k (⟨false, xv, A9, xn, c9, l9⟩ : Sm)).map Sm.val).drop (k + 1)) (k + 1) (h : Int)).2)) := by
                    show _ = _
                    rw [hU3]
                    have := upd_step view nl reach (pj : Int) _ k h _ hUx.out R hRk.out (Sm.val ⟨false, xv, xA, xn, xc, xl⟩) (h : Int) (by rw [if_neg (by omega), if_neg hnot.out])
                    rw [set_same _ k _ hUx.out] at this
                    exact this
                  have hTs3 : Hid (∀ u ∈ (T.set k (⟨false, xv, A9, xn, c9, l9⟩ : Sm)).map Sm.val, svSm u) := by rw [hU3]; exact hTs.out
                  have hT3 : Hid (((T.set k (⟨false, xv, A9, xn, c9, l9⟩ : Sm)).map Sm.val)[pj]? = some ⟨pu, pv, nl⟩) := by rw [hU3]; exact hTp.out
                  have hl3 : Hid ((T.set k (⟨false, xv, A9, xn, c9, l9⟩ : Sm)).length = n) := by show _ = _; rw [List.length_set]; exact hTn.out
                  clear hU3
                  go_wp2_with fail
                  go_roundw
                  case rel => exact ⟨k + 1, h, T.set k (⟨false, xv, A9, xn, c9, l9⟩ : Sm), by omega, by omega, by go_num, by go_num, hl3.out, hrow3.out, hE3.out, hTs3.out, hR3.out, hT3.out, hX9.out.grown hg3.out (by intro e; injection e with e; have := hg9w.out; have := hgg.out; omega), hZ9.out.grown hg3.out (by intro e; injection e with e; have := hg9w.out; have := hgg.out; omega), hN9.out.grown hg3.out (by intro e; injection e with e; have := hgg.out; omega), hb9.out.grown hg3.out hb9.out.size (fun g8 e8 => by injection e8 with e8; have := hg9w.out; have := hgg.out; omega)⟩
                  case measure => simp [intOf]; omega
              | true =>
                by_cases q2 : reach < 1
                · have q2d : decide (reach < 1) = true := by simpa using q2
                  have hup := Lib.hid (update_any pj view commit g n cap w.heap.size k T ⟨true, xv, xA, xn, xc, xl⟩ p' (wr.alloc (.cells #[Value.bool true, Value.int .i64 xv, Value.slice xA xn xc] 47)) hrowX.out hTn.out (by omega) hxo.out hpo'.out (hEX.out _ (List.mem_of_getElem? hxo.out)) (hEX.out _ (List.mem_of_getElem? hpo'.out)) (fun b hb => hb.2) hpsm.out)
                  go_wp2_with fail
                  refine hup.out.mono ?_; rintro e w5 ⟨rfl, ⟨s', hrow5, hs5, hv5⟩, hg5⟩
                  have hX5 := Lib.hid (hXX.out.grown hg5 (by intro e; injection e with e; have := hg9w.out; have := hgg.out; omega))
                  have hZ5 := Lib.hid (hZX.out.grown hg5 (by intro e; injection e with e; have := hg9w.out; have := hgg.out; omega))
                  have hN5 := Lib.hid (hNX.out.grown hg5 (by intro e; injection e with e; have := hgg.out; omega))
                  have hb5 := Lib.hid (hbX.out.grown hg5 hbX.out.size (fun g8 e8 => by injection e8 with e8; have := hg9w.out; have := hgg.out; omega))
                  have hE5 : Hid (∀ s ∈ T.set k s', SmAt w5 (fun b => ((Q b ∧ b < w.heap.size) ∨ g9 < b) ∧ b ≠ g) s) := fun s hs => by
                    rcases List.mem_or_eq_of_mem_set hs with hs | rfl
                    · exact (hEX.out s hs).st hg5 (fun b hb e => by injection e with e; exact hb.2 e)
                    · refine hs5.imp (fun b hb => ?_)
                      rcases hb with hb | hb
                      · exact hb
                      · have := hgX.out; have := hgg.out; exact ⟨Or.inr (by omega), by omega⟩
                  have hv5' : s'.val = ⟨true, view, nl⟩ := by rw [hv5, show p'.log.map Em.val = nl from hpnl'.out]
                  have hU5 : (T.set k s').map Sm.val = (T.map Sm.val).set k ⟨true, view, nl⟩ := by rw [List.map_set, hv5']
                  have hTs5 : Hid (∀ u ∈ (T.set k s').map Sm.val, svSm u) := fun u hu => by
                    rw [hU5] at hu
                    rcases List.mem_or_eq_of_mem_set hu with hu | rfl
                    · exact hTs.out u hu
                    · exact hnlsm.out _ _
                  have hR5 : Hid (R = (((T.set k s').map Sm.val).take (k + 1) ++ (updS view nl reach (pj : Int) (((T.set k s').map Sm.val).drop (k + 1)) (k + 1) ((h + 1 : Nat) : Int)).1, (updS view nl reach (pj : Int) (((T.set k s').map Sm.val).drop (k + 1)) (k + 1) ((h + 1 : Nat) : Int)).2)) := by
                    show _ = _
                    rw [hU5]
                    exact upd_step view nl reach (pj : Int) _ k h _ hUx.out R hRk.out _ _ (by rw [if_neg (by omega), if_pos ⟨rfl, Or.inl q2⟩]; rfl)
                  have hT5 : Hid (((T.set k s').map Sm.val)[pj]? = some ⟨pu, pv, nl⟩) := by show _ = _; rw [hU5, List.getElem?_set_ne hkp]; exact hTp.out
                  have hrow5 := Lib.hid hrow5
                  have hl5 : Hid ((T.set k s').length = n) := by show _ = _; rw [List.length_set]; exact hTn.out
                  clear hup hs5 hv5 hg5 hv5' hU5
                  go_wp2_with fail
                  go_roundw
                  case rel => exact ⟨k + 1, h + 1, T.set k s', by omega, by omega, by go_num, by go_num, hl5.out, hrow5.out, hE5.out, hTs5.out, hR5.out, hT5.out, hX5.out, hZ5.out, hN5.out, hb5.out⟩
                  case measure => simp [intOf]; omega
                · have q2d : decide (reach < 1) = false := by simpa using q2
                  by_cases q3 : (h : Int) < reach
                  · have q3d : decide ((h : Int) < reach) = true := by simpa using q3
                    have hup := Lib.hid (update_any pj view commit g n cap w.heap.size k T ⟨true, xv, xA, xn, xc, xl⟩ p' (wr.alloc (.cells #[Value.bool true, Value.int .i64 xv, Value.slice xA xn xc] 47)) hrowX.out hTn.out (by omega) hxo.out hpo'.out (hEX.out _ (List.mem_of_getElem? hxo.out)) (hEX.out _ (List.mem_of_getElem? hpo'.out)) (fun b hb => hb.2) hpsm.out)
                    go_wp2_with fail
                    refine hup.out.mono ?_; rintro e w5 ⟨rfl, ⟨s', hrow5, hs5, hv5⟩, hg5⟩
                    have hX5 := Lib.hid (hXX.out.grown hg5 (by intro e; injection e with e; have := hg9w.out; have := hgg.out; omega))
                    have hZ5 := Lib.hid (hZX.out.grown hg5 (by intro e; injection e with e; have := hg9w.out; have := hgg.out; omega))
                    have hN5 := Lib.hid (hNX.out.grown hg5 (by intro e; injection e with e; have := hgg.out; omega))
                    have hb5 := Lib.hid (hbX.out.grown hg5 hbX.out.size (fun g8 e8 => by injection e8 with e8; have := hg9w.out; have := hgg.out; omega))
                    have hE5 : Hid (∀ s ∈ T.set k s', SmAt w5 (fun b => ((Q b ∧ b < w.heap.size) ∨ g9 < b) ∧ b ≠ g) s) := fun s hs => by
                      rcases List.mem_or_eq_of_mem_set hs with hs | rfl
                      · exact (hEX.out s hs).st hg5 (fun b hb e => by injection e with e; exact hb.2 e)
                      · refine hs5.imp (fun b hb => ?_)
                        rcases hb with hb | hb
                        · exact hb
                        · have := hgX.out; have := hgg.out; exact ⟨Or.inr (by omega), by omega⟩
                    have hv5' : s'.val = ⟨true, view, nl⟩ := by rw [hv5, show p'.log.map Em.val = nl from hpnl'.out]
                    have hU5 : (T.set k s').map Sm.val = (T.map Sm.val).set k ⟨true, view, nl⟩ := by rw [List.map_set, hv5']
                    have hTs5 : Hid (∀ u ∈ (T.set k s').map Sm.val, svSm u) := fun u hu => by
                      rw [hU5] at hu
                      rcases List.mem_or_eq_of_mem_set hu with hu | rfl
                      · exact hTs.out u hu
                      · exact hnlsm.out _ _
                    have hR5 : Hid (R = (((T.set k s').map Sm.val).take (k + 1) ++ (updS view nl reach (pj : Int) (((T.set k s').map Sm.val).drop (k + 1)) (k + 1) ((h + 1 : Nat) : Int)).1, (updS view nl reach (pj : Int) (((T.set k s').map Sm.val).drop (k + 1)) (k + 1) ((h + 1 : Nat) : Int)).2)) := by
                      show _ = _
                      rw [hU5]
                      exact upd_step view nl reach (pj : Int) _ k h _ hUx.out R hRk.out _ _ (by rw [if_neg (by omega), if_pos ⟨rfl, Or.inr q3⟩]; rfl)
                    have hT5 : Hid (((T.set k s').map Sm.val)[pj]? = some ⟨pu, pv, nl⟩) := by show _ = _; rw [hU5, List.getElem?_set_ne hkp]; exact hTp.out
                    have hrow5 := Lib.hid hrow5
                    have hl5 : Hid ((T.set k s').length = n) := by show _ = _; rw [List.length_set]; exact hTn.out
                    clear hup hs5 hv5 hg5 hv5' hU5
                    go_wp2_with fail
                    go_roundw
                    case rel => exact ⟨k + 1, h + 1, T.set k s', by omega, by omega, by go_num, by go_num, hl5.out, hrow5.out, hE5.out, hTs5.out, hR5.out, hT5.out, hX5.out, hZ5.out, hN5.out, hb5.out⟩
                    case measure => simp [intOf]; omega
                  · have q3d : decide ((h : Int) < reach) = false := by simpa using q3
                    have hnot : Hid (¬ ((Sm.val ⟨true, xv, xA, xn, xc, xl⟩).up = true ∧ (reach < 1 ∨ (h : Int) < reach))) := fun hh => hh.2.elim q2 q3
                    have hcell : Hid (∀ wz, Below (wr.alloc (.cells #[Value.bool true, Value.int .i64 xv, Value.slice xA xn xc] 47)).heap.size (wr.alloc (.cells #[Value.bool true, Value.int .i64 xv, Value.slice xA xn xc] 47)) wz → wz.cell? ⟨g9, 3, none⟩ = some (Value.slice (some ⟨g, 0, none⟩) n cap) ∧ wz.cell? ⟨wr.heap.size, 2, none⟩ = some (Value.slice xA xn xc)) := fun wz hz => ⟨(hNX.out.below hz hNX.out.lt).cell 3, (hy.out.below hz hy.out.lt).cell 2⟩
                    have hxs2 := Lib.hid (hEX.out _ (List.mem_of_getElem? hxo.out))
                    have hxm2 := Lib.hid (svSm_of hxs2.out (hTs.out _ (List.mem_map.2 ⟨_, List.mem_of_getElem? hxo.out, rfl⟩)))
                    have hcl : Hid (∀ wz, Below (wr.alloc (.cells #[Value.bool true, Value.int .i64 xv, Value.slice xA xn xc] 47)).heap.size (wr.alloc (.cells #[Value.bool true, Value.int .i64 xv, Value.slice xA xn xc] 47)) wz → Calls Try.prog 42 #[.slice xA xn xc] wz fun e w' => CopyRes wz w' xn xl e ∧ Below wz.heap.size wz w') := fun wz hz => copyLog_any xA xn xc xl wz (SmAt.more hxs2.out hz) hxm2.out.1 hxm2.out.2
                    obtain ⟨lv', hlv'⟩ : ∃ lv', xl.map Em.val = lv' := ⟨_, rfl⟩
                    have hxl : Hid (xl.length = xn) := hxs2.out.len
                    replace hlv' := Lib.hid hlv'
                    go_wp2_with fail
                    refine RUZ.region [] [] 8 (F := F23c g9 wr.heap.size g n cap k xn xc (wr.alloc (.cells #[Value.bool true, Value.int .i64 xv, Value.slice xA xn xc] 47)).heap.size xA lv') (W := fun wz => Below (wr.alloc (.cells #[Value.bool true, Value.int .i64 xv, Value.slice xA xn xc] 47)).heap.size (wr.alloc (.cells #[Value.bool true, Value.int .i64 xv, Value.slice xA xn xc] 47)) wz) (R := fun _ => Rb) rfl F23c_more (by kernel_rfl) (by kernel_rfl) (by kernel_rfl) (by kernel_rfl) (by kernel_rfl) (by kernel_rfl) ?_ ?_ ?_ ?_
                    · exact (Below.refl _ _).drew
                    · intro t ht
                      unfold F23c
                      split <;> first | trivial | exact rfl | (exact absurd ht (by decide))
                    · intro i o hi ho
                      have hcs : i = 0 ∨ i = 1 ∨ i = 2 ∨ i = 3 ∨ i = 4 ∨ i = 5 ∨ i = 6 ∨ i = 7 := by omega
                      rcases hcs with rfl | rfl | rfl | rfl | rfl | rfl | rfl | rfl <;> (injection ho with ho; subst ho)
                      · intro a w2 hw _ hf K hK
                        have f0 := hf 9 rfl
                        simp only [F23c] at f0
                        clear hf
                        go_simp
                        exact hK _ _ _ rfl rfl hw (Below.refl _ _) (fun h => absurd h (by decide))
                      · intro a w2 hw _ hf K hK
                        have f0 := hf 99 rfl
                        simp only [F23c] at f0
                        clear hf
                        have e := (hcell.out w2 hw).1
                        go_simp
                        exact hK _ _ _ rfl rfl hw (Below.refl _ _) (fun h => absurd h (by decide))
                      · intro a w2 hw _ hf K hK
                        have f0 := hf 13 rfl
                        simp only [F23c] at f0
                        clear hf
                        go_simp
                        exact hK _ _ _ rfl rfl hw (Below.refl _ _) (fun h => absurd h (by decide))
                      · intro a w2 hw _ hf K hK
                        have f0 := hf 14 rfl
                        simp only [F23c] at f0
                        clear hf
                        go_simp
                        exact hK _ _ _ rfl rfl hw (Below.refl _ _) (fun h => absurd h (by decide))
                      · intro a w2 hw _ hf K hK
                        have f0 := hf 102 rfl
                        simp only [F23c] at f0
                        clear hf
                        have e := (hcell.out w2 hw).2
                        go_simp
                        exact hK _ _ _ rfl rfl hw (Below.refl _ _) (fun h => absurd h (by decide))
                      · intro a w2 hw _ hf K hK
                        have f0 := hf 103 rfl
                        simp only [F23c] at f0
                        clear hf
                        go_simp
                        refine (hcl.out w2 hw).mono ?_; rintro e w5 ⟨⟨g5, l5, rfl, ho5, he5, hv5⟩, hbq⟩
                        exact hK _ _ _ rfl ⟨some ⟨g5, 0, none⟩, xn + 1, l5, rfl, (LogAt.of_own ho5 (by have := congrArg List.length hv5; rw [List.length_map, List.length_map] at this; rw [this]; exact hxl.out) (fun e he => (he5 e he).imp (fun b hb => hb.1))).imp (fun b hb => Nat.le_trans hw.size hb), hv5.trans hlv'.out⟩ (hw.trans (hbq.mono hw.size)) hbq (fun h => absurd h (by decide))
                      · intro a w2 hw _ hf K hK
                        have f0 := hf 100 rfl
                        have f1 := hf 101 rfl
                        simp only [F23c] at f0 f1
                        clear hf
                        go_simp
                        exact hK _ _ _ rfl (by show _ = _; first | rfl | rw [add_row]) hw (Below.refl _ _) (fun h => absurd h (by decide))
                      · intro a w2 hw _ hf K hK
                        have f0 := hf 105 rfl
                        simp only [F23c] at f0
                        clear hf
                        go_simp
                        exact hK _ _ _ rfl rfl hw (Below.refl _ _) (fun h => absurd h (by decide))
                    · intro a' w9 hd hs hw hout hf
                      have h104 := hf 5 104 (by decide) rfl rfl
                      simp only [F23c] at h104
                      have h106 := hf 7 106 (by decide) rfl rfl
                      simp only [F23c] at h106
                      have e0 := hout 0 rfl
                      have e1 := hout 1 rfl
                      have e2 := hout 2 rfl
                      have e3 := hout 3 rfl
                      have e4 := hout 4 rfl
                      have e5 := hout 5 rfl
                      have e6 := hout 6 rfl
                      have e7 := hout 7 rfl
                      have e8 := hout 8 rfl
                      have e9 := hout 9 rfl
                      have e10 := hout 10 rfl
                      have e11 := hout 11 rfl
                      have e12 := hout 12 rfl
                      have e13 := hout 13 rfl
                      have e14 := hout 14 rfl
                      have e15 := hout 15 rfl
                      have e16 := hout 16 rfl
                      have e17 := hout 17 rfl
                      have e18 := hout 18 rfl
                      have e19 := hout 19 rfl
                      have e20 := hout 20 rfl
                      have e21 := hout 21 rfl
                      have e22 := hout 22 rfl
                      have e23 := hout 23 rfl
                      have e24 := hout 24 rfl
                      have e25 := hout 25 rfl
                      have e26 := hout 26 rfl
                      have e27 := hout 27 rfl
                      have e28 := hout 28 rfl
                      have e29 := hout 29 rfl
                      have e30 := hout 30 rfl
                      have e31 := hout 31 rfl
                      have e32 := hout 32 rfl
                      have e33 := hout 33 rfl
                      have e34 := hout 34 rfl
                      have e35 := hout 35 rfl
                      have e36 := hout 36 rfl
                      have e37 := hout 37 rfl
                      have e38 := hout 38 rfl
                      have e39 := hout 39 rfl
                      have e40 := hout 40 rfl
                      have e41 := hout 41 rfl
                      have e42 := hout 42 rfl
                      have e43 := hout 43 rfl
                      have e44 := hout 44 rfl
                      have e45 := hout 45 rfl
                      have e46 := hout 46 rfl
                      have e47 := hout 47 rfl
                      have e48 := hout 48 rfl
                      have e49 := hout 49 rfl
                      have e50 := hout 50 rfl
                      have e51 := hout 51 rfl
                      have e52 := hout 52 rfl
                      have e53 := hout 53 rfl
                      have e54 := hout 54 rfl
                      have e55 := hout 55 rfl
                      have e56 := hout 56 rfl
                      have e57 := hout 57 rfl
                      have e58 := hout 58 rfl
                      have e59 := hout 59 rfl
                      have e60 := hout 60 rfl
                      have e61 := hout 61 rfl
                      have e62 := hout 62 rfl
                      have e63 := hout 63 rfl
                      have e64 := hout 64 rfl
                      have e65 := hout 65 rfl
                      have e66 := hout 66 rfl
                      have e67 := hout 67 rfl
                      have e68 := hout 68 rfl
                      have e69 := hout 69 rfl
                      have e70 := hout 70 rfl
                      have e71 := hout 71 rfl
                      have e72 := hout 72 rfl
                      have e73 := hout 73 rfl
                      have e74 := hout 74 rfl
                      have e108 := hout 108 rfl
                      have e109 := hout 109 rfl
                      have e110 := hout 110 rfl
                      have e111 := hout 111 rfl
                      have e112 := hout 112 rfl
                      have e113 := hout 113 rfl
                      have e114 := hout 114 rfl
                      have e115 := hout 115 rfl
                      have e116 := hout 116 rfl
                      have e117 := hout 117 rfl
                      have e118 := hout 118 rfl
                      have e119 := hout 119 rfl
                      have e120 := hout 120 rfl
                      have e121 := hout 121 rfl
                      have e122 := hout 122 rfl
                      have e123 := hout 123 rfl
                      simp only [List.getElem?_toArray, List.getElem?_cons_succ, List.getElem?_cons_zero] at e0 e1 e2 e3 e4 e5 e6 e7 e8 e9 e10 e11 e12 e13 e14 e15 e16 e17 e18 e19 e20 e21 e22 e23 e24 e25 e26 e27 e28 e29 e30 e31 e32 e33 e34 e35 e36 e37 e38 e39 e40 e41 e42 e43 e44 e45 e46 e47 e48 e49 e50 e51 e52 e53 e54 e55 e56 e57 e58 e59 e60 e61 e62 e63 e64 e65 e66 e67 e68 e69 e70 e71 e72 e73 e74 e108 e109 e110 e111 e112 e113 e114 e115 e116 e117 e118 e119 e120 e121 e122 e123
                      obtain ⟨tm, df⟩ := a'
                      simp only at hd hs h104 h106 e0 e1 e2 e3 e4 e5 e6 e7 e8 e9 e10 e11 e12 e13 e14 e15 e16 e17 e18 e19 e20 e21 e22 e23 e24 e25 e26 e27 e28 e29 e30 e31 e32 e33 e34 e35 e36 e37 e38 e39 e40 e41 e42 e43 e44 e45 e46 e47 e48 e49 e50 e51 e52 e53 e54 e55 e56 e57 e58 e59 e60 e61 e62 e63 e64 e65 e66 e67 e68 e69 e70 e71 e72 e73 e74 e108 e109 e110 e111 e112 e113 e114 e115 e116 e117 e118 e119 e120 e121 e122 e123
                      have e := F23c_lit tm hs
                      simp only [h106, e0, e1, e2, e3, e4, e5, e6, e7, e8, e9, e10, e11, e12, e13, e14, e15, e16, e17, e18, e19, e20, e21, e22, e23, e24, e25, e26, e27, e28, e29, e30, e31, e32, e33, e34, e35, e36, e37, e38, e39, e40, e41, e42, e43, e44, e45, e46, e47, e48, e49, e50, e51, e52, e53, e54, e55, e56, e57, e58, e59, e60, e61, e62, e63, e64, e65, e66, e67, e68, e69, e70, e71, e72, e73, e74, e108, e109, e110, e111, e112, e113, e114, e115, e116, e117, e118, e119, e120, e121, e122, e123, Option.getD_some] at e
                      clear hf hout hs
                      rw [e, hd]
                      clear e hd h106 e0 e1 e2 e3 e4 e5 e6 e7 e8 e9 e10 e11 e12 e13 e14 e15 e16 e17 e18 e19 e20 e21 e22 e23 e24 e25 e26 e27 e28 e29 e30 e31 e32 e33 e34 e35 e36 e37 e38 e39 e40 e41 e42 e43 e44 e45 e46 e47 e48 e49 e50 e51 e52 e53 e54 e55 e56 e57 e58 e59 e60 e61 e62 e63 e64 e65 e66 e67 e68 e69 e70 e71 e72 e73 e74 e108 e109 e110 e111 e112 e113 e114 e115 e116 e117 e118 e119 e120 e121 e122 e123
                      generalize tm[104]?.getD undef = u104x at h104 ⊢
                      generalize tm[75]?.getD undef = u75x, tm[76]?.getD undef = u76x, tm[77]?.getD undef = u77x, tm[78]?.getD undef = u78x, tm[79]?.getD undef = u79x, tm[80]?.getD undef = u80x, tm[81]?.getD undef = u81x, tm[82]?.getD undef = u82x, tm[83]?.getD undef = u83x, tm[84]?.getD undef = u84x, tm[85]?.getD undef = u85x, tm[86]?.getD undef = u86x, tm[87]?.getD undef = u87x, tm[88]?.getD undef = u88x, tm[89]?.getD undef = u89x, tm[90]?.getD undef = u90x, tm[91]?.getD undef = u91x, tm[92]?.getD undef = u92x, tm[93]?.getD undef = u93x, tm[94]?.getD undef = u94x, tm[95]?.getD undef = u95x, tm[96]?.getD undef = u96x, tm[97]?.getD undef = u97x, tm[98]?.getD undef = u98x, tm[99]?.getD undef = u99x, tm[100]?.getD undef = u100x, tm[101]?.getD undef = u101x, tm[102]?.getD undef = u102x, tm[103]?.getD undef = u103x, tm[105]?.getD undef = u105x, tm[107]?.getD undef = u107x
                      obtain ⟨A9, c9, l9, rfl, hl9, hv9'⟩ := h104
                      have hrow9 := Lib.hid (hrowX.out.kept hw)
                      have hX9 := Lib.hid (hXX.out.below hw hXX.out.lt)
                      have hZ9 := Lib.hid (hZX.out.below hw hZX.out.lt)
                      have hN9 := Lib.hid (hNX.out.below hw hNX.out.lt)
                      have hb9 : Hid (Below w.heap.size w w9) := hbX.out.trans (hw.mono hbX.out.size)
                      have hE9 : Hid (∀ s ∈ T, SmAt w9 (fun b => ((Q b ∧ b < w.heap.size) ∨ g9 < b) ∧ b ≠ g) s) := fun s hs => (hEX.out s hs).more hw
                      replace hl9 := Lib.hid hl9
                      replace hv9' := Lib.hid hv9'
                      clear hw hcell hcl
                      have c5 : w9.cell? ⟨g, k * 3 + 2, none⟩ = some (Value.slice xA xn xc) := by
                        rw [hrow9.out.cellAt hTn.out.symm (k := k) hkT (j := 2) (by decide), hxe.out]; rfl
                      have z5 : w9.frozen? ⟨g, k * 3 + 2, none⟩ = false := hrow9.out.frozenAt hTn.out.symm _
                      have hrow3 := (hrow9.out.storep hTn.out.symm (k := k) hkT (⟨true, xv, A9, xn, c9, l9⟩ : Sm) 2 [Value.slice A9 xn c9] (by simp) (row_set hkT ⟨true, xv, xA, xn, xc, xl⟩ _ 2 _ (by decide) hxe.out (by
                        intro j hj h1
                        have : j = 0 ∨ j = 1 := by omega
                        rcases this with rfl | rfl <;> rfl) rfl)).1
                      replace hrow3 : Hid (LOwn svC 3 47 (w9.setCell ⟨g, k * 3 + 2, none⟩ (Value.slice A9 xn c9)) w.heap.size (.slice (some ⟨g, 0, none⟩) n cap) (T.set k (⟨true, xv, A9, xn, c9, l9⟩ : Sm))) := hrow3
                      have hg3 : Hid (w9.grownBy (w9.setCell ⟨g, k * 3 + 2, none⟩ (Value.slice A9 xn c9)) (some g)) := only_set (World.grownBy.refl _ _) _ _
                      have hE3 : Hid (∀ s ∈ T.set k (⟨true, xv, A9, xn, c9, l9⟩ : Sm), SmAt (w9.setCell ⟨g, k * 3 + 2, none⟩ (Value.slice A9 xn c9)) (fun b => ((Q b ∧ b < w.heap.size) ∨ g9 < b) ∧ b ≠ g) s) := fun s hs => by
                        rcases List.mem_or_eq_of_mem_set hs with hs | rfl
                        · exact (hE9.out s hs).st hg3.out (fun b hb e => by injection e with e; exact hb.2 e)
                        · show LogAt _ (fun b => ((Q b ∧ b < w.heap.size) ∨ g9 < b) ∧ b ≠ g) _ _ _ _
                          refine LogAt.imp (LogAt.st hl9.out hg3.out (fun b hb e => ?_)) (fun b hb => ?_)
                          · injection e with e; have := hgX.out; omega
                          · have := hgX.out; have := hgg.out; exact ⟨Or.inr (by omega), by omega⟩
                      have hU3 : (T.set k (⟨true, xv, A9, xn, c9, l9⟩ : Sm)).map Sm.val = T.map Sm.val := by
                        rw [List.map_set]
                        refine set_same _ k _ ?_
                        rw [hUx.out]
                        show some (Sv.mk true xv (xl.map Em.val)) = some (Sv.mk true xv (l9.map Em.val))
                        rw [hv9'.out, hlv'.out]
                      have hR3 : Hid (R = (((T.set k (⟨true, xv, A9, xn, c9, l9⟩ : Sm)).map Sm.val).take (k + 1) ++ (updS view nl reach (pj : Int) (((T.set k (⟨true, xv, A9, xn, c9, l9⟩ : Sm)).map Sm.val).drop (k + 1)) (k + 1) (h : Int)).1, (updS view nl reach (pj : Int) (((T.set k (⟨true, xv, A9, xn, c9, l9⟩ : Sm)).map Sm.val).drop (k + 1)) (k + 1) (h : Int)).2)) := by
                        show _ = _
                        rw [hU3]
                        have := upd_step view nl reach (pj : Int) _ k h _ hUx.out R hRk.out (Sm.val ⟨true, xv, xA, xn, xc, xl⟩) (h : Int) (by rw [if_neg (by omega), if_neg hnot.out])
                        rw [set_same _ k _ hUx.out] at this
                        exact this
                      have hTs3 : Hid (∀ u ∈ (T.set k (⟨true, xv, A9, xn, c9, l9⟩ : Sm)).map Sm.val, svSm u) := by rw [hU3]; exact hTs.out
                      have hT3 : Hid (((T.set k (⟨true, xv, A9, xn, c9, l9⟩ : Sm)).map Sm.val)[pj]? = some ⟨pu, pv, nl⟩) := by rw [hU3]; exact hTp.out
                      have hl3 : Hid ((T.set k (⟨true, xv, A9, xn, c9, l9⟩ : Sm)).length = n) := by show _ = _; rw [List.length_set]; exact hTn.out
                      clear hU3
                      go_wp2_with fail
                      go_roundw
                      case rel => exact ⟨k + 1, h, T.set k (⟨true, xv, A9, xn, c9, l9⟩ : Sm), by omega, by omega, by go_num, by go_num, hl3.out, hrow3.out, hE3.out, hTs3.out, hR3.out, hT3.out, hX9.out.grown hg3.out (by intro e; injection e with e; have := hg9w.out; have := hgg.out; omega), hZ9.out.grown hg3.out (by intro e; injection e with e; have := hg9w.out; have := hgg.out; omega), hN9.out.grown hg3.out (by intro e; injection e with e; have := hgg.out; omega), hb9.out.grown hg3.out hb9.out.size (fun g8 e8 => by injection e8 with e8; have := hg9w.out; have := hgg.out; omega)⟩
                      case measure => simp [intOf]; omega
          · obtain rfl : n = k := by omega
            have hRf : Hid (R = (T.map Sm.val, (h : Int))) := by
              show _ = _
              rw [hRk.out, List.take_of_length_le (by rw [List.length_map, hTn.out]; exact Nat.le_refl _), List.drop_eq_nil_of_le (by rw [List.length_map, hTn.out]; exact Nat.le_refl _)]
              rw [show updS view nl reach (pj : Int) [] n (h : Int) = ([], (h : Int)) from rfl, List.append_nil]
            have hFr : Hid (r = if majN n h then (⟨(pj : Int), view, nl.length, T.map Sm.val⟩, (pn : Int), 0) else (⟨-1, view, commit, (T.map Sm.val).set pj ⟨false, pv, nl⟩⟩, 0, 18)) := by
              show _ = _
              rw [hr.out, hFs.out]
              show (if majN n (updS view (pl.map Em.val ++ [(⟨view, d⟩ : En)]) reach (pj : Int) ((sl.map Sm.val).set pj ⟨pu, pv, pl.map Em.val ++ [(⟨view, d⟩ : En)]⟩) 0 1).2.toNat = true then ((⟨(pj : Int), view, ((pl.map Em.val ++ [(⟨view, d⟩ : En)]).length : Int), (updS view (pl.map Em.val ++ [(⟨view, d⟩ : En)]) reach (pj : Int) ((sl.map Sm.val).set pj ⟨pu, pv, pl.map Em.val ++ [(⟨view, d⟩ : En)]⟩) 0 1).1⟩ : Cv), ((pl.map Em.val).length : Int), (0 : Int)) else ((⟨-1, view, commit, (updS view (pl.map Em.val ++ [(⟨view, d⟩ : En)]) reach (pj : Int) ((sl.map Sm.val).set pj ⟨pu, pv, pl.map Em.val ++ [(⟨view, d⟩ : En)]⟩) 0 1).1.set pj ⟨false, pv, pl.map Em.val ++ [(⟨view, d⟩ : En)]⟩⟩ : Cv), (0 : Int), (18 : Int))) = _
              rw [hlv.out, ← hnl.out, ← hU0'.out, ← hR.out, hRf.out, hlvl.out]
              rfl
            clear hRf hRk hFs
            obtain ⟨p', hp'⟩ : ∃ p', T[pj]? = some p' := ⟨_, List.getElem?_eq_getElem (by rw [hTn.out]; exact hpn)⟩
            have hpv' : p'.val = ⟨pu, pv, nl⟩ := by
              have := hTp.out
              rw [List.getElem?_map, hp'] at this
              injection this
            have hpT : pj < T.length := by rw [hTn.out]; exact hpn
            have hpe : Hid (T[pj] = p') := (List.getElem?_eq_some_iff.1 hp').2
            have hqn : Hid (p'.n = nl.length) := by
              show _ = _
              have h1 := (hE.out _ (List.mem_of_getElem? hp')).len
              have h2 := congrArg (fun s : Sv => s.log.length) hpv'
              simp only [Sm.val, List.length_map] at h2
              omega
            have hpo' := Lib.hid hp'
            have hpvH := Lib.hid hpv'
            clear hp' hpv'
            obtain ⟨qu, qv, qA, qn, qc, ql⟩ := p'
            simp only at hqn
            have hmr := Lib.hid (majority_any ⟨(pj : Int), view, commit, some ⟨g, 0, none⟩, n, cap, T⟩ h wr hn7)
            simp only [clV] at hmr
            obtain ⟨q0, q1, q2, q3⟩ := cells4 (wr) (g9) (Value.int .i64 (pj : Int)) (Value.int .i64 view) (Value.int .i64 commit) (Value.slice (some ⟨g, 0, none⟩) n cap) (hN.out)
            go_wp2_with fail
            refine hmr.out.mono ?_; rintro e w5 ⟨rfl, hq⟩
            have hrow := Lib.hid (hrow.out.kept hq)
            have hX := Lib.hid (hX.out.below hq hX.out.lt)
            have hZ := Lib.hid (hZ.out.below hq hZ.out.lt)
            have hN := Lib.hid (hN.out.below hq hN.out.lt)
            have hE : Hid (∀ s ∈ T, SmAt w5 (fun b => ((Q b ∧ b < w.heap.size) ∨ g9 < b) ∧ b ≠ g) s) := fun s hs => (hE.out s hs).more hq
            have hb := Lib.hid (hb.out.trans (hq.mono hb.out.size))
            clear hq hmr q0 q1 q2 q3
            obtain ⟨e0, e2⟩ := (show w5.cell? ⟨g, pj * 3, none⟩ = some (Value.bool qu) ∧ w5.cell? ⟨g, pj * 3 + 2, none⟩ = some (Value.slice qA qn qc) from by
              refine ⟨?_, ?_⟩
              · have := hrow.out.cellAt hTn.out.symm (k := pj) hpT (j := 0) (by decide); rw [hpe.out] at this; exact this
              · have := hrow.out.cellAt hTn.out.symm (k := pj) hpT (j := 2) (by decide); rw [hpe.out] at this; exact this)
            cases hmj2 : majN n h with
            | true =>
              have hF : Hid (r = (⟨(pj : Int), view, nl.length, T.map Sm.val⟩, (pn : Int), 0)) := by show _ = _; rw [hFr.out, hmj2]; rfl
              clear hFr hmj2
              have hgA : Hid (w5.grownBy (w5.setCell ⟨g9, 2, none⟩ (Value.int .i64 (qn : Int))) (some g9)) := only_set (World.grownBy.refl _ _) _ _
              have hNA := Lib.hid (hN.out.set_ 2 (Value.int .i64 (qn : Int)))
              have hZA := Lib.hid (hZ.out.grown hgA.out (by intro e; injection e with e; have := hg9w.out; omega))
              have hbA := Lib.hid (below_set hb.out (show w.heap.size ≤ g9 by have := hg9w.out; omega) 2 (Value.int .i64 (qn : Int)))
              have hrowA := Lib.hid (hrow.out.grownO hgA.out (.inr (by intro e; simp [Value.ownBlock] at e; have := hgg.out; omega)))
              have hEA : Hid (∀ s ∈ T, SmAt (w5.setCell ⟨g9, 2, none⟩ (Value.int .i64 (qn : Int))) (fun b => (Q b ∧ b < w.heap.size) ∨ g9 < b) s) := fun s hs => ((hE.out s hs).st hgA.out (fun b hb e => by injection e with e; have := hb.1; have := hg9w.out; omega)).imp (fun b hb => hb.1)
              obtain ⟨q0, q1, q2, q3, x0, x1, x2, x3⟩ := cells4z (w5) (g9) (Value.int .i64 (pj : Int)) (Value.int .i64 view) (Value.int .i64 commit) (Value.slice (some ⟨g, 0, none⟩) n cap) (hN.out)
              obtain ⟨m0, m1, m2, m3⟩ := cells4 ((w5.setCell ⟨g9, 2, none⟩ (Value.int .i64 (qn : Int)))) (g9) (Value.int .i64 (pj : Int)) (Value.int .i64 view) (Value.int .i64 (qn : Int)) (Value.slice (some ⟨g, 0, none⟩) n cap) (hNA.out)
              obtain ⟨u0, u1, u2, u3, y0, y1, y2, y3⟩ := cells4z ((w5.setCell ⟨g9, 2, none⟩ (Value.int .i64 (qn : Int)))) ((w.heap.size + 1)) (Value.int .i64 0) (Value.int .i64 0) (Value.int .i64 0) (Value.slice none 0 0) (hZA.out)
              go_wp2_with fail
              (try simp only [Exit.inBlock, Exit.then])
              have hBF := cl_set4 hZA.out (Value.int .i64 (pj : Int)) (Value.int .i64 view) (Value.int .i64 (qn : Int)) (Value.slice (some ⟨g, 0, none⟩) n cap)
              have hbF := below_set4 hbA.out (Nat.le_succ _) (Value.int .i64 (pj : Int)) (Value.int .i64 view) (Value.int .i64 (qn : Int)) (Value.slice (some ⟨g, 0, none⟩) n cap)
              have hgF := grown_set4 ((w5.setCell ⟨g9, 2, none⟩ (Value.int .i64 (qn : Int)))) (w.heap.size + 1) (Value.int .i64 (pj : Int)) (Value.int .i64 view) (Value.int .i64 (qn : Int)) (Value.slice (some ⟨g, 0, none⟩) n cap)
              refine bodyPost_ret (v := .tuple #[.agg #[Value.int .i64 (pj : Int), Value.int .i64 view, Value.int .i64 (qn : Int), Value.slice (some ⟨g, 0, none⟩) n cap], .int .i64 (pn : Int), .int .i64 0]) ?_ rfl ?_
              · refine (res3 (fn := Try.f23) (p := 6) (u := 7) (v := 8) (ty := 24) rfl _ _ (w.heap.size + 1) 24 _ (0, 0) _ ?_ hBF Try.underlying24 rfl (by kernel_rfl)).trans ?_
                · rfl
                · rfl
              clear hBF
              generalize (((((w5.setCell ⟨g9, 2, none⟩ (Value.int .i64 (qn : Int))).setCell ⟨(w.heap.size + 1), 0, none⟩ (Value.int .i64 (pj : Int))).setCell ⟨(w.heap.size + 1), 1, none⟩ (Value.int .i64 view)).setCell ⟨(w.heap.size + 1), 2, none⟩ (Value.int .i64 (qn : Int))).setCell ⟨(w.heap.size + 1), 3, none⟩ (Value.slice (some ⟨g, 0, none⟩) n cap)) = wF at *
              have hC := CmAt.of_own (p := (pj : Int)) (v := view) (m := (qn : Int)) (Q := (fun b => (Q b ∧ b < w.heap.size) ∨ g9 < b)) (hrowA.out.grownO hgF (.inr (by intro e; simp [Value.ownBlock] at e; have := hgg.out; have := hg9w.out; omega))) hTn.out (fun s hs => (hEA.out s hs).st hgF (fun b hb e => by injection e with e; have := hg9w.out; omega)) (Or.inr hgg.out)
              refine ⟨⟨_, by rw [hF.out]; rfl, hC.imp (fun b hb => hb.elim (fun h => Or.inl h.1) (fun h => Or.inr (by have := hg9w.out; omega))), ?_⟩, hbF⟩
              rw [hF.out]
              show Cv.mk _ _ _ _ = Cv.mk _ _ _ _
              rw [hqn.out]
            | false =>
              have hF : Hid (r = (⟨-1, view, commit, (T.map Sm.val).set pj ⟨false, pv, nl⟩⟩, 0, 18)) := by show _ = _; rw [hFr.out, hmj2]; rfl
              clear hFr hmj2
              have hrowA := (hrow.out.storep hTn.out.symm (k := pj) hpT (⟨false, qv, qA, qn, qc, ql⟩ : Sm) 0 [Value.bool false] (by simp) (row_set hpT ⟨qu, qv, qA, qn, qc, ql⟩ _ 0 _ (by decide) hpe.out (by
                intro j hj h1
                have : j = 1 ∨ j = 2 := by omega
                rcases this with rfl | rfl <;> rfl) rfl)).1
              replace hrowA : Hid (LOwn svC 3 47 (w5.setCell ⟨g, pj * 3, none⟩ (Value.bool false)) w.heap.size (.slice (some ⟨g, 0, none⟩) n cap) (T.set pj (⟨false, qv, qA, qn, qc, ql⟩ : Sm))) := hrowA
              have z0 : w5.frozen? ⟨g, pj * 3, none⟩ = false := hrow.out.frozenAt hTn.out.symm _
              have hgA : Hid (w5.grownBy (w5.setCell ⟨g, pj * 3, none⟩ (Value.bool false)) (some g)) := only_set (World.grownBy.refl _ _) _ _
              have hgB : Hid ((w5.setCell ⟨g, pj * 3, none⟩ (Value.bool false)).grownBy ((w5.setCell ⟨g, pj * 3, none⟩ (Value.bool false)).setCell ⟨g9, 0, none⟩ (Value.int .i64 (-1))) (some g9)) := only_set (World.grownBy.refl _ _) _ _
              have hNA := Lib.hid (hN.out.grown hgA.out (by intro e; injection e with e; have := hgg.out; omega))
              have hNB := Lib.hid (hNA.out.set_ 0 (Value.int .i64 (-1)))
              have hZA := Lib.hid ((hZ.out.grown hgA.out (by intro e; injection e with e; have := hg9w.out; have := hgg.out; omega)).grown hgB.out (by intro e; injection e with e; have := hg9w.out; omega))
              have hbA := Lib.hid (below_set (hb.out.grown hgA.out hb.out.size (fun g8 e8 => by injection e8 with e8; have := hg9w.out; have := hgg.out; omega)) (show w.heap.size ≤ g9 by have := hg9w.out; omega) 0 (Value.int .i64 (-1)))
              have hrowB := Lib.hid (hrowA.out.grownO hgB.out (.inr (by intro e; simp [Value.ownBlock] at e; have := hgg.out; omega)))
              have hEA : Hid (∀ s ∈ T.set pj (⟨false, qv, qA, qn, qc, ql⟩ : Sm), SmAt ((w5.setCell ⟨g, pj * 3, none⟩ (Value.bool false)).setCell ⟨g9, 0, none⟩ (Value.int .i64 (-1))) (fun b => (Q b ∧ b < w.heap.size) ∨ g9 < b) s) := fun s hs => by
                have h8 : ∀ t ∈ T, SmAt ((w5.setCell ⟨g, pj * 3, none⟩ (Value.bool false)).setCell ⟨g9, 0, none⟩ (Value.int .i64 (-1))) (fun b => (Q b ∧ b < w.heap.size) ∨ g9 < b) t := fun t ht => (((hE.out t ht).st hgA.out (fun b hb e => by injection e with e; exact hb.2 e)).st hgB.out (fun b hb e => by injection e with e; have := hb.1; have := hg9w.out; omega)).imp (fun b hb => hb.1)
                rcases List.mem_or_eq_of_mem_set hs with hs | rfl
                · exact h8 s hs
                · exact h8 ⟨qu, qv, qA, qn, qc, ql⟩ (List.mem_of_getElem? hpo'.out)
              obtain ⟨q0, q1, q2, q3, x0, x1, x2, x3⟩ := cells4z ((w5.setCell ⟨g, pj * 3, none⟩ (Value.bool false))) (g9) (Value.int .i64 (pj : Int)) (Value.int .i64 view) (Value.int .i64 commit) (Value.slice (some ⟨g, 0, none⟩) n cap) (hNA.out)
              obtain ⟨m0, m1, m2, m3⟩ := cells4 (((w5.setCell ⟨g, pj * 3, none⟩ (Value.bool false)).setCell ⟨g9, 0, none⟩ (Value.int .i64 (-1)))) (g9) (Value.int .i64 (-1)) (Value.int .i64 view) (Value.int .i64 commit) (Value.slice (some ⟨g, 0, none⟩) n cap) (hNB.out)
              obtain ⟨u0, u1, u2, u3, y0, y1, y2, y3⟩ := cells4z (((w5.setCell ⟨g, pj * 3, none⟩ (Value.bool false)).setCell ⟨g9, 0, none⟩ (Value.int .i64 (-1)))) ((w.heap.size + 1)) (Value.int .i64 0) (Value.int .i64 0) (Value.int .i64 0) (Value.slice none 0 0) (hZA.out)
              go_wp2_with fail
              (try simp only [Exit.inBlock, Exit.then])
              have hBF := cl_set4 hZA.out (Value.int .i64 (-1)) (Value.int .i64 view) (Value.int .i64 commit) (Value.slice (some ⟨g, 0, none⟩) n cap)
              have hbF := below_set4 hbA.out (Nat.le_succ _) (Value.int .i64 (-1)) (Value.int .i64 view) (Value.int .i64 commit) (Value.slice (some ⟨g, 0, none⟩) n cap)
              have hgF := grown_set4 (((w5.setCell ⟨g, pj * 3, none⟩ (Value.bool false)).setCell ⟨g9, 0, none⟩ (Value.int .i64 (-1)))) (w.heap.size + 1) (Value.int .i64 (-1)) (Value.int .i64 view) (Value.int .i64 commit) (Value.slice (some ⟨g, 0, none⟩) n cap)
              refine bodyPost_ret (v := .tuple #[.agg #[Value.int .i64 (-1), Value.int .i64 view, Value.int .i64 commit, Value.slice (some ⟨g, 0, none⟩) n cap], .int .i64 0, .int .i64 18]) ?_ rfl ?_
              · refine (res3 (fn := Try.f23) (p := 6) (u := 7) (v := 8) (ty := 24) rfl _ _ (w.heap.size + 1) 24 _ (0, 0) _ ?_ hBF Try.underlying24 rfl (by kernel_rfl)).trans ?_
                · rfl
                · rfl
              clear hBF
              generalize ((((((w5.setCell ⟨g, pj * 3, none⟩ (Value.bool false)).setCell ⟨g9, 0, none⟩ (Value.int .i64 (-1))).setCell ⟨(w.heap.size + 1), 0, none⟩ (Value.int .i64 (-1))).setCell ⟨(w.heap.size + 1), 1, none⟩ (Value.int .i64 view)).setCell ⟨(w.heap.size + 1), 2, none⟩ (Value.int .i64 commit)).setCell ⟨(w.heap.size + 1), 3, none⟩ (Value.slice (some ⟨g, 0, none⟩) n cap)) = wF at *
              have hC := CmAt.of_own (p := -1) (v := view) (m := commit) (Q := (fun b => (Q b ∧ b < w.heap.size) ∨ g9 < b)) (hrowB.out.grownO hgF (.inr (by intro e; simp [Value.ownBlock] at e; have := hgg.out; have := hg9w.out; omega))) (by rw [List.length_set]; exact hTn.out) (fun s hs => (hEA.out s hs).st hgF (fun b hb e => by injection e with e; have := hg9w.out; omega)) (Or.inr hgg.out)
              refine ⟨⟨_, by rw [hF.out]; rfl, hC.imp (fun b hb => hb.elim (fun h => Or.inl h.1) (fun h => Or.inr (by have := hg9w.out; omega))), ?_⟩, hbF⟩
              rw [hF.out]
              show Cv.mk (-1) view commit ((T.set pj (⟨false, qv, qA, qn, qc, ql⟩ : Sm)).map Sm.val) = Cv.mk _ _ _ _
              rw [List.map_set]
              show Cv.mk (-1) view commit ((T.map Sm.val).set pj (Sv.mk false qv (ql.map Em.val))) = _
              have e1 : qv = pv := congrArg Sv.view hpvH.out
              have e2 : ql.map Em.val = nl := congrArg Sv.log hpvH.out
              rw [e1, e2]
end Go.Proofs.Ytiapeenfggjpnaa
