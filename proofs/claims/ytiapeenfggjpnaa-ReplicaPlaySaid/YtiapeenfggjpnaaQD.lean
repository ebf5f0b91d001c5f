/- Replicated servers: the reference's Committed and want, walked. -/
import Derived.Test.YtiapeenfggjpnaaQC
import Derived.Test.YtiapeenfggjpnaaPS
import Derived.Test.YtiapeenfggjpnaaPN
set_option linter.unusedVariables false
set_option linter.unusedSimpArgs false
namespace Go.Proofs.Ytiapeenfggjpnaa
open Go.RowKit
def F18 (gx n c bj yn yc : Nat) (ad : Addr) (yA : Option Addr) (Xv : Array Value) : Tmp → Value → World → Prop
  | 1, v, _ => v = .pointer (some ⟨gx, 0, none⟩)
  | 6, v, _ => v = .pointer (some ⟨gx, 3, none⟩)
  | 7, v, _ => v = .slice (some ad) n c
  | 8, v, _ => v = .agg Xv
  | 9, v, _ => v = .int .i64 (bj : Int)
  | 10, v, _ => v = .pointer (some (ad.add (bj * 3)))
  | 11, v, _ => v = .pointer (some ⟨(ad.add (bj * 3)).block, (ad.add (bj * 3)).off + 2, none⟩)
  | 12, v, _ => v = .slice yA yn yc
  | _, _, _ => True
theorem F18_more {gx n c bj yn yc : Nat} {ad : Addr} {yA : Option Addr} {Xv : Array Value} (d t : Tmp) (v : Value) (w w' : World) (hR : Rb w w') (hne : t ≠ d) (hc : ([] : List (Tmp × Tmp)).contains (d, t) = false) (h : F18 gx n c bj yn yc ad yA Xv t v w) : F18 gx n c bj yn yc ad yA Xv t v w' := by
  unfold F18 at *
  split at h <;> first | exact h
theorem F18_lit (tm : Array Value) (hs : tm.size = 28) : tm = #[tm[0]?.getD undef, tm[1]?.getD undef, tm[2]?.getD undef, tm[3]?.getD undef, tm[4]?.getD undef, tm[5]?.getD undef, tm[6]?.getD undef, tm[7]?.getD undef, tm[8]?.getD undef, tm[9]?.getD undef, tm[10]?.getD undef, tm[11]?.getD undef, tm[12]?.getD undef, tm[13]?.getD undef, tm[14]?.getD undef, tm[15]?.getD undef, tm[16]?.getD undef, tm[17]?.getD undef, tm[18]?.getD undef, tm[19]?.getD undef, tm[20]?.getD undef, tm[21]?.getD undef, tm[22]?.getD undef, tm[23]?.getD undef, tm[24]?.getD undef, tm[25]?.getD undef, tm[26]?.getD undef, tm[27]?.getD undef] := lit_arr tm 28 hs
/-- the committed data, where they lie -/
def RCom (w' : World) (ds : List (List UInt8)) (e : Ending) : Prop := ∃ (A : Option Addr) (n c : Nat) (C : List Bs), e = .returned (.slice A n c) ∧ LAt sC 1 w' w'.heap.size A n C ∧ (∀ b ∈ C, BsAt w' b) ∧ C.map (·.d) = ds
set_option maxRecDepth 100000 in
set_option maxHeartbeats 8000000 in
theorem rcommitted_any (k : Cm) (m : Nat) (w : World) {Q : Nat → Prop} (h : CmAt w Q k) (hn1 : 1 ≤ k.n) (hn7 : k.n ≤ 7) (hsm : ∀ s ∈ k.servers, s.n ≤ 5000) (hm : k.commit = (m : Int)) (hmb : m ≤ (bestLog k.val).length) :
    Calls Try.prog 18 #[clV k] w fun e w' => RCom w' (committedC k.val) e ∧ Below w.heap.size w w' := by
  have hl : Hid (k.servers.length = k.n) := h.len
  have hcm := Lib.hid h
  have hfa0 := fun wz (hz : Below w.heap.size w wz) => firstA_any k wz (h.more hz) (Nat.le_trans hn7 (by decide))
  obtain ⟨primary, view, commit, A, n, c, sl⟩ := k
  simp only [clV] at *
  obtain rfl : commit = (m : Int) := hm
  obtain ⟨bj, y, hbl, hbj, hbn, hby, hyl⟩ := best_at (n := n) (sl := sl) hl.out (fun s hs => (hcm.out.els s hs).len) hn1
  obtain ⟨r, hr⟩ : ∃ r, r = committedC (Cm.val ⟨primary, view, (m : Int), A, n, c, sl⟩) := ⟨_, rfl⟩
  rw [← hr]
  have hF : Hid (r = (y.log.take m).map (·.d)) := by
    show _ = _
    rw [hr]
    unfold committedC
    show ((bestLog ⟨primary, view, (m : Int), sl.map Sm.val⟩).take m).map _ = _
    rw [hbl, ← List.map_take, List.map_map]
    rfl
  have hmy : m ≤ y.n := by
    have : (bestLog (Cm.val ⟨primary, view, (m : Int), A, n, c, sl⟩)).length = y.n := by
      show (bestLog ⟨primary, view, (m : Int), sl.map Sm.val⟩).length = _
      rw [hbl, List.length_map]; exact hyl
    omega
  have hys := Lib.hid (hcm.out.els y (List.mem_of_getElem? hby))
  have hym := Lib.hid (hsm y (List.mem_of_getElem? hby))
  obtain ⟨hbjl, hyy⟩ := List.getElem?_eq_some_iff.1 hby
  obtain ⟨ad, hA, -, -, -, -⟩ := sv_cells h.at_ hbn
  (try simp only at hA)
  subst hA
  have hyc : Hid (∀ wz, Below w.heap.size w wz → wz.cell? ⟨(ad.add (bj * 3)).block, (ad.add (bj * 3)).off + 2, none⟩ = some (Value.slice y.A y.n y.c)) := fun wz hz => by
    obtain ⟨ad', hA', -, -, -, q⟩ := sv_cells (hcm.out.at_.below hz (Nat.le_refl _)) hbn
    (try simp only at hA')
    injection hA' with hA'
    subst hA'
    rw [hyy] at q
    exact q
  rw [hbj] at hfa0
  simp only [idxO] at hfa0
  have hj0 : (0 : Int) ≤ (bj : Int) := by omega
  have hj1 : (bj : Int) < n := by omega
  clear h hr hbl hbj hby hyy hbjl hsm
  obtain ⟨yu, yv, yA, yn, yc, yl⟩ := y
  (try simp only at hyl hF hmy hyc hym)
  replace hyl := Lib.hid hyl
  replace hys : Hid (LogAt w Q yA yn yc yl) := hys
  obtain ⟨i25, hi25, hz250, hz251, hz252⟩ := info_parts bs_info
  replace hi25 := Lib.hid hi25
  replace hz250 := Lib.hid hz250
  replace hz251 := Lib.hid hz251
  replace hz252 := Lib.hid hz252
  have hx0 := Lib.hid (Blk.new w 24 #[Value.int .i64 primary, Value.int .i64 view, Value.int .i64 (m : Int), Value.slice (some ad) n c])
  have hb0 : Hid (Below w.heap.size w (w.alloc (.cells #[Value.int .i64 primary, Value.int .i64 view, Value.int .i64 (m : Int), Value.slice (some ad) n c] 24))) := a1 w _
  have hfa : Hid (∀ wz, Below (w.alloc (.cells #[Value.int .i64 primary, Value.int .i64 view, Value.int .i64 (m : Int), Value.slice (some ad) n c] 24)).heap.size (w.alloc (.cells #[Value.int .i64 primary, Value.int .i64 view, Value.int .i64 (m : Int), Value.slice (some ad) n c] 24)) wz → Calls Try.prog 30 #[.agg #[Value.int .i64 primary, Value.int .i64 view, Value.int .i64 (m : Int), Value.slice (some ad) n c], .bool false] wz fun e w' => e = .returned (.int .i64 (bj : Int)) ∧ Below wz.heap.size wz w') := fun wz hz => hfa0 wz (hb0.out.trans (hz.mono hb0.out.size))
  have hcell : Hid (∀ wz, Below (w.alloc (.cells #[Value.int .i64 primary, Value.int .i64 view, Value.int .i64 (m : Int), Value.slice (some ad) n c] 24)).heap.size (w.alloc (.cells #[Value.int .i64 primary, Value.int .i64 view, Value.int .i64 (m : Int), Value.slice (some ad) n c] 24)) wz → wz.cell? ⟨w.heap.size, 0, none⟩ = some (Value.int .i64 primary) ∧ wz.cell? ⟨w.heap.size, 1, none⟩ = some (Value.int .i64 view) ∧ wz.cell? ⟨w.heap.size, 2, none⟩ = some (Value.int .i64 (m : Int)) ∧ wz.cell? ⟨w.heap.size, 3, none⟩ = some (Value.slice (some ad) n c)) := fun wz hz => by
    have q := hx0.out.below hz hx0.out.lt
    exact ⟨q.cell 0, q.cell 1, q.cell 2, q.cell 3⟩
  clear hfa0
  go_enter Try.func18, Try.ntmps18
  go_wp2_with fail
  refine RU.region [] [] 7 (F := F18 w.heap.size n c bj yn yc ad yA #[Value.int .i64 primary, Value.int .i64 view, Value.int .i64 (m : Int), Value.slice (some ad) n c]) (W := fun wz => Below (w.alloc (.cells #[Value.int .i64 primary, Value.int .i64 view, Value.int .i64 (m : Int), Value.slice (some ad) n c] 24)).heap.size (w.alloc (.cells #[Value.int .i64 primary, Value.int .i64 view, Value.int .i64 (m : Int), Value.slice (some ad) n c] 24)) wz) (R := fun _ => Rb) rfl F18_more (by kernel_rfl) (by kernel_rfl) (by kernel_rfl) (by kernel_rfl) (by kernel_rfl) (by kernel_rfl) ?_ ?_ ?_ ?_
  · exact (Below.refl _ _).drew
  · intro t ht
    unfold F18
    split <;> first | trivial | exact rfl | (exact absurd ht (by decide))
  · intro i o hi ho
    have hcs : i = 0 ∨ i = 1 ∨ i = 2 ∨ i = 3 ∨ i = 4 ∨ i = 5 ∨ i = 6 := by omega
    rcases hcs with rfl | rfl | rfl | rfl | rfl | rfl | rfl <;> (injection ho with ho; subst ho)
    · intro a w2 hw _ hf K hK
      have f0 := hf 1 rfl
      simp only [F18] at f0
      clear hf
      go_simp
      exact hK _ _ _ rfl rfl hw (Below.refl _ _) (fun h => absurd h (by decide))
    · intro a w2 hw _ hf K hK
      have f0 := hf 6 rfl
      simp only [F18] at f0
      clear hf
      obtain ⟨k0, k1, k2, k3⟩ := hcell.out w2 hw
      go_simp
      exact hK _ _ _ rfl rfl hw (Below.refl _ _) (fun h => absurd h (by decide))
    · intro a w2 hw _ hf K hK
      have f0 := hf 1 rfl
      simp only [F18] at f0
      clear hf
      obtain ⟨k0, k1, k2, k3⟩ := hcell.out w2 hw
      go_simp
      exact hK _ _ _ rfl rfl hw (Below.refl _ _) (fun h => absurd h (by decide))
    · intro a w2 hw _ hf K hK
      have f0 := hf 8 rfl
      simp only [F18] at f0
      clear hf
      go_simp
      refine (hfa.out w2 hw).mono ?_; rintro e w5 ⟨rfl, hbq⟩
      exact hK _ _ _ rfl rfl (hw.trans (hbq.mono hw.size)) hbq (fun h => absurd h (by decide))
    · intro a w2 hw _ hf K hK
      have f0 := hf 7 rfl
      have f1 := hf 9 rfl
      simp only [F18] at f0 f1
      clear hf
      go_simp
      exact hK _ _ _ rfl rfl hw (Below.refl _ _) (fun h => absurd h (by decide))
    · intro a w2 hw _ hf K hK
      have f0 := hf 10 rfl
      simp only [F18] at f0
      clear hf
      go_simp
      exact hK _ _ _ rfl rfl hw (Below.refl _ _) (fun h => absurd h (by decide))
    · intro a w2 hw _ hf K hK
      have f0 := hf 11 rfl
      simp only [F18] at f0
      clear hf
      have e2 := hyc.out w2 (hb0.out.trans (hw.mono hb0.out.size))
      go_simp
      exact hK _ _ _ rfl rfl hw (Below.refl _ _) (fun h => absurd h (by decide))
  · intro a' w9 hd hs hw hout hf
    have h12 := hf 6 12 (by decide) rfl rfl
    simp only [F18] at h12
    have e0 := hout 0 rfl
    have e1 := hout 1 rfl
    have e2 := hout 2 rfl
    have e3 := hout 3 rfl
    have e5 := hout 5 rfl
    have e13 := hout 13 rfl
    have e14 := hout 14 rfl
    have e15 := hout 15 rfl
    have e16 := hout 16 rfl
    have e17 := hout 17 rfl
    have e18 := hout 18 rfl
    have e19 := hout 19 rfl
    have e20 := hout 20 rfl
    have e21 := hout 21 rfl
    have e22 := hout 22 rfl
    have e23 := hout 23 rfl
    have e24 := hout 24 rfl
    have e25 := hout 25 rfl
    have e26 := hout 26 rfl
    have e27 := hout 27 rfl
    simp only [List.getElem?_toArray, List.getElem?_cons_succ, List.getElem?_cons_zero] at e0 e1 e2 e3 e5 e13 e14 e15 e16 e17 e18 e19 e20 e21 e22 e23 e24 e25 e26 e27
    obtain ⟨tm, df⟩ := a'
    simp only at hd hs h12 e0 e1 e2 e3 e5 e13 e14 e15 e16 e17 e18 e19 e20 e21 e22 e23 e24 e25 e26 e27
    have e := F18_lit tm hs
    simp only [h12, e0, e1, e2, e3, e5, e13, e14, e15, e16, e17, e18, e19, e20, e21, e22, e23, e24, e25, e26, e27, Option.getD_some] at e
    clear hf hout hs
    rw [e, hd]
    clear e hd h12 e0 e1 e2 e3 e5 e13 e14 e15 e16 e17 e18 e19 e20 e21 e22 e23 e24 e25 e26 e27
    generalize tm[4]?.getD undef = u4x, tm[6]?.getD undef = u6x, tm[7]?.getD undef = u7x, tm[8]?.getD undef = u8x, tm[9]?.getD undef = u9x, tm[10]?.getD undef = u10x, tm[11]?.getD undef = u11x
    have hX := Lib.hid (hx0.out.below hw hx0.out.lt)
    have hb := Lib.hid (hb0.out.trans (hw.mono hb0.out.size))
    clear hw hcell hfa hyc hx0 hb0
    go_wp2_with fail
    go_loopw [5, 3] (fun i v wr => ∃ (k : Nat) (ov : Value), k ≤ m ∧ i = .int .i64 k ∧ ov = v ∧ Hid (LOwn sC 1 25 wr w.heap.size ov ((yl.take k).map emB)) ∧ Hid (Blk wr w.heap.size 24 #[Value.int .i64 primary, Value.int .i64 view, Value.int .i64 (m : Int), Value.slice (some ad) n c]) ∧ Hid (Below w.heap.size w wr)) (fun i _ _ => m - (intOf i).toNat)
    case atStart => exact ⟨0, _, Nat.zero_le _, rfl, rfl, LOwn.nil sC_len _ _, hX.out, hb.out⟩
    clear hX hb
    case round =>
      obtain ⟨k, ov, hkn, rfl, rfl, hR, hX, hb⟩ := hrel
      have hkl0 : ((yl.take k).map emB).length = k := by rw [List.length_map, List.length_take]; have := hyl.out; omega
      obtain ⟨A9, c9, hv9, -, -, -, hat9⟩ := hR.out.form
      rw [hkl0] at hv9 hat9
      replace hat9 := Lib.hid hat9
      subst hv9
      obtain ⟨k0, k1, k2, k3⟩ := cells4 (wr) (w.heap.size) (Value.int .i64 primary) (Value.int .i64 view) (Value.int .i64 (m : Int)) (Value.slice (some ad) n c) (hX.out)
      by_cases hlt : k < m
      · have hkl : k < yl.length := by have := hyl.out; omega
        have hky : (k : Int) < yn := by omega
        have hk0 : (0 : Int) ≤ k := by omega
        have hk1 : (k : Int) < m := by omega
        have hst : Hid ((yl.take (k + 1)).map emB = (yl.take k).map emB ++ [emB (yl[k])]) := by show _ = _; rw [List.take_succ_eq_append_getElem hkl, List.map_append]; rfl
        obtain ⟨ae, hAe, -, -, e1⟩ := en_cells (hys.out.at_.below hb.out (Nat.le_refl _)) (show k < yn by omega)
        (try simp only at hAe)
        subst hAe
        generalize yl[k] = x at *
        obtain ⟨xv, xA, xn, xc, xd⟩ := x
        (try simp only at e1)
        have hRX := Lib.hid (hR.out.alloc (.cells #[Value.slice xA xn xc] 25))
        have hXX := Lib.hid (hX.out.alloc (.cells #[Value.slice xA xn xc] 25))
        have hbX : Hid (Below w.heap.size w (wr.alloc (.cells #[Value.slice xA xn xc] 25))) := hb.out.alloc hb.out.size _
        have hrd : Hid (Reads (wr.alloc (.cells #[Value.slice xA xn xc] 25)) (wr.alloc (.cells #[Value.slice xA xn xc] 25)).heap.size 1 (some ⟨wr.heap.size, 0, none⟩) 1 (flat sC [emB ⟨xv, xA, xn, xc, xd⟩])) := (lat_blk sC_len (Blk.new wr 25 #[Value.slice xA xn xc]) [emB ⟨xv, xA, xn, xc, xd⟩] 1 rfl (by simp [flat, sC, emB])).2
        have hown : Hid ((wr.alloc (.cells #[Value.slice xA xn xc] 25)).ownsRow w.heap.size 25 1 (.slice A9 k c9) k (flat sC ((yl.take k).map emB))) := by
          have := hRX.out.2
          rw [hkl0] at this
          exact this
        have hb5 : k ≤ 5000 := by have := hym.out; omega
        clear hR hX hRX
        go_wp2_with (at_builtin; refine wpList_append_any _ rfl (.tmp 19) (.tmp 25) _ rfl w.heap.size 25 i25 _ 1 24 Try.underlying36 hi25.out hz250.out hz251.out hz252.out rfl (by omega) (.slice A9 k c9) k (flat sC ((yl.take k).map emB)) rfl hown.out (wr.alloc (.cells #[Value.slice xA xn xc] 25)).heap.size (some ⟨wr.heap.size, 0, none⟩) 1 1 (flat sC [emB ⟨xv, xA, xn, xc, xd⟩]) rfl hrd.out (sC_one _) (by simp only [maxLen]; omega) (by omega) hbX.out.size ?_
                     intro v' w1 hown1 hg1 hat1
                     have hR1 : Hid (LOwn sC 1 25 w1 w.heap.size v' ((yl.take (k + 1)).map emB)) := by
                       rw [hst.out]
                       refine ⟨sC_len, ?_⟩
                       rw [List.length_append, hkl0, flat_append]
                       exact hown1
                     have hX1 : Hid (Blk w1 w.heap.size 24 #[Value.int .i64 primary, Value.int .i64 view, Value.int .i64 (m : Int), Value.slice (some ad) n c]) := hXX.out.grown hg1 (fun e => own_blk_ne hown.out hXX.out (by decide) e.symm)
                     have hb1 : Hid (Below w.heap.size w w1) := hbX.out.grown hg1 hbX.out.size (fun g8 e8 => (World.ownsRow.lt hown.out _ e8).1)
                     clear hown1 hg1)
        go_roundw
        case rel => exact ⟨k + 1, _, by omega, by go_num, rfl, hR1.out, hX1.out, hb1.out⟩
        case measure => simp [intOf]; omega
      · obtain rfl : k = m := by omega
        have hdL : Hid (((yl.take k).map emB).map (·.d) = r) := by
          show _ = _
          rw [hF.out, List.map_map]
          rfl
        go_wp2_with fail
        go_ret
        refine ⟨⟨_, _, _, (yl.take k).map emB, rfl, hat9.out, fun b hbm => ?_, hdL.out⟩, hb.out⟩
        obtain ⟨e, he, rfl⟩ := List.mem_map.1 hbm
        exact (BsQ.of_em ((hys.out.els e (List.mem_of_mem_take he)).more hb.out)).bs
set_option maxRecDepth 100000 in
set_option maxHeartbeats 8000000 in
theorem want_any (k : Cm) (x : Ox) (w : World) {Q : Nat → Prop} (h : CmAt w Q k) (hs : CmSm2 k) (hx : OxAt w x) (hp1 : k.primary < k.n) (hv : 1 ≤ k.view ∧ k.view ≤ 2147483647) (hpu : ∀ p, primOf k.val = some p → p.up = true) :
    Calls Try.prog 14 #[clV k, .agg #[Value.int .i64 x.kind, Value.int .i64 x.num, Value.slice x.A x.n x.c]] w fun e w' => ResS Q w w' (callC k.val x.val) e ∧ Below w.heap.size w w' := by
  obtain ⟨primary, view, commit, A, n, c, sl⟩ := k
  obtain ⟨kind, num, oA, on, oc, od⟩ := x
  obtain rfl : od.length = on := hx.1.1.len
  have hs2 := Lib.hid hs
  have hs1 := Lib.hid (sm2_sm hs)
  replace hv := Lib.hid hv
  replace hp1 := Lib.hid hp1
  replace hpu := Lib.hid hpu
  clear hs
  simp only [clV, Ox.val] at *
  obtain ⟨r, hr⟩ : ∃ r, r = callC (Cm.val (⟨primary, view, commit, A, n, c, sl⟩ : Cm)) (⟨kind, num, od⟩ : Oc) := ⟨_, rfl⟩
  rw [← hr]
  replace hr := Lib.hid hr
  have hb1 : Hid (Below w.heap.size w (((w.alloc (.cells #[Value.int .i64 primary, Value.int .i64 view, Value.int .i64 commit, Value.slice A n c] 24)).alloc (.cells #[Value.int .i64 kind, Value.int .i64 num, Value.slice oA od.length oc] 27)).alloc (.cells #[Value.int .i64 0, Value.int .i64 0, Value.int .i64 0, Value.slice none 0 0] 24))) := ((a1 w _).alloc (by simp) _).alloc (by simp; omega) _
  have hh := Lib.hid (h.lt.more hb1.out)
  have hda : Hid (BAt (((w.alloc (.cells #[Value.int .i64 primary, Value.int .i64 view, Value.int .i64 commit, Value.slice A n c] 24)).alloc (.cells #[Value.int .i64 kind, Value.int .i64 num, Value.slice oA od.length oc] 27)).alloc (.cells #[Value.int .i64 0, Value.int .i64 0, Value.int .i64 0, Value.slice none 0 0] 24)) (((w.alloc (.cells #[Value.int .i64 primary, Value.int .i64 view, Value.int .i64 commit, Value.slice A n c] 24)).alloc (.cells #[Value.int .i64 kind, Value.int .i64 num, Value.slice oA od.length oc] 27)).alloc (.cells #[Value.int .i64 0, Value.int .i64 0, Value.int .i64 0, Value.slice none 0 0] 24)).heap.size oA od.length od) := hx.1.1.more hb1.out
  have hin := Lib.hid h
  clear h hx
  have hX1 := Lib.hid (((Blk.new w 24 #[Value.int .i64 primary, Value.int .i64 view, Value.int .i64 commit, Value.slice A n c]).alloc (.cells #[Value.int .i64 kind, Value.int .i64 num, Value.slice oA od.length oc] 27)).alloc (.cells #[Value.int .i64 0, Value.int .i64 0, Value.int .i64 0, Value.slice none 0 0] 24))
  have hO1 := Lib.hid ((Blk.new (w.alloc (.cells #[Value.int .i64 primary, Value.int .i64 view, Value.int .i64 commit, Value.slice A n c] 24)) 27 #[Value.int .i64 kind, Value.int .i64 num, Value.slice oA od.length oc]).alloc (.cells #[Value.int .i64 0, Value.int .i64 0, Value.int .i64 0, Value.slice none 0 0] 24))
  have hZ1 := Lib.hid (Blk.new ((w.alloc (.cells #[Value.int .i64 primary, Value.int .i64 view, Value.int .i64 commit, Value.slice A n c] 24)).alloc (.cells #[Value.int .i64 kind, Value.int .i64 num, Value.slice oA od.length oc] 27)) 24 #[Value.int .i64 0, Value.int .i64 0, Value.int .i64 0, Value.slice none 0 0])
  rw [show (w.alloc (.cells #[Value.int .i64 primary, Value.int .i64 view, Value.int .i64 commit, Value.slice A n c] 24)).heap.size = w.heap.size + 1 by simp] at hO1
  rw [show ((w.alloc (.cells #[Value.int .i64 primary, Value.int .i64 view, Value.int .i64 commit, Value.slice A n c] 24)).alloc (.cells #[Value.int .i64 kind, Value.int .i64 num, Value.slice oA od.length oc] 27)).heap.size = w.heap.size + 1 + 1 by simp] at hZ1
  obtain ⟨k0, k1, k2, k3⟩ := cells4 ((((w.alloc (.cells #[Value.int .i64 primary, Value.int .i64 view, Value.int .i64 commit, Value.slice A n c] 24)).alloc (.cells #[Value.int .i64 kind, Value.int .i64 num, Value.slice oA od.length oc] 27)).alloc (.cells #[Value.int .i64 0, Value.int .i64 0, Value.int .i64 0, Value.slice none 0 0] 24))) (w.heap.size) (Value.int .i64 primary) (Value.int .i64 view) (Value.int .i64 commit) (Value.slice A n c) (hX1.out)
  obtain ⟨o0, o1, o2⟩ := cells3 ((((w.alloc (.cells #[Value.int .i64 primary, Value.int .i64 view, Value.int .i64 commit, Value.slice A n c] 24)).alloc (.cells #[Value.int .i64 kind, Value.int .i64 num, Value.slice oA od.length oc] 27)).alloc (.cells #[Value.int .i64 0, Value.int .i64 0, Value.int .i64 0, Value.slice none 0 0] 24))) ((w.heap.size + 1)) (Value.int .i64 kind) (Value.int .i64 num) (Value.slice oA od.length oc) (hO1.out)
  clear hO1
  by_cases q1 : kind = 1
  · subst q1
    have hF : Hid (r = submitC (Cm.val (⟨primary, view, commit, A, n, c, sl⟩ : Cm)) od num) := by show _ = _; rw [hr.out]; rfl
    clear hr
    go_enter Try.func14, Try.ntmps14
    go_wp2_with fail
    clear k0 k1 k2 k3 o0 o1 o2
    generalize (((w.alloc (.cells #[Value.int .i64 primary, Value.int .i64 view, Value.int .i64 commit, Value.slice A n c] 24)).alloc (.cells #[Value.int .i64 1, Value.int .i64 num, Value.slice oA od.length oc] 27)).alloc (.cells #[Value.int .i64 0, Value.int .i64 0, Value.int .i64 0, Value.slice none 0 0] 24)) = w1 at *
    refine (rsubmit_any (⟨primary, view, commit, A, n, c, sl⟩ : Cm) oA oc od num w1 hh.out hs2.out hp1.out hda.out).mono ?_; rintro e w2 ⟨⟨⟨p9, v9, m9, A9, n9, c9, l9⟩, rfl, hk', hv'⟩, hq⟩
    simp only [clV]
    have hv2 := Lib.hid hv'
    clear hv'
    have hsz : w.heap.size + 1 + 1 < w1.heap.size := hZ1.out.lt
    have hk2 : CmAt w2 (fun b => (Q b ∨ w.heap.size ≤ b) ∧ b ≠ w.heap.size ∧ b ≠ (w.heap.size + 1 + 1)) (⟨p9, v9, m9, A9, n9, c9, l9⟩ : Cm) := hk'.imp (fun b hb => hb.elim (fun h => ⟨.inl h.1, by have := h.2; omega, by have := h.2; omega⟩) (fun h => ⟨.inr (by omega), by omega, by omega⟩))
    have hX2 := Lib.hid (hX1.out.below hq hX1.out.lt)
    have hZ2 := Lib.hid (hZ1.out.below hq hZ1.out.lt)
    have hb2 : Hid (Below w.heap.size w w2) := hb1.out.trans (hq.mono hb1.out.size)
    have hgr := grown_set4 w2 w.heap.size (Value.int .i64 p9) (Value.int .i64 v9) (Value.int .i64 m9) (Value.slice A9 n9 c9)
    have hX3 := Lib.hid (cl_set4 hX2.out (Value.int .i64 p9) (Value.int .i64 v9) (Value.int .i64 m9) (Value.slice A9 n9 c9))
    have hZ3 := Lib.hid (hZ2.out.grown hgr (by intro e; injection e with e; omega))
    have hb3 := Lib.hid (below_set4 hb2.out (Nat.le_refl _) (Value.int .i64 p9) (Value.int .i64 v9) (Value.int .i64 m9) (Value.slice A9 n9 c9))
    have hk3 := Lib.hid (hk2.st hgr (fun b hb e => by injection e with e; exact hb.2.1 e))
    clear hk' hk2 hq hX1 hZ1 hb1
    obtain ⟨k0, k1, k2, k3, z0, z1, z2, z3⟩ := cells4z (w2) (w.heap.size) (Value.int .i64 primary) (Value.int .i64 view) (Value.int .i64 commit) (Value.slice A n c) (hX2.out)
    obtain ⟨m0, m1, m2, m3⟩ := cells4 (((((w2.setCell ⟨w.heap.size, 0, none⟩ (Value.int .i64 p9)).setCell ⟨w.heap.size, 1, none⟩ (Value.int .i64 v9)).setCell ⟨w.heap.size, 2, none⟩ (Value.int .i64 m9)).setCell ⟨w.heap.size, 3, none⟩ (Value.slice A9 n9 c9))) (w.heap.size) (Value.int .i64 p9) (Value.int .i64 v9) (Value.int .i64 m9) (Value.slice A9 n9 c9) (hX3.out)
    obtain ⟨u0, u1, u2, u3, y0, y1, y2, y3⟩ := cells4z (((((w2.setCell ⟨w.heap.size, 0, none⟩ (Value.int .i64 p9)).setCell ⟨w.heap.size, 1, none⟩ (Value.int .i64 v9)).setCell ⟨w.heap.size, 2, none⟩ (Value.int .i64 m9)).setCell ⟨w.heap.size, 3, none⟩ (Value.slice A9 n9 c9))) ((w.heap.size + 1 + 1)) (Value.int .i64 0) (Value.int .i64 0) (Value.int .i64 0) (Value.slice none 0 0) (hZ3.out)
    clear hX2 hZ2 hb2 hgr
    obtain ⟨a9, ha9⟩ : ∃ a, a = (submitC (Cm.val (⟨primary, view, commit, A, n, c, sl⟩ : Cm)) od num).2.1 := ⟨_, rfl⟩
    obtain ⟨e9, he9⟩ : ∃ e, e = (submitC (Cm.val (⟨primary, view, commit, A, n, c, sl⟩ : Cm)) od num).2.2 := ⟨_, rfl⟩
    rw [← ha9, ← he9]
    replace ha9 := Lib.hid ha9
    replace he9 := Lib.hid he9
    go_wp2_with fail
    clear k0 k1 k2 k3 z0 z1 z2 z3 m0 m1 m2 m3 u0 u1 u2 u3 y0 y1 y2 y3
    have hB := cl_set4 hZ3.out (Value.int .i64 p9) (Value.int .i64 v9) (Value.int .i64 m9) (Value.slice A9 n9 c9)
    have hbF := below_set4 hb3.out (show w.heap.size ≤ (w.heap.size + 1 + 1) by omega) (Value.int .i64 p9) (Value.int .i64 v9) (Value.int .i64 m9) (Value.slice A9 n9 c9)
    have hgF := grown_set4 ((((w2.setCell ⟨w.heap.size, 0, none⟩ (Value.int .i64 p9)).setCell ⟨w.heap.size, 1, none⟩ (Value.int .i64 v9)).setCell ⟨w.heap.size, 2, none⟩ (Value.int .i64 m9)).setCell ⟨w.heap.size, 3, none⟩ (Value.slice A9 n9 c9)) (w.heap.size + 1 + 1) (Value.int .i64 p9) (Value.int .i64 v9) (Value.int .i64 m9) (Value.slice A9 n9 c9)
    (try simp only [Exit.inBlock, Exit.then])
    refine bodyPost_ret (v := .tuple #[.agg #[Value.int .i64 p9, Value.int .i64 v9, Value.int .i64 m9, Value.slice A9 n9 c9], Value.int .i64 a9, Value.int .i64 e9]) ?_ rfl ?_
    · refine (res3 (fn := Try.f14) (p := 4) (u := 5) (v := 6) (ty := 24) rfl _ _ (w.heap.size + 1 + 1) 24 _ (0, 0) _ ?_ hB Try.underlying24 rfl (by kernel_rfl)).trans ?_
      · rfl
      · rfl
    clear hB
    have hk4 := hk3.out.st hgF (fun b hb e => by injection e with e; exact hb.2.2 e)
    exact ⟨⟨(⟨p9, v9, m9, A9, n9, c9, l9⟩ : Cm), by rw [hF.out, ← ha9.out, ← he9.out]; rfl, hk4.imp (fun b hb => hb.1), by rw [hF.out]; exact hv2.out⟩, hbF⟩
  have q1d : (kind == 1) = false := by simpa using q1
  by_cases q2 : kind = 2
  · subst q2
    have hF : Hid (r = ((crashC (Cm.val (⟨primary, view, commit, A, n, c, sl⟩ : Cm)) num).1, 0, (crashC (Cm.val (⟨primary, view, commit, A, n, c, sl⟩ : Cm)) num).2)) := by show _ = _; rw [hr.out]; rfl
    clear hr
    go_enter Try.func14, Try.ntmps14
    go_wp2_with fail
    clear k0 k1 k2 k3 o0 o1 o2
    generalize (((w.alloc (.cells #[Value.int .i64 primary, Value.int .i64 view, Value.int .i64 commit, Value.slice A n c] 24)).alloc (.cells #[Value.int .i64 2, Value.int .i64 num, Value.slice oA od.length oc] 27)).alloc (.cells #[Value.int .i64 0, Value.int .i64 0, Value.int .i64 0, Value.slice none 0 0] 24)) = w1 at *
    refine (rcrash_any (⟨primary, view, commit, A, n, c, sl⟩ : Cm) num w1 hh.out hs1.out).mono ?_; rintro e w2 ⟨⟨⟨p9, v9, m9, A9, n9, c9, l9⟩, rfl, hk', hv'⟩, hq⟩
    simp only [clV]
    have hv2 := Lib.hid hv'
    clear hv'
    have hsz : w.heap.size + 1 + 1 < w1.heap.size := hZ1.out.lt
    have hk2 : CmAt w2 (fun b => (Q b ∨ w.heap.size ≤ b) ∧ b ≠ w.heap.size ∧ b ≠ (w.heap.size + 1 + 1)) (⟨p9, v9, m9, A9, n9, c9, l9⟩ : Cm) := hk'.imp (fun b hb => hb.elim (fun h => ⟨.inl h.1, by have := h.2; omega, by have := h.2; omega⟩) (fun h => ⟨.inr (by omega), by omega, by omega⟩))
    have hX2 := Lib.hid (hX1.out.below hq hX1.out.lt)
    have hZ2 := Lib.hid (hZ1.out.below hq hZ1.out.lt)
    have hb2 : Hid (Below w.heap.size w w2) := hb1.out.trans (hq.mono hb1.out.size)
    have hgr := grown_set4 w2 w.heap.size (Value.int .i64 p9) (Value.int .i64 v9) (Value.int .i64 m9) (Value.slice A9 n9 c9)
    have hX3 := Lib.hid (cl_set4 hX2.out (Value.int .i64 p9) (Value.int .i64 v9) (Value.int .i64 m9) (Value.slice A9 n9 c9))
    have hZ3 := Lib.hid (hZ2.out.grown hgr (by intro e; injection e with e; omega))
    have hb3 := Lib.hid (below_set4 hb2.out (Nat.le_refl _) (Value.int .i64 p9) (Value.int .i64 v9) (Value.int .i64 m9) (Value.slice A9 n9 c9))
    have hk3 := Lib.hid (hk2.st hgr (fun b hb e => by injection e with e; exact hb.2.1 e))
    clear hk' hk2 hq hX1 hZ1 hb1
    obtain ⟨k0, k1, k2, k3, z0, z1, z2, z3⟩ := cells4z (w2) (w.heap.size) (Value.int .i64 primary) (Value.int .i64 view) (Value.int .i64 commit) (Value.slice A n c) (hX2.out)
    obtain ⟨m0, m1, m2, m3⟩ := cells4 (((((w2.setCell ⟨w.heap.size, 0, none⟩ (Value.int .i64 p9)).setCell ⟨w.heap.size, 1, none⟩ (Value.int .i64 v9)).setCell ⟨w.heap.size, 2, none⟩ (Value.int .i64 m9)).setCell ⟨w.heap.size, 3, none⟩ (Value.slice A9 n9 c9))) (w.heap.size) (Value.int .i64 p9) (Value.int .i64 v9) (Value.int .i64 m9) (Value.slice A9 n9 c9) (hX3.out)
    obtain ⟨u0, u1, u2, u3, y0, y1, y2, y3⟩ := cells4z (((((w2.setCell ⟨w.heap.size, 0, none⟩ (Value.int .i64 p9)).setCell ⟨w.heap.size, 1, none⟩ (Value.int .i64 v9)).setCell ⟨w.heap.size, 2, none⟩ (Value.int .i64 m9)).setCell ⟨w.heap.size, 3, none⟩ (Value.slice A9 n9 c9))) ((w.heap.size + 1 + 1)) (Value.int .i64 0) (Value.int .i64 0) (Value.int .i64 0) (Value.slice none 0 0) (hZ3.out)
    clear hX2 hZ2 hb2 hgr
    obtain ⟨e9, he9⟩ : ∃ e, e = (crashC (Cm.val (⟨primary, view, commit, A, n, c, sl⟩ : Cm)) num).2 := ⟨_, rfl⟩
    rw [← he9]
    replace he9 := Lib.hid he9
    go_wp2_with fail
    clear k0 k1 k2 k3 z0 z1 z2 z3 m0 m1 m2 m3 u0 u1 u2 u3 y0 y1 y2 y3
    have hB := cl_set4 hZ3.out (Value.int .i64 p9) (Value.int .i64 v9) (Value.int .i64 m9) (Value.slice A9 n9 c9)
    have hbF := below_set4 hb3.out (show w.heap.size ≤ (w.heap.size + 1 + 1) by omega) (Value.int .i64 p9) (Value.int .i64 v9) (Value.int .i64 m9) (Value.slice A9 n9 c9)
    have hgF := grown_set4 ((((w2.setCell ⟨w.heap.size, 0, none⟩ (Value.int .i64 p9)).setCell ⟨w.heap.size, 1, none⟩ (Value.int .i64 v9)).setCell ⟨w.heap.size, 2, none⟩ (Value.int .i64 m9)).setCell ⟨w.heap.size, 3, none⟩ (Value.slice A9 n9 c9)) (w.heap.size + 1 + 1) (Value.int .i64 p9) (Value.int .i64 v9) (Value.int .i64 m9) (Value.slice A9 n9 c9)
    (try simp only [Exit.inBlock, Exit.then])
    refine bodyPost_ret (v := .tuple #[.agg #[Value.int .i64 p9, Value.int .i64 v9, Value.int .i64 m9, Value.slice A9 n9 c9], Value.int .i64 0, Value.int .i64 e9]) ?_ rfl ?_
    · refine (res3 (fn := Try.f14) (p := 4) (u := 5) (v := 6) (ty := 24) rfl _ _ (w.heap.size + 1 + 1) 24 _ (0, 0) _ ?_ hB Try.underlying24 rfl (by kernel_rfl)).trans ?_
      · rfl
      · rfl
    clear hB
    have hk4 := hk3.out.st hgF (fun b hb e => by injection e with e; exact hb.2.2 e)
    exact ⟨⟨(⟨p9, v9, m9, A9, n9, c9, l9⟩ : Cm), by rw [hF.out, ← he9.out]; rfl, hk4.imp (fun b hb => hb.1), by rw [hF.out]; exact hv2.out⟩, hbF⟩
  have q2d : (kind == 2) = false := by simpa using q2
  by_cases q3 : kind = 3
  · subst q3
    have hF : Hid (r = ((restartC (Cm.val (⟨primary, view, commit, A, n, c, sl⟩ : Cm)) num).1, 0, (restartC (Cm.val (⟨primary, view, commit, A, n, c, sl⟩ : Cm)) num).2)) := by show _ = _; rw [hr.out]; rfl
    clear hr
    go_enter Try.func14, Try.ntmps14
    go_wp2_with fail
    clear k0 k1 k2 k3 o0 o1 o2
    generalize (((w.alloc (.cells #[Value.int .i64 primary, Value.int .i64 view, Value.int .i64 commit, Value.slice A n c] 24)).alloc (.cells #[Value.int .i64 3, Value.int .i64 num, Value.slice oA od.length oc] 27)).alloc (.cells #[Value.int .i64 0, Value.int .i64 0, Value.int .i64 0, Value.slice none 0 0] 24)) = w1 at *
    refine (rrestart_any (⟨primary, view, commit, A, n, c, sl⟩ : Cm) num w1 hh.out hs1.out).mono ?_; rintro e w2 ⟨⟨⟨p9, v9, m9, A9, n9, c9, l9⟩, rfl, hk', hv'⟩, hq⟩
    simp only [clV]
    have hv2 := Lib.hid hv'
    clear hv'
    have hsz : w.heap.size + 1 + 1 < w1.heap.size := hZ1.out.lt
    have hk2 : CmAt w2 (fun b => (Q b ∨ w.heap.size ≤ b) ∧ b ≠ w.heap.size ∧ b ≠ (w.heap.size + 1 + 1)) (⟨p9, v9, m9, A9, n9, c9, l9⟩ : Cm) := hk'.imp (fun b hb => hb.elim (fun h => ⟨.inl h.1, by have := h.2; omega, by have := h.2; omega⟩) (fun h => ⟨.inr (by omega), by omega, by omega⟩))
    have hX2 := Lib.hid (hX1.out.below hq hX1.out.lt)
    have hZ2 := Lib.hid (hZ1.out.below hq hZ1.out.lt)
    have hb2 : Hid (Below w.heap.size w w2) := hb1.out.trans (hq.mono hb1.out.size)
    have hgr := grown_set4 w2 w.heap.size (Value.int .i64 p9) (Value.int .i64 v9) (Value.int .i64 m9) (Value.slice A9 n9 c9)
    have hX3 := Lib.hid (cl_set4 hX2.out (Value.int .i64 p9) (Value.int .i64 v9) (Value.int .i64 m9) (Value.slice A9 n9 c9))
    have hZ3 := Lib.hid (hZ2.out.grown hgr (by intro e; injection e with e; omega))
    have hb3 := Lib.hid (below_set4 hb2.out (Nat.le_refl _) (Value.int .i64 p9) (Value.int .i64 v9) (Value.int .i64 m9) (Value.slice A9 n9 c9))
    have hk3 := Lib.hid (hk2.st hgr (fun b hb e => by injection e with e; exact hb.2.1 e))
    clear hk' hk2 hq hX1 hZ1 hb1
    obtain ⟨k0, k1, k2, k3, z0, z1, z2, z3⟩ := cells4z (w2) (w.heap.size) (Value.int .i64 primary) (Value.int .i64 view) (Value.int .i64 commit) (Value.slice A n c) (hX2.out)
    obtain ⟨m0, m1, m2, m3⟩ := cells4 (((((w2.setCell ⟨w.heap.size, 0, none⟩ (Value.int .i64 p9)).setCell ⟨w.heap.size, 1, none⟩ (Value.int .i64 v9)).setCell ⟨w.heap.size, 2, none⟩ (Value.int .i64 m9)).setCell ⟨w.heap.size, 3, none⟩ (Value.slice A9 n9 c9))) (w.heap.size) (Value.int .i64 p9) (Value.int .i64 v9) (Value.int .i64 m9) (Value.slice A9 n9 c9) (hX3.out)
    obtain ⟨u0, u1, u2, u3, y0, y1, y2, y3⟩ := cells4z (((((w2.setCell ⟨w.heap.size, 0, none⟩ (Value.int .i64 p9)).setCell ⟨w.heap.size, 1, none⟩ (Value.int .i64 v9)).setCell ⟨w.heap.size, 2, none⟩ (Value.int .i64 m9)).setCell ⟨w.heap.size, 3, none⟩ (Value.slice A9 n9 c9))) ((w.heap.size + 1 + 1)) (Value.int .i64 0) (Value.int .i64 0) (Value.int .i64 0) (Value.slice none 0 0) (hZ3.out)
    clear hX2 hZ2 hb2 hgr
    obtain ⟨e9, he9⟩ : ∃ e, e = (restartC (Cm.val (⟨primary, view, commit, A, n, c, sl⟩ : Cm)) num).2 := ⟨_, rfl⟩
    rw [← he9]
    replace he9 := Lib.hid he9
    go_wp2_with fail
    clear k0 k1 k2 k3 z0 z1 z2 z3 m0 m1 m2 m3 u0 u1 u2 u3 y0 y1 y2 y3
    have hB := cl_set4 hZ3.out (Value.int .i64 p9) (Value.int .i64 v9) (Value.int .i64 m9) (Value.slice A9 n9 c9)
    have hbF := below_set4 hb3.out (show w.heap.size ≤ (w.heap.size + 1 + 1) by omega) (Value.int .i64 p9) (Value.int .i64 v9) (Value.int .i64 m9) (Value.slice A9 n9 c9)
    have hgF := grown_set4 ((((w2.setCell ⟨w.heap.size, 0, none⟩ (Value.int .i64 p9)).setCell ⟨w.heap.size, 1, none⟩ (Value.int .i64 v9)).setCell ⟨w.heap.size, 2, none⟩ (Value.int .i64 m9)).setCell ⟨w.heap.size, 3, none⟩ (Value.slice A9 n9 c9)) (w.heap.size + 1 + 1) (Value.int .i64 p9) (Value.int .i64 v9) (Value.int .i64 m9) (Value.slice A9 n9 c9)
    (try simp only [Exit.inBlock, Exit.then])
    refine bodyPost_ret (v := .tuple #[.agg #[Value.int .i64 p9, Value.int .i64 v9, Value.int .i64 m9, Value.slice A9 n9 c9], Value.int .i64 0, Value.int .i64 e9]) ?_ rfl ?_
    · refine (res3 (fn := Try.f14) (p := 4) (u := 5) (v := 6) (ty := 24) rfl _ _ (w.heap.size + 1 + 1) 24 _ (0, 0) _ ?_ hB Try.underlying24 rfl (by kernel_rfl)).trans ?_
      · rfl
      · rfl
    clear hB
    have hk4 := hk3.out.st hgF (fun b hb e => by injection e with e; exact hb.2.2 e)
    exact ⟨⟨(⟨p9, v9, m9, A9, n9, c9, l9⟩ : Cm), by rw [hF.out, ← he9.out]; rfl, hk4.imp (fun b hb => hb.1), by rw [hF.out]; exact hv2.out⟩, hbF⟩
  have q3d : (kind == 3) = false := by simpa using q3
  by_cases q4 : kind = 4
  · subst q4
    have hF : Hid (r = (tickC (Cm.val (⟨primary, view, commit, A, n, c, sl⟩ : Cm)), 0, 0)) := by show _ = _; rw [hr.out]; rfl
    clear hr
    go_enter Try.func14, Try.ntmps14
    go_wp2_with fail
    clear k0 k1 k2 k3 o0 o1 o2
    generalize (((w.alloc (.cells #[Value.int .i64 primary, Value.int .i64 view, Value.int .i64 commit, Value.slice A n c] 24)).alloc (.cells #[Value.int .i64 4, Value.int .i64 num, Value.slice oA od.length oc] 27)).alloc (.cells #[Value.int .i64 0, Value.int .i64 0, Value.int .i64 0, Value.slice none 0 0] 24)) = w1 at *
    refine (rtick_any (⟨primary, view, commit, A, n, c, sl⟩ : Cm) w1 hh.out hs2.out hp1.out hv.out hpu.out).mono ?_; rintro e w2 ⟨⟨⟨p9, v9, m9, A9, n9, c9, l9⟩, rfl, hk', hv'⟩, hq⟩
    simp only [clV]
    have hv2 := Lib.hid hv'
    clear hv'
    have hsz : w.heap.size + 1 + 1 < w1.heap.size := hZ1.out.lt
    have hk2 : CmAt w2 (fun b => (Q b ∨ w.heap.size ≤ b) ∧ b ≠ w.heap.size ∧ b ≠ (w.heap.size + 1 + 1)) (⟨p9, v9, m9, A9, n9, c9, l9⟩ : Cm) := hk'.imp (fun b hb => hb.elim (fun h => ⟨.inl h.1, by have := h.2; omega, by have := h.2; omega⟩) (fun h => ⟨.inr (by omega), by omega, by omega⟩))
    have hX2 := Lib.hid (hX1.out.below hq hX1.out.lt)
    have hZ2 := Lib.hid (hZ1.out.below hq hZ1.out.lt)
    have hb2 : Hid (Below w.heap.size w w2) := hb1.out.trans (hq.mono hb1.out.size)
    have hgr := grown_set4 w2 w.heap.size (Value.int .i64 p9) (Value.int .i64 v9) (Value.int .i64 m9) (Value.slice A9 n9 c9)
    have hX3 := Lib.hid (cl_set4 hX2.out (Value.int .i64 p9) (Value.int .i64 v9) (Value.int .i64 m9) (Value.slice A9 n9 c9))
    have hZ3 := Lib.hid (hZ2.out.grown hgr (by intro e; injection e with e; omega))
    have hb3 := Lib.hid (below_set4 hb2.out (Nat.le_refl _) (Value.int .i64 p9) (Value.int .i64 v9) (Value.int .i64 m9) (Value.slice A9 n9 c9))
    have hk3 := Lib.hid (hk2.st hgr (fun b hb e => by injection e with e; exact hb.2.1 e))
    clear hk' hk2 hq hX1 hZ1 hb1
    obtain ⟨k0, k1, k2, k3, z0, z1, z2, z3⟩ := cells4z (w2) (w.heap.size) (Value.int .i64 primary) (Value.int .i64 view) (Value.int .i64 commit) (Value.slice A n c) (hX2.out)
    obtain ⟨m0, m1, m2, m3⟩ := cells4 (((((w2.setCell ⟨w.heap.size, 0, none⟩ (Value.int .i64 p9)).setCell ⟨w.heap.size, 1, none⟩ (Value.int .i64 v9)).setCell ⟨w.heap.size, 2, none⟩ (Value.int .i64 m9)).setCell ⟨w.heap.size, 3, none⟩ (Value.slice A9 n9 c9))) (w.heap.size) (Value.int .i64 p9) (Value.int .i64 v9) (Value.int .i64 m9) (Value.slice A9 n9 c9) (hX3.out)
    obtain ⟨u0, u1, u2, u3, y0, y1, y2, y3⟩ := cells4z (((((w2.setCell ⟨w.heap.size, 0, none⟩ (Value.int .i64 p9)).setCell ⟨w.heap.size, 1, none⟩ (Value.int .i64 v9)).setCell ⟨w.heap.size, 2, none⟩ (Value.int .i64 m9)).setCell ⟨w.heap.size, 3, none⟩ (Value.slice A9 n9 c9))) ((w.heap.size + 1 + 1)) (Value.int .i64 0) (Value.int .i64 0) (Value.int .i64 0) (Value.slice none 0 0) (hZ3.out)
    clear hX2 hZ2 hb2 hgr
    go_wp2_with fail
    clear k0 k1 k2 k3 z0 z1 z2 z3 m0 m1 m2 m3 u0 u1 u2 u3 y0 y1 y2 y3
    have hB := cl_set4 hZ3.out (Value.int .i64 p9) (Value.int .i64 v9) (Value.int .i64 m9) (Value.slice A9 n9 c9)
    have hbF := below_set4 hb3.out (show w.heap.size ≤ (w.heap.size + 1 + 1) by omega) (Value.int .i64 p9) (Value.int .i64 v9) (Value.int .i64 m9) (Value.slice A9 n9 c9)
    have hgF := grown_set4 ((((w2.setCell ⟨w.heap.size, 0, none⟩ (Value.int .i64 p9)).setCell ⟨w.heap.size, 1, none⟩ (Value.int .i64 v9)).setCell ⟨w.heap.size, 2, none⟩ (Value.int .i64 m9)).setCell ⟨w.heap.size, 3, none⟩ (Value.slice A9 n9 c9)) (w.heap.size + 1 + 1) (Value.int .i64 p9) (Value.int .i64 v9) (Value.int .i64 m9) (Value.slice A9 n9 c9)
    (try simp only [Exit.inBlock, Exit.then])
    refine bodyPost_ret (v := .tuple #[.agg #[Value.int .i64 p9, Value.int .i64 v9, Value.int .i64 m9, Value.slice A9 n9 c9], Value.int .i64 0, Value.int .i64 0]) ?_ rfl ?_
    · refine (res3 (fn := Try.f14) (p := 4) (u := 5) (v := 6) (ty := 24) rfl _ _ (w.heap.size + 1 + 1) 24 _ (0, 0) _ ?_ hB Try.underlying24 rfl (by kernel_rfl)).trans ?_
      · rfl
      · rfl
    clear hB
    have hk4 := hk3.out.st hgF (fun b hb e => by injection e with e; exact hb.2.2 e)
    exact ⟨⟨(⟨p9, v9, m9, A9, n9, c9, l9⟩ : Cm), by rw [hF.out]; rfl, hk4.imp (fun b hb => hb.1), by rw [hF.out]; exact hv2.out⟩, hbF⟩
  have q4d : (kind == 4) = false := by simpa using q4
  have hF : Hid (r = ((Cm.val (⟨primary, view, commit, A, n, c, sl⟩ : Cm)), 0, 0)) := by
    show _ = _
    rw [hr.out]
    unfold callC
    simp only
    rw [if_neg q1, if_neg q2, if_neg q3, if_neg q4]
  clear hr
  obtain ⟨u0, u1, u2, u3, y0, y1, y2, y3⟩ := cells4z ((((w.alloc (.cells #[Value.int .i64 primary, Value.int .i64 view, Value.int .i64 commit, Value.slice A n c] 24)).alloc (.cells #[Value.int .i64 kind, Value.int .i64 num, Value.slice oA od.length oc] 27)).alloc (.cells #[Value.int .i64 0, Value.int .i64 0, Value.int .i64 0, Value.slice none 0 0] 24))) ((w.heap.size + 1 + 1)) (Value.int .i64 0) (Value.int .i64 0) (Value.int .i64 0) (Value.slice none 0 0) (hZ1.out)
  go_enter Try.func14, Try.ntmps14
  go_wp2_with fail
  clear k0 k1 k2 k3 o0 o1 o2 u0 u1 u2 u3 y0 y1 y2 y3
  have hB := Blk.new ((w.alloc (.cells #[Value.int .i64 primary, Value.int .i64 view, Value.int .i64 commit, Value.slice A n c] 24)).alloc (.cells #[Value.int .i64 kind, Value.int .i64 num, Value.slice oA od.length oc] 27)) 24 #[Value.int .i64 primary, Value.int .i64 view, Value.int .i64 commit, Value.slice A n c]
  rw [show ((w.alloc (.cells #[Value.int .i64 primary, Value.int .i64 view, Value.int .i64 commit, Value.slice A n c] 24)).alloc (.cells #[Value.int .i64 kind, Value.int .i64 num, Value.slice oA od.length oc] 27)).heap.size = w.heap.size + 1 + 1 by simp] at hB
  have hbF : Below w.heap.size w (((w.alloc (.cells #[Value.int .i64 primary, Value.int .i64 view, Value.int .i64 commit, Value.slice A n c] 24)).alloc (.cells #[Value.int .i64 kind, Value.int .i64 num, Value.slice oA od.length oc] 27)).alloc (.cells #[Value.int .i64 primary, Value.int .i64 view, Value.int .i64 commit, Value.slice A n c] 24)) := ((a1 w _).alloc (by simp) _).alloc (by simp; omega) _
  (try simp only [Exit.inBlock, Exit.then])
  refine bodyPost_ret (v := .tuple #[.agg #[Value.int .i64 primary, Value.int .i64 view, Value.int .i64 commit, Value.slice A n c], Value.int .i64 0, Value.int .i64 0]) ?_ rfl ?_
  · refine (res3 (fn := Try.f14) (p := 4) (u := 5) (v := 6) (ty := 24) rfl _ _ (w.heap.size + 1 + 1) 24 _ (0, 0) _ ?_ hB Try.underlying24 rfl (by kernel_rfl)).trans ?_
    · rfl
    · rfl
  clear hB
  have hk4 := hin.out.more hbF
  exact ⟨⟨(⟨primary, view, commit, A, n, c, sl⟩ : Cm), by rw [hF.out]; rfl, hk4.imp (fun b hb => Or.inl hb), by rw [hF.out]⟩, hbF⟩
end Go.Proofs.Ytiapeenfggjpnaa
