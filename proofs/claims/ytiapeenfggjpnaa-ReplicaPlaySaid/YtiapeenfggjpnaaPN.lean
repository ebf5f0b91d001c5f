/- Replicated servers: Committed, walked. -/
import Derived.Test.YtiapeenfggjpnaaPM
set_option linter.unusedVariables false
set_option linter.unusedSimpArgs false
namespace Go.Proofs.Ytiapeenfggjpnaa
open Go.RowKit
theorem LAt.take_ {α : Type} {f : α → List Value} {s n B m : Nat} {w : World} {A : Option Addr} {l : List α} (h : LAt f s w B A n l) (hm : m ≤ n) : LAt f s w B A m (l.take m) := by
  have hl := h.len
  have hf := h.1.2
  refine ⟨⟨by rw [List.length_take]; omega, hf⟩, by rw [flat_len hf, List.length_take, Nat.min_eq_left (by omega)], fun h0 => ?_⟩
  obtain ⟨ad, hA, hb, hc⟩ := h.2.2 (by omega)
  refine ⟨ad, hA, hb, fun j u hu => hc j u ?_⟩
  rw [← flat_take hf] at hu
  rw [List.getElem?_take] at hu
  split at hu
  · exact hu
  · cases hu
theorem LogAt.take_ {w : World} {Q : Nat → Prop} {A : Option Addr} {n c m : Nat} {log : List Em} (h : LogAt w Q A n c log) (hm : m ≤ n) : LogAt w Q A m c (log.take m) :=
  ⟨h.at_.take_ hm, ⟨Nat.le_trans hm h.cap.1, h.cap.2⟩, fun h0 => h.q (by omega), fun e he => h.els e (List.mem_of_mem_take he)⟩
def emB (e : Em) : Bs := ⟨e.A, e.n, e.c, e.d⟩
/-- bytes that lie in blocks of Q -/
structure BsQ (w : World) (Q : Nat → Prop) (b : Bs) : Prop where
  at_ : BAt w w.heap.size b.A b.n b.d
  cap : b.n ≤ b.c ∧ b.c ≤ maxLen
  q : InQ Q b.n b.A
theorem BsQ.of_em {w : World} {Q : Nat → Prop} {e : Em} (h : EmAt w Q e) : BsQ w Q (emB e) := ⟨h.at_, h.cap, h.q⟩
theorem BsQ.more {w w' : World} {Q : Nat → Prop} {b : Bs} (h : BsQ w Q b) (hb : Below w.heap.size w w') : BsQ w' Q b := ⟨h.at_.more hb, h.cap, h.q⟩
theorem BsQ.st {w w' : World} {Q : Nat → Prop} {b : Bs} {o : Option Nat} (h : BsQ w Q b) (hg : w.grownBy w' o) (hq : ∀ b, Q b → some b ≠ o) : BsQ w' Q b := ⟨LAt_grownO h.at_ (fun h0 ad e => hq _ (h.q h0 ad e)) hg, h.cap, h.q⟩
theorem BsQ.imp {w : World} {Q Q' : Nat → Prop} {b : Bs} (h : BsQ w Q b) (hq : ∀ b, Q b → Q' b) : BsQ w Q' b := ⟨h.at_, h.cap, h.q.imp hq⟩
theorem BsQ.bs {w : World} {Q : Nat → Prop} {b : Bs} (h : BsQ w Q b) : BsAt w b := ⟨h.at_, h.cap⟩
/-- the committed data -/
def ComRes (w w' : World) (ds : List (List UInt8)) (e : Ending) : Prop := ∃ (A : Option Addr) (n c : Nat) (C : List Bs), e = .returned (.slice A n c) ∧ LAt sC 1 w' w'.heap.size A n C ∧ (n ≤ c ∧ c ≤ maxLen) ∧ InQ (fun b => w.heap.size ≤ b) n A ∧ (∀ b ∈ C, BsQ w' (fun b => w.heap.size ≤ b) b) ∧ C.map (·.d) = ds
set_option maxRecDepth 100000 in
set_option maxHeartbeats 8000000 in
theorem committed_any0 (k : Cm) (m : Nat) (w : World) {Q : Nat → Prop} (h : CmAt w Q k) (hs : CmSm k) (hm : k.commit = (m : Int)) (hmb : m ≤ (bestLog k.val).length) :
    Calls Try.prog 17 #[clV k] w fun e w' => ComRes w w' (committedC k.val) e ∧ Below w.heap.size w w' := by
  have hl : Hid (k.servers.length = k.n) := h.len
  have hcm := Lib.hid h
  obtain ⟨hn1, hn7, hsm⟩ := hs
  obtain ⟨primary, view, commit, A, n, c, sl⟩ := k
  simp only [clV] at *
  obtain rfl : commit = (m : Int) := hm
  obtain ⟨bj, y, hbl, hbj, hbn, hby, hyl⟩ := best_at (n := n) (sl := sl) hl.out (fun s hs => (hcm.out.els s hs).len) hn1
  obtain ⟨r, hr⟩ : ∃ r, r = committedC (Cm.val ⟨primary, view, (m : Int), A, n, c, sl⟩) := ⟨_, rfl⟩
  rw [← hr]
  have hF : Hid (r = (y.log.take m).map (·.d)) := by
    show _ = _
    rw [hr]
    unfold committedC
    show ((bestLog ⟨primary, view, (m : Int), sl.map Sm.val⟩).take m).map _ = _
    rw [hbl, ← List.map_take, List.map_map]
    rfl
  have hmy : m ≤ y.n := by
    have : (bestLog (Cm.val ⟨primary, view, (m : Int), A, n, c, sl⟩)).length = y.n := by
      show (bestLog ⟨primary, view, (m : Int), sl.map Sm.val⟩).length = _
      rw [hbl, List.length_map]; exact hyl
    omega
  have hys := Lib.hid (hcm.out.els y (List.mem_of_getElem? hby))
  have hym := Lib.hid (hsm y (List.mem_of_getElem? hby))
  obtain ⟨hbjl, hyy⟩ := List.getElem?_eq_some_iff.1 hby
  obtain ⟨ad, hA, -, -, -, -⟩ := sv_cells h.at_ hbn
  (try simp only at hA)
  subst hA
  have hyc : Hid (∀ wz, Below w.heap.size w wz → wz.cell? ⟨(ad.add (bj * 3)).block, (ad.add (bj * 3)).off + 2, none⟩ = some (Value.slice y.A y.n y.c)) := fun wz hz => by
    obtain ⟨ad', hA', -, -, -, q⟩ := sv_cells (hcm.out.at_.below hz (Nat.le_refl _)) hbn
    (try simp only at hA')
    injection hA' with hA'
    subst hA'
    rw [hyy] at q
    exact q
  have hgr := fun (wz : World) (hz : Below w.heap.size w wz) => greatA_any (fun _ => true) (fun s w => anyServer_any s w) (some ad) n c sl wz (hcm.out.at_.more hz) (fun s hs => (hcm.out.els s hs).len) (by omega)
  rw [hbj] at hgr
  simp only [idxO] at hgr
  replace hgr := Lib.hid hgr
  have hj0 : (0 : Int) ≤ (bj : Int) := by omega
  have hj1 : (bj : Int) < n := by omega
  have hj2 : decide ((bj : Int) < 0) = false := by simp <;> omega
  clear h hr hbl hbj hby hyy hbjl hsm
  obtain ⟨yu, yv, yA, yn, yc, yl⟩ := y
  (try simp only at hyl hF hmy hyc hym hgr)
  replace hyl := Lib.hid hyl
  obtain ⟨i25, hi25, hz250, hz251, hz252⟩ := info_parts bs_info
  have hmk := Lib.hid (fun (wz : World) => made_row (P := Try.prog) wz 36 25 i25 _ 1 Try.underlying36 hi25 hz250 hz251 0 m 0 m rfl rfl (Nat.zero_le _) (by rw [hz252]; have := hym.out.1; omega) (by have := hym.out.1; omega))
  replace hi25 := Lib.hid hi25
  replace hz250 := Lib.hid hz250
  replace hz251 := Lib.hid hz251
  replace hz252 := Lib.hid hz252
  have hyc9 : yn ≤ yc := hys.out.cap.1
  by_cases u0 : m = 0
  · subst u0
    by_cases u1 : yn = 0
    · subst u1
      have hx0 := Lib.hid (Blk.new w 24 #[Value.int .i64 primary, Value.int .i64 view, Value.int .i64 0, Value.slice (some ad) n c])
      have hb0 : Hid (Below w.heap.size w (w.alloc (.cells #[Value.int .i64 primary, Value.int .i64 view, Value.int .i64 0, Value.slice (some ad) n c] 24))) := a1 w _
      obtain ⟨k0, k1, k2, k3⟩ := cells4 ((w.alloc (.cells #[Value.int .i64 primary, Value.int .i64 view, Value.int .i64 0, Value.slice (some ad) n c] 24))) (w.heap.size) (Value.int .i64 primary) (Value.int .i64 view) (Value.int .i64 0) (Value.slice (some ad) n c) (hx0.out)
      go_enter Try.func17, Try.ntmps17
      go_wp2_with fail
      refine (hgr.out _ hb0.out).mono ?_; rintro e w2 ⟨rfl, hq⟩
      have hX2 := Lib.hid (hx0.out.below hq hx0.out.lt)
      have hb2 := Lib.hid (hb0.out.trans (hq.mono hb0.out.size))
      clear hq hx0 hb0 k0 k1 k2 k3
      obtain ⟨k0, k1, k2, k3⟩ := cells4 (w2) (w.heap.size) (Value.int .i64 primary) (Value.int .i64 view) (Value.int .i64 0) (Value.slice (some ad) n c) (hX2.out)
      have e2 := hyc.out w2 hb2.out
      have hcp := Lib.hid (copyLog_any yA 0 yc (yl.take 0) w2 (LogAt.take_ (LogAt.more hys.out hb2.out) (by omega)) (by have := hym.out.1; omega) (by have := sumD_le yl 0; have := hym.out.2; omega))
      go_wp2_with fail
      refine hcp.out.mono ?_; rintro e w3 ⟨⟨gl, L, rfl, hoL, heL, hvL⟩, hq⟩
      have hLl : Hid (L.length = 0) := by
        show _ = _
        have := congrArg List.length hvL
        rw [List.length_map, List.length_map, List.length_take] at this
        have := hyl.out
        omega
      have hb3 := Lib.hid (hb2.out.trans (hq.mono hb2.out.size))
      have hw23 : Hid (w.heap.size ≤ w2.heap.size) := hb2.out.size
      clear hq hcp hX2 hb2 k0 k1 k2 k3 e2
      replace hoL := Lib.hid hoL
      replace heL := Lib.hid heL
      replace hvL := Lib.hid hvL
      have hmk := made_row (P := Try.prog) w3 36 25 i25 _ 1 Try.underlying36 hi25.out hz250.out hz251.out 0 0 0 0 rfl rfl (Nat.zero_le _) (by rw [hz252.out]; have := hym.out.1; omega) (by have := hym.out.1; omega)
      have hMs := size_madeCells (Value.slice none 0 0).cells (0 * 1)
      obtain ⟨M1, hM1⟩ : ∃ M1, M1 = madeCells (Value.slice none 0 0).cells (0 * 1) := ⟨_, rfl⟩
      rw [← hM1] at hmk hMs
      have hR0 : Hid (LOwn sC 1 25 (w3.alloc (.cells M1 25)) w3.heap.size (.slice (some ⟨w3.heap.size, 0, none⟩) 0 0) []) := made_nil sC_len 25 w3 M1 0 hMs (by have := hym.out.1; simp only [maxLen]; omega)
      clear hMs hM1
      have hMb : 0 ≤ 5000 := by have := hym.out.1; omega
      go_wp2_with fail
      clear hmk
      have hbS : Hid (Below w3.heap.size w3 (w3.alloc (.cells M1 25))) := a1 w3 _
      generalize w3.alloc (.cells M1 25) = w4 at *
      go_loopw [33, 5] (fun i v5 wr => ∃ k : Nat, k ≤ 0 ∧ i = .int .i64 k ∧ v5 = .slice (some ⟨w3.heap.size, 0, none⟩) k 0 ∧ Hid (LOwn sC 1 25 wr w3.heap.size (.slice (some ⟨w3.heap.size, 0, none⟩) k 0) ((L.take k).map emB)) ∧ Hid (Below w3.heap.size w3 wr)) (fun i _ _ => 0 - (intOf i).toNat)
      case atStart => exact ⟨0, Nat.zero_le _, rfl, rfl, hR0.out, hbS.out⟩
      case round =>
        clear hR0 hbS
        obtain ⟨k, hkn, rfl, rfl, hR, hb⟩ := hrel
        by_cases hlt : k < 0
        · exact absurd hlt (Nat.not_lt_zero k)
        · obtain rfl : k = 0 := by omega
          have htk : L.take 0 = L := List.take_of_length_le (by have := hLl.out; omega)
          rw [htk] at hR
          clear htk
          have hbw : Hid (Below w.heap.size w wr) := hb3.out.trans (hb.out.mono hb3.out.size)
          have hgs : Hid (w.heap.size ≤ w3.heap.size) := hb3.out.size
          have hdL : Hid ((L.map emB).map (·.d) = r) := by
            show _ = _
            rw [hF.out, List.map_map]
            have h1 : L.map (·.d) = (L.map Em.val).map (·.d) := by rw [List.map_map]; rfl
            have h2 : ((yl.take 0).map Em.val).map (fun e : En => e.d) = (yl.take 0).map (·.d) := by rw [List.map_map]; rfl
            show L.map (·.d) = _
            rw [h1, hvL.out, h2]
          go_wp2_with fail
          go_ret
          refine ⟨⟨_, _, _, L.map emB, rfl, hR.out.reads (by rw [List.length_map]; exact hLl.out.symm), ⟨Nat.le_refl _, by simp only [maxLen]; omega⟩, fun _ ad e => by injection e with e; subst e; exact hgs.out, fun b hbm => ?_, hdL.out⟩, hbw.out⟩
          obtain ⟨e, he, rfl⟩ := List.mem_map.1 hbm
          exact (BsQ.of_em ((heL.out e he).more hb.out)).imp (fun b hb => Nat.le_trans hw23.out hb.1)
    · have u2 : (0 : Int) < (yn : Int) := by omega
      have hx0 := Lib.hid (Blk.new w 24 #[Value.int .i64 primary, Value.int .i64 view, Value.int .i64 0, Value.slice (some ad) n c])
      have hb0 : Hid (Below w.heap.size w (w.alloc (.cells #[Value.int .i64 primary, Value.int .i64 view, Value.int .i64 0, Value.slice (some ad) n c] 24))) := a1 w _
      obtain ⟨k0, k1, k2, k3⟩ := cells4 ((w.alloc (.cells #[Value.int .i64 primary, Value.int .i64 view, Value.int .i64 0, Value.slice (some ad) n c] 24))) (w.heap.size) (Value.int .i64 primary) (Value.int .i64 view) (Value.int .i64 0) (Value.slice (some ad) n c) (hx0.out)
      go_enter Try.func17, Try.ntmps17
      go_wp2_with fail
      refine (hgr.out _ hb0.out).mono ?_; rintro e w2 ⟨rfl, hq⟩
      have hX2 := Lib.hid (hx0.out.below hq hx0.out.lt)
      have hb2 := Lib.hid (hb0.out.trans (hq.mono hb0.out.size))
      clear hq hx0 hb0 k0 k1 k2 k3
      obtain ⟨k0, k1, k2, k3⟩ := cells4 (w2) (w.heap.size) (Value.int .i64 primary) (Value.int .i64 view) (Value.int .i64 0) (Value.slice (some ad) n c) (hX2.out)
      have e2 := hyc.out w2 hb2.out
      have hcp := Lib.hid (copyLog_any yA 0 yc (yl.take 0) w2 (LogAt.take_ (LogAt.more hys.out hb2.out) (by omega)) (by have := hym.out.1; omega) (by have := sumD_le yl 0; have := hym.out.2; omega))
      go_wp2_with fail
      refine hcp.out.mono ?_; rintro e w3 ⟨⟨gl, L, rfl, hoL, heL, hvL⟩, hq⟩
      have hLl : Hid (L.length = 0) := by
        show _ = _
        have := congrArg List.length hvL
        rw [List.length_map, List.length_map, List.length_take] at this
        have := hyl.out
        omega
      have hb3 := Lib.hid (hb2.out.trans (hq.mono hb2.out.size))
      have hw23 : Hid (w.heap.size ≤ w2.heap.size) := hb2.out.size
      clear hq hcp hX2 hb2 k0 k1 k2 k3 e2
      replace hoL := Lib.hid hoL
      replace heL := Lib.hid heL
      replace hvL := Lib.hid hvL
      have hmk := made_row (P := Try.prog) w3 36 25 i25 _ 1 Try.underlying36 hi25.out hz250.out hz251.out 0 0 0 0 rfl rfl (Nat.zero_le _) (by rw [hz252.out]; have := hym.out.1; omega) (by have := hym.out.1; omega)
      have hMs := size_madeCells (Value.slice none 0 0).cells (0 * 1)
      obtain ⟨M1, hM1⟩ : ∃ M1, M1 = madeCells (Value.slice none 0 0).cells (0 * 1) := ⟨_, rfl⟩
      rw [← hM1] at hmk hMs
      have hR0 : Hid (LOwn sC 1 25 (w3.alloc (.cells M1 25)) w3.heap.size (.slice (some ⟨w3.heap.size, 0, none⟩) 0 0) []) := made_nil sC_len 25 w3 M1 0 hMs (by have := hym.out.1; simp only [maxLen]; omega)
      clear hMs hM1
      have hMb : 0 ≤ 5000 := by have := hym.out.1; omega
      go_wp2_with fail
      clear hmk
      have hbS : Hid (Below w3.heap.size w3 (w3.alloc (.cells M1 25))) := a1 w3 _
      generalize w3.alloc (.cells M1 25) = w4 at *
      go_loopw [33, 5] (fun i v5 wr => ∃ k : Nat, k ≤ 0 ∧ i = .int .i64 k ∧ v5 = .slice (some ⟨w3.heap.size, 0, none⟩) k 0 ∧ Hid (LOwn sC 1 25 wr w3.heap.size (.slice (some ⟨w3.heap.size, 0, none⟩) k 0) ((L.take k).map emB)) ∧ Hid (Below w3.heap.size w3 wr)) (fun i _ _ => 0 - (intOf i).toNat)
      case atStart => exact ⟨0, Nat.zero_le _, rfl, rfl, hR0.out, hbS.out⟩
      case round =>
        clear hR0 hbS
        obtain ⟨k, hkn, rfl, rfl, hR, hb⟩ := hrel
        by_cases hlt : k < 0
        · exact absurd hlt (Nat.not_lt_zero k)
        · obtain rfl : k = 0 := by omega
          have htk : L.take 0 = L := List.take_of_length_le (by have := hLl.out; omega)
          rw [htk] at hR
          clear htk
          have hbw : Hid (Below w.heap.size w wr) := hb3.out.trans (hb.out.mono hb3.out.size)
          have hgs : Hid (w.heap.size ≤ w3.heap.size) := hb3.out.size
          have hdL : Hid ((L.map emB).map (·.d) = r) := by
            show _ = _
            rw [hF.out, List.map_map]
            have h1 : L.map (·.d) = (L.map Em.val).map (·.d) := by rw [List.map_map]; rfl
            have h2 : ((yl.take 0).map Em.val).map (fun e : En => e.d) = (yl.take 0).map (·.d) := by rw [List.map_map]; rfl
            show L.map (·.d) = _
            rw [h1, hvL.out, h2]
          go_wp2_with fail
          go_ret
          refine ⟨⟨_, _, _, L.map emB, rfl, hR.out.reads (by rw [List.length_map]; exact hLl.out.symm), ⟨Nat.le_refl _, by simp only [maxLen]; omega⟩, fun _ ad e => by injection e with e; subst e; exact hgs.out, fun b hbm => ?_, hdL.out⟩, hbw.out⟩
          obtain ⟨e, he, rfl⟩ := List.mem_map.1 hbm
          exact (BsQ.of_em ((heL.out e he).more hb.out)).imp (fun b hb => Nat.le_trans hw23.out hb.1)
  · have u2 : (0 : Int) < (m : Int) := by omega
    by_cases u1 : m = yn
    · subst u1
      have hx0 := Lib.hid (Blk.new w 24 #[Value.int .i64 primary, Value.int .i64 view, Value.int .i64 (m : Int), Value.slice (some ad) n c])
      have hb0 : Hid (Below w.heap.size w (w.alloc (.cells #[Value.int .i64 primary, Value.int .i64 view, Value.int .i64 (m : Int), Value.slice (some ad) n c] 24))) := a1 w _
      obtain ⟨k0, k1, k2, k3⟩ := cells4 ((w.alloc (.cells #[Value.int .i64 primary, Value.int .i64 view, Value.int .i64 (m : Int), Value.slice (some ad) n c] 24))) (w.heap.size) (Value.int .i64 primary) (Value.int .i64 view) (Value.int .i64 (m : Int)) (Value.slice (some ad) n c) (hx0.out)
      go_enter Try.func17, Try.ntmps17
      go_wp2_with fail
      refine (hgr.out _ hb0.out).mono ?_; rintro e w2 ⟨rfl, hq⟩
      have hX2 := Lib.hid (hx0.out.below hq hx0.out.lt)
      have hb2 := Lib.hid (hb0.out.trans (hq.mono hb0.out.size))
      clear hq hx0 hb0 k0 k1 k2 k3
      obtain ⟨k0, k1, k2, k3⟩ := cells4 (w2) (w.heap.size) (Value.int .i64 primary) (Value.int .i64 view) (Value.int .i64 (m : Int)) (Value.slice (some ad) n c) (hX2.out)
      have e2 := hyc.out w2 hb2.out
      have hcp := Lib.hid (copyLog_any yA m yc (yl.take m) w2 (LogAt.take_ (LogAt.more hys.out hb2.out) (by omega)) (by have := hym.out.1; omega) (by have := sumD_le yl m; have := hym.out.2; omega))
      go_wp2_with fail
      refine hcp.out.mono ?_; rintro e w3 ⟨⟨gl, L, rfl, hoL, heL, hvL⟩, hq⟩
      have hLl : Hid (L.length = m) := by
        show _ = _
        have := congrArg List.length hvL
        rw [List.length_map, List.length_map, List.length_take] at this
        have := hyl.out
        omega
      have hb3 := Lib.hid (hb2.out.trans (hq.mono hb2.out.size))
      have hw23 : Hid (w.heap.size ≤ w2.heap.size) := hb2.out.size
      clear hq hcp hX2 hb2 k0 k1 k2 k3 e2
      replace hoL := Lib.hid hoL
      replace heL := Lib.hid heL
      replace hvL := Lib.hid hvL
      have hmk := made_row (P := Try.prog) w3 36 25 i25 _ 1 Try.underlying36 hi25.out hz250.out hz251.out 0 m 0 (m : Int) rfl rfl (Nat.zero_le _) (by rw [hz252.out]; have := hym.out.1; omega) (by have := hym.out.1; omega)
      have hMs := size_madeCells (Value.slice none 0 0).cells (m * 1)
      obtain ⟨M1, hM1⟩ : ∃ M1, M1 = madeCells (Value.slice none 0 0).cells (m * 1) := ⟨_, rfl⟩
      rw [← hM1] at hmk hMs
      have hR0 : Hid (LOwn sC 1 25 (w3.alloc (.cells M1 25)) w3.heap.size (.slice (some ⟨w3.heap.size, 0, none⟩) 0 m) []) := made_nil sC_len 25 w3 M1 m hMs (by have := hym.out.1; simp only [maxLen]; omega)
      clear hMs hM1
      have hMb : m ≤ 5000 := by have := hym.out.1; omega
      go_wp2_with fail
      clear hmk
      have hbS : Hid (Below w3.heap.size w3 (w3.alloc (.cells M1 25))) := a1 w3 _
      generalize w3.alloc (.cells M1 25) = w4 at *
      go_loopw [33, 5] (fun i v5 wr => ∃ k : Nat, k ≤ m ∧ i = .int .i64 k ∧ v5 = .slice (some ⟨w3.heap.size, 0, none⟩) k m ∧ Hid (LOwn sC 1 25 wr w3.heap.size (.slice (some ⟨w3.heap.size, 0, none⟩) k m) ((L.take k).map emB)) ∧ Hid (Below w3.heap.size w3 wr)) (fun i _ _ => m - (intOf i).toNat)
      case atStart => exact ⟨0, Nat.zero_le _, rfl, rfl, hR0.out, hbS.out⟩
      case round =>
        clear hR0 hbS
        obtain ⟨k, hkn, rfl, rfl, hR, hb⟩ := hrel
        by_cases hlt : k < m
        · have hkl : k < L.length := by have := hLl.out; omega
          have hk0 : (0 : Int) ≤ k := by omega
          have hk1 : (k : Int) < (m : Int) := by omega
          have hst : Hid ((L.take (k + 1)).map emB = (L.take k).map emB ++ [emB (L[k])]) := by show _ = _; rw [List.take_succ_eq_append_getElem hkl, List.map_append]; rfl
          obtain ⟨x, hx⟩ : ∃ x, L[k] = x := ⟨_, rfl⟩
          rw [hx] at hst
          obtain ⟨e0, e1⟩ := (show wr.cell? ⟨gl, k * 2, none⟩ = some (Value.int .i64 x.view) ∧ wr.cell? ⟨gl, k * 2 + 1, none⟩ = some (Value.slice x.A x.n x.c) from by
            have hk := hoL.out.kept hb.out
            refine ⟨?_, ?_⟩
            · have := hk.cellAt hLl.out.symm (k := k) hkl (j := 0) (by decide); rw [hx] at this; exact this
            · have := hk.cellAt hLl.out.symm (k := k) hkl (j := 1) (by decide); rw [hx] at this; exact this)
          clear hx
          obtain ⟨xv, xA, xn, xc, xd⟩ := x
          (try simp only at e0 e1)
          have hRX := Lib.hid ((hR.out.alloc (.cells #[Value.int .i64 xv, Value.slice xA xn xc] 59)).alloc (.cells #[Value.slice xA xn xc] 25))
          have hbX : Hid (Below w3.heap.size w3 ((wr.alloc (.cells #[Value.int .i64 xv, Value.slice xA xn xc] 59)).alloc (.cells #[Value.slice xA xn xc] 25))) := (hb.out.alloc hb.out.size _).alloc (Nat.le_trans hb.out.size (by simp)) _
          have hy := Lib.hid (Blk.new wr 59 #[Value.int .i64 xv, Value.slice xA xn xc])
          have hrd : Hid (Reads ((wr.alloc (.cells #[Value.int .i64 xv, Value.slice xA xn xc] 59)).alloc (.cells #[Value.slice xA xn xc] 25)) ((wr.alloc (.cells #[Value.int .i64 xv, Value.slice xA xn xc] 59)).alloc (.cells #[Value.slice xA xn xc] 25)).heap.size 1 (some ⟨wr.heap.size + 1, 0, none⟩) 1 (flat sC [emB ⟨xv, xA, xn, xc, xd⟩])) := by
            have h8 := Blk.new (wr.alloc (.cells #[Value.int .i64 xv, Value.slice xA xn xc] 59)) 25 #[Value.slice xA xn xc]
            rw [show (wr.alloc (.cells #[Value.int .i64 xv, Value.slice xA xn xc] 59)).heap.size = wr.heap.size + 1 by simp] at h8
            exact (lat_blk sC_len h8 [emB ⟨xv, xA, xn, xc, xd⟩] 1 rfl (by simp [flat, sC, emB])).2
          have hlk : Hid (k = ((L.take k).map emB).length) := by show _ = _; rw [List.length_map, List.length_take]; omega
          obtain ⟨y0, y1⟩ := cells2 ((wr.alloc (.cells #[Value.int .i64 xv, Value.slice xA xn xc] 59))) (wr.heap.size) (Value.int .i64 xv) (Value.slice xA xn xc) (hy.out)
          clear hR hb hy
          go_wp2_with (at_builtin; refine wpList_append_in _ rfl (.tmp 37) (.tmp 40) _ rfl w3.heap.size 25 i25 1 Try.underlying36 hi25.out hz251.out w3.heap.size k m rfl hRX.out hlk.out _ (some ⟨wr.heap.size + 1, 0, none⟩) 1 1 rfl hrd.out rfl (sC_one _) (by omega) ?_
                       intro w1 hown1 hg1
                       have hR1 : Hid (LOwn sC 1 25 w1 w3.heap.size (.slice (some ⟨w3.heap.size, 0, none⟩) (k + 1) m) ((L.take (k + 1)).map emB)) := by rw [hst.out]; exact hown1
                       have hb1 : Hid (Below w3.heap.size w3 w1) := hbX.out.grown hg1 hbX.out.size (fun g8 e8 => by injection e8 with e8; omega)
                       clear hown1 hg1)
          go_roundw
          case rel => exact ⟨k + 1, by omega, by go_num, by go_num, hR1.out, hb1.out⟩
          case measure => simp [intOf]; omega
        · obtain rfl : k = m := by omega
          have htk : L.take k = L := List.take_of_length_le (by have := hLl.out; omega)
          rw [htk] at hR
          clear htk
          have hbw : Hid (Below w.heap.size w wr) := hb3.out.trans (hb.out.mono hb3.out.size)
          have hgs : Hid (w.heap.size ≤ w3.heap.size) := hb3.out.size
          have hdL : Hid ((L.map emB).map (·.d) = r) := by
            show _ = _
            rw [hF.out, List.map_map]
            have h1 : L.map (·.d) = (L.map Em.val).map (·.d) := by rw [List.map_map]; rfl
            have h2 : ((yl.take k).map Em.val).map (fun e : En => e.d) = (yl.take k).map (·.d) := by rw [List.map_map]; rfl
            show L.map (·.d) = _
            rw [h1, hvL.out, h2]
          go_wp2_with fail
          go_ret
          refine ⟨⟨_, _, _, L.map emB, rfl, hR.out.reads (by rw [List.length_map]; exact hLl.out.symm), ⟨Nat.le_refl _, by simp only [maxLen]; omega⟩, fun _ ad e => by injection e with e; subst e; exact hgs.out, fun b hbm => ?_, hdL.out⟩, hbw.out⟩
          obtain ⟨e, he, rfl⟩ := List.mem_map.1 hbm
          exact (BsQ.of_em ((heL.out e he).more hb.out)).imp (fun b hb => Nat.le_trans hw23.out hb.1)
    · have u3 : (m : Int) < (yn : Int) := by omega
      have hx0 := Lib.hid (Blk.new w 24 #[Value.int .i64 primary, Value.int .i64 view, Value.int .i64 (m : Int), Value.slice (some ad) n c])
      have hb0 : Hid (Below w.heap.size w (w.alloc (.cells #[Value.int .i64 primary, Value.int .i64 view, Value.int .i64 (m : Int), Value.slice (some ad) n c] 24))) := a1 w _
      obtain ⟨k0, k1, k2, k3⟩ := cells4 ((w.alloc (.cells #[Value.int .i64 primary, Value.int .i64 view, Value.int .i64 (m : Int), Value.slice (some ad) n c] 24))) (w.heap.size) (Value.int .i64 primary) (Value.int .i64 view) (Value.int .i64 (m : Int)) (Value.slice (some ad) n c) (hx0.out)
      go_enter Try.func17, Try.ntmps17
      go_wp2_with fail
      refine (hgr.out _ hb0.out).mono ?_; rintro e w2 ⟨rfl, hq⟩
      have hX2 := Lib.hid (hx0.out.below hq hx0.out.lt)
      have hb2 := Lib.hid (hb0.out.trans (hq.mono hb0.out.size))
      clear hq hx0 hb0 k0 k1 k2 k3
      obtain ⟨k0, k1, k2, k3⟩ := cells4 (w2) (w.heap.size) (Value.int .i64 primary) (Value.int .i64 view) (Value.int .i64 (m : Int)) (Value.slice (some ad) n c) (hX2.out)
      have e2 := hyc.out w2 hb2.out
      have hcp := Lib.hid (copyLog_any yA m yc (yl.take m) w2 (LogAt.take_ (LogAt.more hys.out hb2.out) (by omega)) (by have := hym.out.1; omega) (by have := sumD_le yl m; have := hym.out.2; omega))
      go_wp2_with fail
      refine hcp.out.mono ?_; rintro e w3 ⟨⟨gl, L, rfl, hoL, heL, hvL⟩, hq⟩
      have hLl : Hid (L.length = m) := by
        show _ = _
        have := congrArg List.length hvL
        rw [List.length_map, List.length_map, List.length_take] at this
        have := hyl.out
        omega
      have hb3 := Lib.hid (hb2.out.trans (hq.mono hb2.out.size))
      have hw23 : Hid (w.heap.size ≤ w2.heap.size) := hb2.out.size
      clear hq hcp hX2 hb2 k0 k1 k2 k3 e2
      replace hoL := Lib.hid hoL
      replace heL := Lib.hid heL
      replace hvL := Lib.hid hvL
      have hmk := made_row (P := Try.prog) w3 36 25 i25 _ 1 Try.underlying36 hi25.out hz250.out hz251.out 0 m 0 (m : Int) rfl rfl (Nat.zero_le _) (by rw [hz252.out]; have := hym.out.1; omega) (by have := hym.out.1; omega)
      have hMs := size_madeCells (Value.slice none 0 0).cells (m * 1)
      obtain ⟨M1, hM1⟩ : ∃ M1, M1 = madeCells (Value.slice none 0 0).cells (m * 1) := ⟨_, rfl⟩
      rw [← hM1] at hmk hMs
      have hR0 : Hid (LOwn sC 1 25 (w3.alloc (.cells M1 25)) w3.heap.size (.slice (some ⟨w3.heap.size, 0, none⟩) 0 m) []) := made_nil sC_len 25 w3 M1 m hMs (by have := hym.out.1; simp only [maxLen]; omega)
      clear hMs hM1
      have hMb : m ≤ 5000 := by have := hym.out.1; omega
      go_wp2_with fail
      clear hmk
      have hbS : Hid (Below w3.heap.size w3 (w3.alloc (.cells M1 25))) := a1 w3 _
      generalize w3.alloc (.cells M1 25) = w4 at *
      go_loopw [33, 5] (fun i v5 wr => ∃ k : Nat, k ≤ m ∧ i = .int .i64 k ∧ v5 = .slice (some ⟨w3.heap.size, 0, none⟩) k m ∧ Hid (LOwn sC 1 25 wr w3.heap.size (.slice (some ⟨w3.heap.size, 0, none⟩) k m) ((L.take k).map emB)) ∧ Hid (Below w3.heap.size w3 wr)) (fun i _ _ => m - (intOf i).toNat)
      case atStart => exact ⟨0, Nat.zero_le _, rfl, rfl, hR0.out, hbS.out⟩
      case round =>
        clear hR0 hbS
        obtain ⟨k, hkn, rfl, rfl, hR, hb⟩ := hrel
        by_cases hlt : k < m
        · have hkl : k < L.length := by have := hLl.out; omega
          have hk0 : (0 : Int) ≤ k := by omega
          have hk1 : (k : Int) < (m : Int) := by omega
          have hst : Hid ((L.take (k + 1)).map emB = (L.take k).map emB ++ [emB (L[k])]) := by show _ = _; rw [List.take_succ_eq_append_getElem hkl, List.map_append]; rfl
          obtain ⟨x, hx⟩ : ∃ x, L[k] = x := ⟨_, rfl⟩
          rw [hx] at hst
          obtain ⟨e0, e1⟩ := (show wr.cell? ⟨gl, k * 2, none⟩ = some (Value.int .i64 x.view) ∧ wr.cell? ⟨gl, k * 2 + 1, none⟩ = some (Value.slice x.A x.n x.c) from by
            have hk := hoL.out.kept hb.out
            refine ⟨?_, ?_⟩
            · have := hk.cellAt hLl.out.symm (k := k) hkl (j := 0) (by decide); rw [hx] at this; exact this
            · have := hk.cellAt hLl.out.symm (k := k) hkl (j := 1) (by decide); rw [hx] at this; exact this)
          clear hx
          obtain ⟨xv, xA, xn, xc, xd⟩ := x
          (try simp only at e0 e1)
          have hRX := Lib.hid ((hR.out.alloc (.cells #[Value.int .i64 xv, Value.slice xA xn xc] 59)).alloc (.cells #[Value.slice xA xn xc] 25))
          have hbX : Hid (Below w3.heap.size w3 ((wr.alloc (.cells #[Value.int .i64 xv, Value.slice xA xn xc] 59)).alloc (.cells #[Value.slice xA xn xc] 25))) := (hb.out.alloc hb.out.size _).alloc (Nat.le_trans hb.out.size (by simp)) _
          have hy := Lib.hid (Blk.new wr 59 #[Value.int .i64 xv, Value.slice xA xn xc])
          have hrd : Hid (Reads ((wr.alloc (.cells #[Value.int .i64 xv, Value.slice xA xn xc] 59)).alloc (.cells #[Value.slice xA xn xc] 25)) ((wr.alloc (.cells #[Value.int .i64 xv, Value.slice xA xn xc] 59)).alloc (.cells #[Value.slice xA xn xc] 25)).heap.size 1 (some ⟨wr.heap.size + 1, 0, none⟩) 1 (flat sC [emB ⟨xv, xA, xn, xc, xd⟩])) := by
            have h8 := Blk.new (wr.alloc (.cells #[Value.int .i64 xv, Value.slice xA xn xc] 59)) 25 #[Value.slice xA xn xc]
            rw [show (wr.alloc (.cells #[Value.int .i64 xv, Value.slice xA xn xc] 59)).heap.size = wr.heap.size + 1 by simp] at h8
            exact (lat_blk sC_len h8 [emB ⟨xv, xA, xn, xc, xd⟩] 1 rfl (by simp [flat, sC, emB])).2
          have hlk : Hid (k = ((L.take k).map emB).length) := by show _ = _; rw [List.length_map, List.length_take]; omega
          obtain ⟨y0, y1⟩ := cells2 ((wr.alloc (.cells #[Value.int .i64 xv, Value.slice xA xn xc] 59))) (wr.heap.size) (Value.int .i64 xv) (Value.slice xA xn xc) (hy.out)
          clear hR hb hy
          go_wp2_with (at_builtin; refine wpList_append_in _ rfl (.tmp 37) (.tmp 40) _ rfl w3.heap.size 25 i25 1 Try.underlying36 hi25.out hz251.out w3.heap.size k m rfl hRX.out hlk.out _ (some ⟨wr.heap.size + 1, 0, none⟩) 1 1 rfl hrd.out rfl (sC_one _) (by omega) ?_
                       intro w1 hown1 hg1
                       have hR1 : Hid (LOwn sC 1 25 w1 w3.heap.size (.slice (some ⟨w3.heap.size, 0, none⟩) (k + 1) m) ((L.take (k + 1)).map emB)) := by rw [hst.out]; exact hown1
                       have hb1 : Hid (Below w3.heap.size w3 w1) := hbX.out.grown hg1 hbX.out.size (fun g8 e8 => by injection e8 with e8; omega)
                       clear hown1 hg1)
          go_roundw
          case rel => exact ⟨k + 1, by omega, by go_num, by go_num, hR1.out, hb1.out⟩
          case measure => simp [intOf]; omega
        · obtain rfl : k = m := by omega
          have htk : L.take k = L := List.take_of_length_le (by have := hLl.out; omega)
          rw [htk] at hR
          clear htk
          have hbw : Hid (Below w.heap.size w wr) := hb3.out.trans (hb.out.mono hb3.out.size)
          have hgs : Hid (w.heap.size ≤ w3.heap.size) := hb3.out.size
          have hdL : Hid ((L.map emB).map (·.d) = r) := by
            show _ = _
            rw [hF.out, List.map_map]
            have h1 : L.map (·.d) = (L.map Em.val).map (·.d) := by rw [List.map_map]; rfl
            have h2 : ((yl.take k).map Em.val).map (fun e : En => e.d) = (yl.take k).map (·.d) := by rw [List.map_map]; rfl
            show L.map (·.d) = _
            rw [h1, hvL.out, h2]
          go_wp2_with fail
          go_ret
          refine ⟨⟨_, _, _, L.map emB, rfl, hR.out.reads (by rw [List.length_map]; exact hLl.out.symm), ⟨Nat.le_refl _, by simp only [maxLen]; omega⟩, fun _ ad e => by injection e with e; subst e; exact hgs.out, fun b hbm => ?_, hdL.out⟩, hbw.out⟩
          obtain ⟨e, he, rfl⟩ := List.mem_map.1 hbm
          exact (BsQ.of_em ((heL.out e he).more hb.out)).imp (fun b hb => Nat.le_trans hw23.out hb.1)
theorem committed_any (k : Cm) (m : Nat) (w : World) {Q : Nat → Prop} (h : CmAt w Q k) (hs : CmSm2 k) (hm : k.commit = (m : Int)) (hmb : m ≤ (bestLog k.val).length) :
    Calls Try.prog 17 #[clV k] w fun e w' => ComRes w w' (committedC k.val) e ∧ Below w.heap.size w w' :=
  committed_any0 k m w h ⟨hs.1, Nat.le_trans hs.2.1 (by decide), fun s h => ⟨(hs.2.2 s h).1, Nat.le_trans (hs.2.2 s h).2 (by decide)⟩⟩ hm hmb
end Go.Proofs.Ytiapeenfggjpnaa
