/- Replicated servers: long and call, walked. -/
import Derived.Test.YtiapeenfggjpnaaPR
set_option linter.unusedVariables false
set_option linter.unusedSimpArgs false
namespace Go.Proofs.Ytiapeenfggjpnaa
open Go.RowKit
theorem ox_cells {w : World} {B n k : Nat} {A : Option Addr} {L : List Ox} (h : LAt oC 3 w B A n L) (hk : k < n) :
    ∃ ad, A = some ad ∧ ad.block < B ∧ w.cell? (ad.add (k * 3)) = some (Value.int .i64 (L[k]'(by rw [h.len]; exact hk)).kind) ∧ w.cell? ⟨(ad.add (k * 3)).block, (ad.add (k * 3)).off + 1, none⟩ = some (Value.int .i64 (L[k]'(by rw [h.len]; exact hk)).num) ∧ w.cell? ⟨(ad.add (k * 3)).block, (ad.add (k * 3)).off + 2, none⟩ = some (Value.slice (L[k]'(by rw [h.len]; exact hk)).A (L[k]'(by rw [h.len]; exact hk)).n (L[k]'(by rw [h.len]; exact hk)).c) := by
  obtain ⟨ad, rfl, hb, hc⟩ := h.at_ hk
  have f := fun j u hj => (add_next ad (k * 3) j) ▸ hc (j + 1) u hj
  exact ⟨ad, rfl, hb, hc 0 _ rfl, f 0 _ rfl, f 1 _ rfl⟩
def LongRes (n : Nat) (e : Ending) : Prop := ∃ b, e = .returned (.bool b) ∧ (b = false → n ≤ 120)
set_option maxRecDepth 100000 in
set_option maxHeartbeats 8000000 in
theorem long_any (A : Option Addr) (n c : Nat) (ops : List Ox) (w : World) (h : LAt oC 3 w w.heap.size A n ops) :
    Calls Try.prog 20 #[.slice A n c] w fun e w' => LongRes n e ∧ Below w.heap.size w w' := by
  have hn := Lib.hid h.len
  replace h := Lib.hid h
  go_enter Try.func20, Try.ntmps20
  go_wp2_with fail
  go_loopw [7, 3] (fun i v wr => ∃ (k : Nat) (m : Int), k ≤ n ∧ k ≤ 120 ∧ i = .int .i64 k ∧ v = .int .i64 m ∧ Hid (Below w.heap.size w wr)) (fun i _ _ => n - (intOf i).toNat)
  case atStart => exact ⟨0, 0, Nat.zero_le _, by omega, rfl, rfl, Below.refl _ _⟩
  case round =>
    obtain ⟨k, m, hkn, hk4, rfl, rfl, hb⟩ := hrel
    by_cases hlt : k < n
    · have hkl : k < ops.length := by have := hn.out; omega
      have hk0 : (0 : Int) ≤ k := by omega
      have hk1 : (k : Int) < n := by omega
      obtain ⟨ad, hA, hbl, -, -, e1⟩ := ox_cells (h.out.below hb.out (Nat.le_refl _)) hlt
      generalize hon : (ops[k]).n = on at e1
      replace hon := Lib.hid hon
      obtain ⟨m', hwr⟩ : ∃ m', IntKind.i64.wrap (m + (on : Int)) = m' := ⟨_, rfl⟩
      subst hA
      by_cases q1 : 120 ≤ k
      · have q1i : (120 : Int) ≤ (k : Int) := by omega
        have q1d : decide ((120 : Int) ≤ (k : Int)) = true := by simp; omega
        go_wp2_with fail
        go_ret
        exact ⟨⟨true, rfl, fun h8 => by cases h8⟩, hb.out⟩
      · have q1i : ¬ (120 : Int) ≤ (k : Int) := by omega
        have q1d : decide ((120 : Int) ≤ (k : Int)) = false := by simp; omega
        by_cases q2 : 65536 < m'
        · have q2d : decide (65536 < m') = true := by simpa using q2
          go_wp2_with fail
          go_ret
          exact ⟨⟨true, rfl, fun h8 => by cases h8⟩, hb.out⟩
        · have q2d : decide (65536 < m') = false := by simpa using q2
          go_wp2_with fail
          go_roundw
          case rel => exact ⟨k + 1, m', by omega, by omega, by go_num, by go_num, hb.out⟩
          case measure => simp [intOf]; omega
    · go_wp2_with fail
      go_ret
      exact ⟨⟨false, rfl, fun _ => by omega⟩, hb.out⟩
set_option maxRecDepth 100000 in
set_option maxHeartbeats 8000000 in
theorem call_any (k : Cm) (x : Ox) (w : World) {Q : Nat → Prop} (h : CmAt w Q k) (hs : CmSm2 k) (hx : OxAt w x) (hp1 : k.primary < k.n) (hv : 1 ≤ k.view ∧ k.view ≤ 2147483647) (hpu : ∀ p, primOf k.val = some p → p.up = true) :
    Calls Try.prog 13 #[clV k, .agg #[Value.int .i64 x.kind, Value.int .i64 x.num, Value.slice x.A x.n x.c]] w fun e w' => ResS Q w w' (callC k.val x.val) e ∧ Below w.heap.size w w' := by
  obtain ⟨primary, view, commit, A, n, c, sl⟩ := k
  obtain ⟨kind, num, oA, on, oc, od⟩ := x
  obtain rfl : od.length = on := hx.1.1.len
  have hs2 := Lib.hid hs
  have hs1 := Lib.hid (sm2_sm hs)
  replace hv := Lib.hid hv
  replace hp1 := Lib.hid hp1
  replace hpu := Lib.hid hpu
  clear hs
  simp only [clV, Ox.val] at *
  obtain ⟨r, hr⟩ : ∃ r, r = callC (Cm.val (⟨primary, view, commit, A, n, c, sl⟩ : Cm)) (⟨kind, num, od⟩ : Oc) := ⟨_, rfl⟩
  rw [← hr]
  replace hr := Lib.hid hr
  have hb1 : Hid (Below w.heap.size w (((w.alloc (.cells #[Value.int .i64 primary, Value.int .i64 view, Value.int .i64 commit, Value.slice A n c] 24)).alloc (.cells #[Value.int .i64 kind, Value.int .i64 num, Value.slice oA od.length oc] 27)).alloc (.cells #[Value.int .i64 0, Value.int .i64 0, Value.int .i64 0, Value.slice none 0 0] 24))) := ((a1 w _).alloc (by simp) _).alloc (by simp; omega) _
  have hh := Lib.hid (h.lt.more hb1.out)
  have hda : Hid (BAt (((w.alloc (.cells #[Value.int .i64 primary, Value.int .i64 view, Value.int .i64 commit, Value.slice A n c] 24)).alloc (.cells #[Value.int .i64 kind, Value.int .i64 num, Value.slice oA od.length oc] 27)).alloc (.cells #[Value.int .i64 0, Value.int .i64 0, Value.int .i64 0, Value.slice none 0 0] 24)) (((w.alloc (.cells #[Value.int .i64 primary, Value.int .i64 view, Value.int .i64 commit, Value.slice A n c] 24)).alloc (.cells #[Value.int .i64 kind, Value.int .i64 num, Value.slice oA od.length oc] 27)).alloc (.cells #[Value.int .i64 0, Value.int .i64 0, Value.int .i64 0, Value.slice none 0 0] 24)).heap.size oA od.length od) := hx.1.1.more hb1.out
  have hin := Lib.hid h
  clear h hx
  have hX1 := Lib.hid (((Blk.new w 24 #[Value.int .i64 primary, Value.int .i64 view, Value.int .i64 commit, Value.slice A n c]).alloc (.cells #[Value.int .i64 kind, Value.int .i64 num, Value.slice oA od.length oc] 27)).alloc (.cells #[Value.int .i64 0, Value.int .i64 0, Value.int .i64 0, Value.slice none 0 0] 24))
  have hO1 := Lib.hid ((Blk.new (w.alloc (.cells #[Value.int .i64 primary, Value.int .i64 view, Value.int .i64 commit, Value.slice A n c] 24)) 27 #[Value.int .i64 kind, Value.int .i64 num, Value.slice oA od.length oc]).alloc (.cells #[Value.int .i64 0, Value.int .i64 0, Value.int .i64 0, Value.slice none 0 0] 24))
  have hZ1 := Lib.hid (Blk.new ((w.alloc (.cells #[Value.int .i64 primary, Value.int .i64 view, Value.int .i64 commit, Value.slice A n c] 24)).alloc (.cells #[Value.int .i64 kind, Value.int .i64 num, Value.slice oA od.length oc] 27)) 24 #[Value.int .i64 0, Value.int .i64 0, Value.int .i64 0, Value.slice none 0 0])
  rw [show (w.alloc (.cells #[Value.int .i64 primary, Value.int .i64 view, Value.int .i64 commit, Value.slice A n c] 24)).heap.size = w.heap.size + 1 by simp] at hO1
  rw [show ((w.alloc (.cells #[Value.int .i64 primary, Value.int .i64 view, Value.int .i64 commit, Value.slice A n c] 24)).alloc (.cells #[Value.int .i64 kind, Value.int .i64 num, Value.slice oA od.length oc] 27)).heap.size = w.heap.size + 1 + 1 by simp] at hZ1
  obtain ⟨k0, k1, k2, k3⟩ := cells4 ((((w.alloc (.cells #[Value.int .i64 primary, Value.int .i64 view, Value.int .i64 commit, Value.slice A n c] 24)).alloc (.cells #[Value.int .i64 kind, Value.int .i64 num, Value.slice oA od.length oc] 27)).alloc (.cells #[Value.int .i64 0, Value.int .i64 0, Value.int .i64 0, Value.slice none 0 0] 24))) (w.heap.size) (Value.int .i64 primary) (Value.int .i64 view) (Value.int .i64 commit) (Value.slice A n c) (hX1.out)
  obtain ⟨o0, o1, o2⟩ := cells3 ((((w.alloc (.cells #[Value.int .i64 primary, Value.int .i64 view, Value.int .i64 commit, Value.slice A n c] 24)).alloc (.cells #[Value.int .i64 kind, Value.int .i64 num, Value.slice oA od.length oc] 27)).alloc (.cells #[Value.int .i64 0, Value.int .i64 0, Value.int .i64 0, Value.slice none 0 0] 24))) ((w.heap.size + 1)) (Value.int .i64 kind) (Value.int .i64 num) (Value.slice oA od.length oc) (hO1.out)
  clear hO1
  by_cases q1 : kind = 1
  · subst q1
    have hF : Hid (r = submitC (Cm.val (⟨primary, view, commit, A, n, c, sl⟩ : Cm)) od num) := by show _ = _; rw [hr.out]; rfl
    clear hr
    go_enter Try.func13, Try.ntmps13
    go_wp2_with fail
    clear k0 k1 k2 k3 o0 o1 o2
    generalize (((w.alloc (.cells #[Value.int .i64 primary, Value.int .i64 view, Value.int .i64 commit, Value.slice A n c] 24)).alloc (.cells #[Value.int .i64 1, Value.int .i64 num, Value.slice oA od.length oc] 27)).alloc (.cells #[Value.int .i64 0, Value.int .i64 0, Value.int .i64 0, Value.slice none 0 0] 24)) = w1 at *
    refine (submit_any (⟨primary, view, commit, A, n, c, sl⟩ : Cm) oA oc od num w1 hh.out hs2.out hp1.out hda.out).mono ?_; rintro e w2 ⟨⟨⟨p9, v9, m9, A9, n9, c9, l9⟩, rfl, hk', hv'⟩, hq⟩
    simp only [clV]
    have hv2 := Lib.hid hv'
    clear hv'
    have hsz : w.heap.size + 1 + 1 < w1.heap.size := hZ1.out.lt
    have hk2 : CmAt w2 (fun b => (Q b ∨ w.heap.size ≤ b) ∧ b ≠ w.heap.size ∧ b ≠ (w.heap.size + 1 + 1)) (⟨p9, v9, m9, A9, n9, c9, l9⟩ : Cm) := hk'.imp (fun b hb => hb.elim (fun h => ⟨.inl h.1, by have := h.2; omega, by have := h.2; omega⟩) (fun h => ⟨.inr (by omega), by omega, by omega⟩))
    have hX2 := Lib.hid (hX1.out.below hq hX1.out.lt)
    have hZ2 := Lib.hid (hZ1.out.below hq hZ1.out.lt)
    have hb2 : Hid (Below w.heap.size w w2) := hb1.out.trans (hq.mono hb1.out.size)
    have hgr := grown_set4 w2 w.heap.size (Value.int .i64 p9) (Value.int .i64 v9) (Value.int .i64 m9) (Value.slice A9 n9 c9)
    have hX3 := Lib.hid (cl_set4 hX2.out (Value.int .i64 p9) (Value.int .i64 v9) (Value.int .i64 m9) (Value.slice A9 n9 c9))
    have hZ3 := Lib.hid (hZ2.out.grown hgr (by intro e; injection e with e; omega))
    have hb3 := Lib.hid (below_set4 hb2.out (Nat.le_refl _) (Value.int .i64 p9) (Value.int .i64 v9) (Value.int .i64 m9) (Value.slice A9 n9 c9))
    have hk3 := Lib.hid (hk2.st hgr (fun b hb e => by injection e with e; exact hb.2.1 e))
    clear hk' hk2 hq hX1 hZ1 hb1
    obtain ⟨k0, k1, k2, k3, z0, z1, z2, z3⟩ := cells4z (w2) (w.heap.size) (Value.int .i64 primary) (Value.int .i64 view) (Value.int .i64 commit) (Value.slice A n c) (hX2.out)
    obtain ⟨m0, m1, m2, m3⟩ := cells4 (((((w2.setCell ⟨w.heap.size, 0, none⟩ (Value.int .i64 p9)).setCell ⟨w.heap.size, 1, none⟩ (Value.int .i64 v9)).setCell ⟨w.heap.size, 2, none⟩ (Value.int .i64 m9)).setCell ⟨w.heap.size, 3, none⟩ (Value.slice A9 n9 c9))) (w.heap.size) (Value.int .i64 p9) (Value.int .i64 v9) (Value.int .i64 m9) (Value.slice A9 n9 c9) (hX3.out)
    obtain ⟨u0, u1, u2, u3, y0, y1, y2, y3⟩ := cells4z (((((w2.setCell ⟨w.heap.size, 0, none⟩ (Value.int .i64 p9)).setCell ⟨w.heap.size, 1, none⟩ (Value.int .i64 v9)).setCell ⟨w.heap.size, 2, none⟩ (Value.int .i64 m9)).setCell ⟨w.heap.size, 3, none⟩ (Value.slice A9 n9 c9))) ((w.heap.size + 1 + 1)) (Value.int .i64 0) (Value.int .i64 0) (Value.int .i64 0) (Value.slice none 0 0) (hZ3.out)
    clear hX2 hZ2 hb2 hgr
    obtain ⟨a9, ha9⟩ : ∃ a, a = (submitC (Cm.val (⟨primary, view, commit, A, n, c, sl⟩ : Cm)) od num).2.1 := ⟨_, rfl⟩
    obtain ⟨e9, he9⟩ : ∃ e, e = (submitC (Cm.val (⟨primary, view, commit, A, n, c, sl⟩ : Cm)) od num).2.2 := ⟨_, rfl⟩
    rw [← ha9, ← he9]
    replace ha9 := Lib.hid ha9
    replace he9 := Lib.hid he9
    go_wp2_with fail
    clear k0 k1 k2 k3 z0 z1 z2 z3 m0 m1 m2 m3 u0 u1 u2 u3 y0 y1 y2 y3
    have hB := cl_set4 hZ3.out (Value.int .i64 p9) (Value.int .i64 v9) (Value.int .i64 m9) (Value.slice A9 n9 c9)
    have hbF := below_set4 hb3.out (show w.heap.size ≤ (w.heap.size + 1 + 1) by omega) (Value.int .i64 p9) (Value.int .i64 v9) (Value.int .i64 m9) (Value.slice A9 n9 c9)
    have hgF := grown_set4 ((((w2.setCell ⟨w.heap.size, 0, none⟩ (Value.int .i64 p9)).setCell ⟨w.heap.size, 1, none⟩ (Value.int .i64 v9)).setCell ⟨w.heap.size, 2, none⟩ (Value.int .i64 m9)).setCell ⟨w.heap.size, 3, none⟩ (Value.slice A9 n9 c9)) (w.heap.size + 1 + 1) (Value.int .i64 p9) (Value.int .i64 v9) (Value.int .i64 m9) (Value.slice A9 n9 c9)
    (try simp only [Exit.inBlock, Exit.then])
    refine bodyPost_ret (v := .tuple #[.agg #[Value.int .i64 p9, Value.int .i64 v9, Value.int .i64 m9, Value.slice A9 n9 c9], Value.int .i64 a9, Value.int .i64 e9]) ?_ rfl ?_
    · refine (res3 (fn := Try.f13) (p := 4) (u := 5) (v := 6) (ty := 24) rfl _ _ (w.heap.size + 1 + 1) 24 _ (0, 0) _ ?_ hB Try.underlying24 rfl (by kernel_rfl)).trans ?_
      · rfl
      · rfl
    clear hB
    have hk4 := hk3.out.st hgF (fun b hb e => by injection e with e; exact hb.2.2 e)
    exact ⟨⟨(⟨p9, v9, m9, A9, n9, c9, l9⟩ : Cm), by rw [hF.out, ← ha9.out, ← he9.out]; rfl, hk4.imp (fun b hb => hb.1), by rw [hF.out]; exact hv2.out⟩, hbF⟩
  have q1d : (kind == 1) = false := by simpa using q1
  by_cases q2 : kind = 2
  · subst q2
    have hF : Hid (r = ((crashC (Cm.val (⟨primary, view, commit, A, n, c, sl⟩ : Cm)) num).1, 0, (crashC (Cm.val (⟨primary, view, commit, A, n, c, sl⟩ : Cm)) num).2)) := by show _ = _; rw [hr.out]; rfl
    clear hr
    go_enter Try.func13, Try.ntmps13
    go_wp2_with fail
    clear k0 k1 k2 k3 o0 o1 o2
    generalize (((w.alloc (.cells #[Value.int .i64 primary, Value.int .i64 view, Value.int .i64 commit, Value.slice A n c] 24)).alloc (.cells #[Value.int .i64 2, Value.int .i64 num, Value.slice oA od.length oc] 27)).alloc (.cells #[Value.int .i64 0, Value.int .i64 0, Value.int .i64 0, Value.slice none 0 0] 24)) = w1 at *
    refine (crash_any (⟨primary, view, commit, A, n, c, sl⟩ : Cm) num w1 hh.out hs1.out).mono ?_; rintro e w2 ⟨⟨⟨p9, v9, m9, A9, n9, c9, l9⟩, rfl, hk', hv'⟩, hq⟩
    simp only [clV]
    have hv2 := Lib.hid hv'
    clear hv'
    have hsz : w.heap.size + 1 + 1 < w1.heap.size := hZ1.out.lt
    have hk2 : CmAt w2 (fun b => (Q b ∨ w.heap.size ≤ b) ∧ b ≠ w.heap.size ∧ b ≠ (w.heap.size + 1 + 1)) (⟨p9, v9, m9, A9, n9, c9, l9⟩ : Cm) := hk'.imp (fun b hb => hb.elim (fun h => ⟨.inl h.1, by have := h.2; omega, by have := h.2; omega⟩) (fun h => ⟨.inr (by omega), by omega, by omega⟩))
    have hX2 := Lib.hid (hX1.out.below hq hX1.out.lt)
    have hZ2 := Lib.hid (hZ1.out.below hq hZ1.out.lt)
    have hb2 : Hid (Below w.heap.size w w2) := hb1.out.trans (hq.mono hb1.out.size)
    have hgr := grown_set4 w2 w.heap.size (Value.int .i64 p9) (Value.int .i64 v9) (Value.int .i64 m9) (Value.slice A9 n9 c9)
    have hX3 := Lib.hid (cl_set4 hX2.out (Value.int .i64 p9) (Value.int .i64 v9) (Value.int .i64 m9) (Value.slice A9 n9 c9))
    have hZ3 := Lib.hid (hZ2.out.grown hgr (by intro e; injection e with e; omega))
    have hb3 := Lib.hid (below_set4 hb2.out (Nat.le_refl _) (Value.int .i64 p9) (Value.int .i64 v9) (Value.int .i64 m9) (Value.slice A9 n9 c9))
    have hk3 := Lib.hid (hk2.st hgr (fun b hb e => by injection e with e; exact hb.2.1 e))
    clear hk' hk2 hq hX1 hZ1 hb1
    obtain ⟨k0, k1, k2, k3, z0, z1, z2, z3⟩ := cells4z (w2) (w.heap.size) (Value.int .i64 primary) (Value.int .i64 view) (Value.int .i64 commit) (Value.slice A n c) (hX2.out)
    obtain ⟨m0, m1, m2, m3⟩ := cells4 (((((w2.setCell ⟨w.heap.size, 0, none⟩ (Value.int .i64 p9)).setCell ⟨w.heap.size, 1, none⟩ (Value.int .i64 v9)).setCell ⟨w.heap.size, 2, none⟩ (Value.int .i64 m9)).setCell ⟨w.heap.size, 3, none⟩ (Value.slice A9 n9 c9))) (w.heap.size) (Value.int .i64 p9) (Value.int .i64 v9) (Value.int .i64 m9) (Value.slice A9 n9 c9) (hX3.out)
    obtain ⟨u0, u1, u2, u3, y0, y1, y2, y3⟩ := cells4z (((((w2.setCell ⟨w.heap.size, 0, none⟩ (Value.int .i64 p9)).setCell ⟨w.heap.size, 1, none⟩ (Value.int .i64 v9)).setCell ⟨w.heap.size, 2, none⟩ (Value.int .i64 m9)).setCell ⟨w.heap.size, 3, none⟩ (Value.slice A9 n9 c9))) ((w.heap.size + 1 + 1)) (Value.int .i64 0) (Value.int .i64 0) (Value.int .i64 0) (Value.slice none 0 0) (hZ3.out)
    clear hX2 hZ2 hb2 hgr
    obtain ⟨e9, he9⟩ : ∃ e, e = (crashC (Cm.val (⟨primary, view, commit, A, n, c, sl⟩ : Cm)) num).2 := ⟨_, rfl⟩
    rw [← he9]
    replace he9 := Lib.hid he9
    go_wp2_with fail
    clear k0 k1 k2 k3 z0 z1 z2 z3 m0 m1 m2 m3 u0 u1 u2 u3 y0 y1 y2 y3
    have hB := cl_set4 hZ3.out (Value.int .i64 p9) (Value.int .i64 v9) (Value.int .i64 m9) (Value.slice A9 n9 c9)
    have hbF := below_set4 hb3.out (show w.heap.size ≤ (w.heap.size + 1 + 1) by omega) (Value.int .i64 p9) (Value.int .i64 v9) (Value.int .i64 m9) (Value.slice A9 n9 c9)
    have hgF := grown_set4 ((((w2.setCell ⟨w.heap.size, 0, none⟩ (Value.int .i64 p9)).setCell ⟨w.heap.size, 1, none⟩ (Value.int .i64 v9)).setCell ⟨w.heap.size, 2, none⟩ (Value.int .i64 m9)).setCell ⟨w.heap.size, 3, none⟩ (Value.slice A9 n9 c9)) (w.heap.size + 1 + 1) (Value.int .i64 p9) (Value.int .i64 v9) (Value.int .i64 m9) (Value.slice A9 n9 c9)
    (try simp only [Exit.inBlock, Exit.then])
    refine bodyPost_ret (v := .tuple #[.agg #[Value.int .i64 p9, Value.int .i64 v9, Value.int .i64 m9, Value.slice A9 n9 c9], Value.int .i64 0, Value.int .i64 e9]) ?_ rfl ?_
    · refine (res3 (fn := Try.f13) (p := 4) (u := 5) (v := 6) (ty := 24) rfl _ _ (w.heap.size + 1 + 1) 24 _ (0, 0) _ ?_ hB Try.underlying24 rfl (by kernel_rfl)).trans ?_
      · rfl
      · rfl
    clear hB
    have hk4 := hk3.out.st hgF (fun b hb e => by injection e with e; exact hb.2.2 e)
    exact ⟨⟨(⟨p9, v9, m9, A9, n9, c9, l9⟩ : Cm), by rw [hF.out, ← he9.out]; rfl, hk4.imp (fun b hb => hb.1), by rw [hF.out]; exact hv2.out⟩, hbF⟩
  have q2d : (kind == 2) = false := by simpa using q2
  by_cases q3 : kind = 3
  · subst q3
    have hF : Hid (r = ((restartC (Cm.val (⟨primary, view, commit, A, n, c, sl⟩ : Cm)) num).1, 0, (restartC (Cm.val (⟨primary, view, commit, A, n, c, sl⟩ : Cm)) num).2)) := by show _ = _; rw [hr.out]; rfl
    clear hr
    go_enter Try.func13, Try.ntmps13
    go_wp2_with fail
    clear k0 k1 k2 k3 o0 o1 o2
    generalize (((w.alloc (.cells #[Value.int .i64 primary, Value.int .i64 view, Value.int .i64 commit, Value.slice A n c] 24)).alloc (.cells #[Value.int .i64 3, Value.int .i64 num, Value.slice oA od.length oc] 27)).alloc (.cells #[Value.int .i64 0, Value.int .i64 0, Value.int .i64 0, Value.slice none 0 0] 24)) = w1 at *
    refine (restart_any (⟨primary, view, commit, A, n, c, sl⟩ : Cm) num w1 hh.out hs1.out).mono ?_; rintro e w2 ⟨⟨⟨p9, v9, m9, A9, n9, c9, l9⟩, rfl, hk', hv'⟩, hq⟩
    simp only [clV]
    have hv2 := Lib.hid hv'
    clear hv'
    have hsz : w.heap.size + 1 + 1 < w1.heap.size := hZ1.out.lt
    have hk2 : CmAt w2 (fun b => (Q b ∨ w.heap.size ≤ b) ∧ b ≠ w.heap.size ∧ b ≠ (w.heap.size + 1 + 1)) (⟨p9, v9, m9, A9, n9, c9, l9⟩ : Cm) := hk'.imp (fun b hb => hb.elim (fun h => ⟨.inl h.1, by have := h.2; omega, by have := h.2; omega⟩) (fun h => ⟨.inr (by omega), by omega, by omega⟩))
    have hX2 := Lib.hid (hX1.out.below hq hX1.out.lt)
    have hZ2 := Lib.hid (hZ1.out.below hq hZ1.out.lt)
    have hb2 : Hid (Below w.heap.size w w2) := hb1.out.trans (hq.mono hb1.out.size)
    have hgr := grown_set4 w2 w.heap.size (Value.int .i64 p9) (Value.int .i64 v9) (Value.int .i64 m9) (Value.slice A9 n9 c9)
    have hX3 := Lib.hid (cl_set4 hX2.out (Value.int .i64 p9) (Value.int .i64 v9) (Value.int .i64 m9) (Value.slice A9 n9 c9))
    have hZ3 := Lib.hid (hZ2.out.grown hgr (by intro e; injection e with e; omega))
    have hb3 := Lib.hid (below_set4 hb2.out (Nat.le_refl _) (Value.int .i64 p9) (Value.int .i64 v9) (Value.int .i64 m9) (Value.slice A9 n9 c9))
    have hk3 := Lib.hid (hk2.st hgr (fun b hb e => by injection e with e; exact hb.2.1 e))
    clear hk' hk2 hq hX1 hZ1 hb1
    obtain ⟨k0, k1, k2, k3, z0, z1, z2, z3⟩ := cells4z (w2) (w.heap.size) (Value.int .i64 primary) (Value.int .i64 view) (Value.int .i64 commit) (Value.slice A n c) (hX2.out)
    obtain ⟨m0, m1, m2, m3⟩ := cells4 (((((w2.setCell ⟨w.heap.size, 0, none⟩ (Value.int .i64 p9)).setCell ⟨w.heap.size, 1, none⟩ (Value.int .i64 v9)).setCell ⟨w.heap.size, 2, none⟩ (Value.int .i64 m9)).setCell ⟨w.heap.size, 3, none⟩ (Value.slice A9 n9 c9))) (w.heap.size) (Value.int .i64 p9) (Value.int .i64 v9) (Value.int .i64 m9) (Value.slice A9 n9 c9) (hX3.out)
    obtain ⟨u0, u1, u2, u3, y0, y1, y2, y3⟩ := cells4z (((((w2.setCell ⟨w.heap.size, 0, none⟩ (Value.int .i64 p9)).setCell ⟨w.heap.size, 1, none⟩ (Value.int .i64 v9)).setCell ⟨w.heap.size, 2, none⟩ (Value.int .i64 m9)).setCell ⟨w.heap.size, 3, none⟩ (Value.slice A9 n9 c9))) ((w.heap.size + 1 + 1)) (Value.int .i64 0) (Value.int .i64 0) (Value.int .i64 0) (Value.slice none 0 0) (hZ3.out)
    clear hX2 hZ2 hb2 hgr
    obtain ⟨e9, he9⟩ : ∃ e, e = (restartC (Cm.val (⟨primary, view, commit, A, n, c, sl⟩ : Cm)) num).2 := ⟨_, rfl⟩
    rw [← he9]
    replace he9 := Lib.hid he9
    go_wp2_with fail
    clear k0 k1 k2 k3 z0 z1 z2 z3 m0 m1 m2 m3 u0 u1 u2 u3 y0 y1 y2 y3
    have hB := cl_set4 hZ3.out (Value.int .i64 p9) (Value.int .i64 v9) (Value.int .i64 m9) (Value.slice A9 n9 c9)
    have hbF := below_set4 hb3.out (show w.heap.size ≤ (w.heap.size + 1 + 1) by omega) (Value.int .i64 p9) (Value.int .i64 v9) (Value.int .i64 m9) (Value.slice A9 n9 c9)
    have hgF := grown_set4 ((((w2.setCell ⟨w.heap.size, 0, none⟩ (Value.int .i64 p9)).setCell ⟨w.heap.size, 1, none⟩ (Value.int .i64 v9)).setCell ⟨w.heap.size, 2, none⟩ (Value.int .i64 m9)).setCell ⟨w.heap.size, 3, none⟩ (Value.slice A9 n9 c9)) (w.heap.size + 1 + 1) (Value.int .i64 p9) (Value.int .i64 v9) (Value.int .i64 m9) (Value.slice A9 n9 c9)
    (try simp only [Exit.inBlock, Exit.then])
    refine bodyPost_ret (v := .tuple #[.agg #[Value.int .i64 p9, Value.int .i64 v9, Value.int .i64 m9, Value.slice A9 n9 c9], Value.int .i64 0, Value.int .i64 e9]) ?_ rfl ?_
    · refine (res3 (fn := Try.f13) (p := 4) (u := 5) (v := 6) (ty := 24) rfl _ _ (w.heap.size + 1 + 1) 24 _ (0, 0) _ ?_ hB Try.underlying24 rfl (by kernel_rfl)).trans ?_
      · rfl
      · rfl
    clear hB
    have hk4 := hk3.out.st hgF (fun b hb e => by injection e with e; exact hb.2.2 e)
    exact ⟨⟨(⟨p9, v9, m9, A9, n9, c9, l9⟩ : Cm), by rw [hF.out, ← he9.out]; rfl, hk4.imp (fun b hb => hb.1), by rw [hF.out]; exact hv2.out⟩, hbF⟩
  have q3d : (kind == 3) = false := by simpa using q3
  by_cases q4 : kind = 4
  · subst q4
    have hF : Hid (r = (tickC (Cm.val (⟨primary, view, commit, A, n, c, sl⟩ : Cm)), 0, 0)) := by show _ = _; rw [hr.out]; rfl
    clear hr
    go_enter Try.func13, Try.ntmps13
    go_wp2_with fail
    clear k0 k1 k2 k3 o0 o1 o2
    generalize (((w.alloc (.cells #[Value.int .i64 primary, Value.int .i64 view, Value.int .i64 commit, Value.slice A n c] 24)).alloc (.cells #[Value.int .i64 4, Value.int .i64 num, Value.slice oA od.length oc] 27)).alloc (.cells #[Value.int .i64 0, Value.int .i64 0, Value.int .i64 0, Value.slice none 0 0] 24)) = w1 at *
    refine (tick_any (⟨primary, view, commit, A, n, c, sl⟩ : Cm) w1 hh.out hs2.out hp1.out hv.out hpu.out).mono ?_; rintro e w2 ⟨⟨⟨p9, v9, m9, A9, n9, c9, l9⟩, rfl, hk', hv'⟩, hq⟩
    simp only [clV]
    have hv2 := Lib.hid hv'
    clear hv'
    have hsz : w.heap.size + 1 + 1 < w1.heap.size := hZ1.out.lt
    have hk2 : CmAt w2 (fun b => (Q b ∨ w.heap.size ≤ b) ∧ b ≠ w.heap.size ∧ b ≠ (w.heap.size + 1 + 1)) (⟨p9, v9, m9, A9, n9, c9, l9⟩ : Cm) := hk'.imp (fun b hb => hb.elim (fun h => ⟨.inl h.1, by have := h.2; omega, by have := h.2; omega⟩) (fun h => ⟨.inr (by omega), by omega, by omega⟩))
    have hX2 := Lib.hid (hX1.out.below hq hX1.out.lt)
    have hZ2 := Lib.hid (hZ1.out.below hq hZ1.out.lt)
    have hb2 : Hid (Below w.heap.size w w2) := hb1.out.trans (hq.mono hb1.out.size)
    have hgr := grown_set4 w2 w.heap.size (Value.int .i64 p9) (Value.int .i64 v9) (Value.int .i64 m9) (Value.slice A9 n9 c9)
    have hX3 := Lib.hid (cl_set4 hX2.out (Value.int .i64 p9) (Value.int .i64 v9) (Value.int .i64 m9) (Value.slice A9 n9 c9))
    have hZ3 := Lib.hid (hZ2.out.grown hgr (by intro e; injection e with e; omega))
    have hb3 := Lib.hid (below_set4 hb2.out (Nat.le_refl _) (Value.int .i64 p9) (Value.int .i64 v9) (Value.int .i64 m9) (Value.slice A9 n9 c9))
    have hk3 := Lib.hid (hk2.st hgr (fun b hb e => by injection e with e; exact hb.2.1 e))
    clear hk' hk2 hq hX1 hZ1 hb1
    obtain ⟨k0, k1, k2, k3, z0, z1, z2, z3⟩ := cells4z (w2) (w.heap.size) (Value.int .i64 primary) (Value.int .i64 view) (Value.int .i64 commit) (Value.slice A n c) (hX2.out)
    obtain ⟨m0, m1, m2, m3⟩ := cells4 (((((w2.setCell ⟨w.heap.size, 0, none⟩ (Value.int .i64 p9)).setCell ⟨w.heap.size, 1, none⟩ (Value.int .i64 v9)).setCell ⟨w.heap.size, 2, none⟩ (Value.int .i64 m9)).setCell ⟨w.heap.size, 3, none⟩ (Value.slice A9 n9 c9))) (w.heap.size) (Value.int .i64 p9) (Value.int .i64 v9) (Value.int .i64 m9) (Value.slice A9 n9 c9) (hX3.out)
    obtain ⟨u0, u1, u2, u3, y0, y1, y2, y3⟩ := cells4z (((((w2.setCell ⟨w.heap.size, 0, none⟩ (Value.int .i64 p9)).setCell ⟨w.heap.size, 1, none⟩ (Value.int .i64 v9)).setCell ⟨w.heap.size, 2, none⟩ (Value.int .i64 m9)).setCell ⟨w.heap.size, 3, none⟩ (Value.slice A9 n9 c9))) ((w.heap.size + 1 + 1)) (Value.int .i64 0) (Value.int .i64 0) (Value.int .i64 0) (Value.slice none 0 0) (hZ3.out)
    clear hX2 hZ2 hb2 hgr
    go_wp2_with fail
    clear k0 k1 k2 k3 z0 z1 z2 z3 m0 m1 m2 m3 u0 u1 u2 u3 y0 y1 y2 y3
    have hB := cl_set4 hZ3.out (Value.int .i64 p9) (Value.int .i64 v9) (Value.int .i64 m9) (Value.slice A9 n9 c9)
    have hbF := below_set4 hb3.out (show w.heap.size ≤ (w.heap.size + 1 + 1) by omega) (Value.int .i64 p9) (Value.int .i64 v9) (Value.int .i64 m9) (Value.slice A9 n9 c9)
    have hgF := grown_set4 ((((w2.setCell ⟨w.heap.size, 0, none⟩ (Value.int .i64 p9)).setCell ⟨w.heap.size, 1, none⟩ (Value.int .i64 v9)).setCell ⟨w.heap.size, 2, none⟩ (Value.int .i64 m9)).setCell ⟨w.heap.size, 3, none⟩ (Value.slice A9 n9 c9)) (w.heap.size + 1 + 1) (Value.int .i64 p9) (Value.int .i64 v9) (Value.int .i64 m9) (Value.slice A9 n9 c9)
    (try simp only [Exit.inBlock, Exit.then])
    refine bodyPost_ret (v := .tuple #[.agg #[Value.int .i64 p9, Value.int .i64 v9, Value.int .i64 m9, Value.slice A9 n9 c9], Value.int .i64 0, Value.int .i64 0]) ?_ rfl ?_
    · refine (res3 (fn := Try.f13) (p := 4) (u := 5) (v := 6) (ty := 24) rfl _ _ (w.heap.size + 1 + 1) 24 _ (0, 0) _ ?_ hB Try.underlying24 rfl (by kernel_rfl)).trans ?_
      · rfl
      · rfl
    clear hB
    have hk4 := hk3.out.st hgF (fun b hb e => by injection e with e; exact hb.2.2 e)
    exact ⟨⟨(⟨p9, v9, m9, A9, n9, c9, l9⟩ : Cm), by rw [hF.out]; rfl, hk4.imp (fun b hb => hb.1), by rw [hF.out]; exact hv2.out⟩, hbF⟩
  have q4d : (kind == 4) = false := by simpa using q4
  have hF : Hid (r = ((Cm.val (⟨primary, view, commit, A, n, c, sl⟩ : Cm)), 0, 0)) := by
    show _ = _
    rw [hr.out]
    unfold callC
    simp only
    rw [if_neg q1, if_neg q2, if_neg q3, if_neg q4]
  clear hr
  obtain ⟨u0, u1, u2, u3, y0, y1, y2, y3⟩ := cells4z ((((w.alloc (.cells #[Value.int .i64 primary, Value.int .i64 view, Value.int .i64 commit, Value.slice A n c] 24)).alloc (.cells #[Value.int .i64 kind, Value.int .i64 num, Value.slice oA od.length oc] 27)).alloc (.cells #[Value.int .i64 0, Value.int .i64 0, Value.int .i64 0, Value.slice none 0 0] 24))) ((w.heap.size + 1 + 1)) (Value.int .i64 0) (Value.int .i64 0) (Value.int .i64 0) (Value.slice none 0 0) (hZ1.out)
  go_enter Try.func13, Try.ntmps13
  go_wp2_with fail
  clear k0 k1 k2 k3 o0 o1 o2 u0 u1 u2 u3 y0 y1 y2 y3
  have hB := Blk.new ((w.alloc (.cells #[Value.int .i64 primary, Value.int .i64 view, Value.int .i64 commit, Value.slice A n c] 24)).alloc (.cells #[Value.int .i64 kind, Value.int .i64 num, Value.slice oA od.length oc] 27)) 24 #[Value.int .i64 primary, Value.int .i64 view, Value.int .i64 commit, Value.slice A n c]
  rw [show ((w.alloc (.cells #[Value.int .i64 primary, Value.int .i64 view, Value.int .i64 commit, Value.slice A n c] 24)).alloc (.cells #[Value.int .i64 kind, Value.int .i64 num, Value.slice oA od.length oc] 27)).heap.size = w.heap.size + 1 + 1 by simp] at hB
  have hbF : Below w.heap.size w (((w.alloc (.cells #[Value.int .i64 primary, Value.int .i64 view, Value.int .i64 commit, Value.slice A n c] 24)).alloc (.cells #[Value.int .i64 kind, Value.int .i64 num, Value.slice oA od.length oc] 27)).alloc (.cells #[Value.int .i64 primary, Value.int .i64 view, Value.int .i64 commit, Value.slice A n c] 24)) := ((a1 w _).alloc (by simp) _).alloc (by simp; omega) _
  (try simp only [Exit.inBlock, Exit.then])
  refine bodyPost_ret (v := .tuple #[.agg #[Value.int .i64 primary, Value.int .i64 view, Value.int .i64 commit, Value.slice A n c], Value.int .i64 0, Value.int .i64 0]) ?_ rfl ?_
  · refine (res3 (fn := Try.f13) (p := 4) (u := 5) (v := 6) (ty := 24) rfl _ _ (w.heap.size + 1 + 1) 24 _ (0, 0) _ ?_ hB Try.underlying24 rfl (by kernel_rfl)).trans ?_
    · rfl
    · rfl
  clear hB
  have hk4 := hin.out.more hbF
  exact ⟨⟨(⟨primary, view, commit, A, n, c, sl⟩ : Cm), by rw [hF.out]; rfl, hk4.imp (fun b hb => Or.inl hb), by rw [hF.out]⟩, hbF⟩
end Go.Proofs.Ytiapeenfggjpnaa
