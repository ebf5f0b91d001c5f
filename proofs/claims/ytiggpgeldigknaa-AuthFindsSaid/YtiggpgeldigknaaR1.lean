/- Authorization: Remember, walked. -/
import Derived.Test.YtiggpgeldigknaaL1
set_option linter.unusedVariables false
set_option linter.unusedSimpArgs false
namespace Go.Proofs.Ytiggpgeldigknaa
open Go.RowKit
def remL (room : Int) (t : Tk) : List Tk → List Tk → List Tk
  | out, [] => out
  | out, x :: r => remL room t (if (out.length : Int) < room ∧ same x.id t.id = false then out ++ [x] else out) r
theorem remL_step (room : Int) (t : Tk) (out c : List Tk) (k : Nat) (h : k < c.length) : remL room t out (c.drop k) = remL room t (if (out.length : Int) < room ∧ same c[k].id t.id = false then out ++ [c[k]] else out) (c.drop (k + 1)) := by
  rw [List.drop_eq_getElem_cons h]; rfl
theorem tk_info : (Try.prog.info? 33).map (fun i => (i.zero, i.size, i.bytes)) = some (some (.agg #[.string ⟨#[]⟩, .string ⟨#[]⟩, .string ⟨#[]⟩, .int .i64 0, .int .i64 0, .int .i64 0]), 6, 72) := by kernel_rfl
theorem tk_one (l : List Tk) : ∀ u ∈ flat tkC l, u.oneCell' = true := by
  intro u hu
  simp only [flat, List.mem_flatMap, tkC] at hu
  obtain ⟨s, _, h⟩ := hu
  simp at h
  rcases h with rfl | rfl | rfl | rfl | rfl | rfl <;> rfl
set_option maxRecDepth 100000 in
set_option maxHeartbeats 2000000 in
theorem remember_ok (A : Option Addr) (c : List Tk) (n cap : Nat) (t : Tk) (room : Int) (w : World) (h : TAt w w.heap.size A n c) (hm : n ≤ maxLen) (hl : ∀ t ∈ c, TkOk t) (ht : TkOk t) (hv : tvalid t = 0) (r1 : 1 ≤ room) (r2 : room ≤ 128) :
    Calls Try.prog 30 #[.slice A n cap, tkV t, .int .i64 room] w fun e w' => ∃ v, e = .returned (.tuple #[v, .int .i64 0]) ∧ LOwn tkC 6 33 w' w.heap.size v (remL room t [t] c) ∧ Below w.heap.size w w' := by
  obtain ⟨i0, hi0, hz0, hz1, hz2⟩ := info_parts tk_info
  have hm' : n ≤ 2 ^ 63 - 1 := hm
  have ln := Lib.hid h.len
  have hvt : Hid (tkV t = .agg #[.string t.id, .string t.group, .string t.contract, .int .i64 t.kind, .int .i64 t.status, .int .i64 t.expiry]) := rfl
  replace hv := Lib.hid hv
  rw [hvt.out]
  obtain ⟨t0, t1, t2, t3, t4, t5⟩ := t
  have hto := ht.1
  simp only at hto hvt
  have hT0 := Lib.hid (Blk.new w 33 #[.string t0, .string t1, .string t2, .int .i64 t3, .int .i64 t4, .int .i64 t5])
  have kq : Hid (∀ wz, Below (w.alloc (.cells #[.string t0, .string t1, .string t2, .int .i64 t3, .int .i64 t4, .int .i64 t5] 33)).heap.size (w.alloc (.cells #[.string t0, .string t1, .string t2, .int .i64 t3, .int .i64 t4, .int .i64 t5] 33)) wz → wz.cell? ⟨w.heap.size, 0, none⟩ = some (.string t0) ∧ wz.cell? ⟨w.heap.size, 1, none⟩ = some (.string t1) ∧ wz.cell? ⟨w.heap.size, 2, none⟩ = some (.string t2) ∧ wz.cell? ⟨w.heap.size, 3, none⟩ = some (.int .i64 t3) ∧ wz.cell? ⟨w.heap.size, 4, none⟩ = some (.int .i64 t4) ∧ wz.cell? ⟨w.heap.size, 5, none⟩ = some (.int .i64 t5)) := fun wz h => by
    have q0 := hT0.out.below h (lt_of_heap hT0.out)
    exact ⟨q0.cell 0, q0.cell 1, q0.cell 2, q0.cell 3, q0.cell 4, q0.cell 5⟩
  have h' := Lib.hid (h.more (a1 w (.cells #[.string t0, .string t1, .string t2, .int .i64 t3, .int .i64 t4, .int .i64 t5] 33)))
  replace h := Lib.hid h
  replace hl := Lib.hid hl
  go_enter Try.func30, Try.ntmps30
  go_wp2_with fail
  rw [← hvt.out]
  refine (tvalid_any _ _).mono ?_; rintro e w0 ⟨rfl, hb0⟩
  rw [hv.out]
  obtain ⟨c0, c1, c2, c3, c4, c5⟩ := kq.out _ hb0
  have hTb := Lib.hid (hT0.out.below hb0 (lt_of_heap hT0.out))
  have hown0 : Hid (LOwn tkC 6 33 (w0.alloc (.cells #[.string t0, .string t1, .string t2, .int .i64 t3, .int .i64 t4, .int .i64 t5] 33)) (w.heap.size + 1) (.slice (some ⟨w0.heap.size, 0, none⟩) 1 1) [⟨t0, t1, t2, t3, t4, t5⟩]) := (lit_own tkC_len w0 [⟨t0, t1, t2, t3, t4, t5⟩] _ rfl (by simp [maxLen])).mono (by have := hb0.size; simp at this; omega)
  have hbx : Hid (Below w.heap.size w (w0.alloc (.cells #[.string t0, .string t1, .string t2, .int .i64 t3, .int .i64 t4, .int .i64 t5] 33))) := below_new (below_a hb0) _
  clear hb0
  go_wp2_with fail
  clear c0 c1 c2 c3 c4 c5
  go_loopw [9, 29] (fun v i wr => ∃ (j : Nat) (out : List Tk), j ≤ n ∧ i = .int .i64 j ∧ Hid (LOwn tkC 6 33 wr (w.heap.size + 1) v out) ∧ Hid (Below w.heap.size w wr) ∧ Hid (Blk wr w.heap.size 33 #[.string t0, .string t1, .string t2, .int .i64 t3, .int .i64 t4, .int .i64 t5]) ∧ Hid (remL room ⟨t0, t1, t2, t3, t4, t5⟩ [⟨t0, t1, t2, t3, t4, t5⟩] c = remL room ⟨t0, t1, t2, t3, t4, t5⟩ out (c.drop j))) (fun _ i _ => n - (intOf i).toNat)
  case atStart => exact ⟨0, _, Nat.zero_le _, rfl, hown0, hbx, hTb.out.alloc _, rfl⟩
  case round =>
    obtain ⟨j, out, hj, rfl, hown, hb, hTq, hx⟩ := hrel
    clear hown0 hbx hTb hT0 kq
    by_cases hlt : j < n
    · have hjl : j < c.length := by rw [ln.out]; exact hlt
      have hst := Lib.hid (remL_step room ⟨t0, t1, t2, t3, t4, t5⟩ out c j hjl)
      obtain ⟨ad, hA, hbl, e0, e1, e2, e3, e4, e5⟩ := TAt.cell (h.out.below hb.out (Nat.le_refl _)) hlt
      subst hA
      have hxo := (hl.out _ (List.getElem_mem hjl)).1
      generalize c[j] = x at *
      obtain ⟨x0, x1, x2, x3, x4, x5⟩ := x
      simp only at e0 e1 e2 e3 e4 e5 hxo
      have hb2 : Hid (Below w.heap.size w (wr.alloc (.cells #[.string x0, .string x1, .string x2, .int .i64 x3, .int .i64 x4, .int .i64 x5] 33))) := below_new hb.out _
      have hb3 : Hid (Blk (wr.alloc (.cells #[.string x0, .string x1, .string x2, .int .i64 x3, .int .i64 x4, .int .i64 x5] 33)) w.heap.size 33 #[.string t0, .string t1, .string t2, .int .i64 t3, .int .i64 t4, .int .i64 t5]) := hTq.out.alloc _
      have hT := Lib.hid (Blk.new wr 33 #[.string x0, .string x1, .string x2, .int .i64 x3, .int .i64 x4, .int .i64 x5])
      obtain ⟨A2, cap2, rfl, hc2, hmx2, hA2, _⟩ := hown.out.form
      have hmx3 : cap2 ≤ 2 ^ 63 - 1 := hmx2
      have hne : Hid ((Value.slice A2 out.length cap2).ownBlock ≠ some w.heap.size) := fun e => by have := (World.ownsRow.lt hown.out.2 _ e).1; omega
      clear hA2 hmx2
      have q0 := hTq.out.cell 0
      simp only [List.getElem?_toArray, List.getElem?_cons_zero, List.getElem?_cons_succ] at q0
      have hwl := lt_of_heap hTq.out
      by_cases hlr : (out.length : Int) < room
      · cases hsm : same x0 t0 with
        | true =>
          have hF : Hid (remL room ⟨t0, t1, t2, t3, t4, t5⟩ [⟨t0, t1, t2, t3, t4, t5⟩] c = remL room ⟨t0, t1, t2, t3, t4, t5⟩ out (c.drop (j + 1))) := by show _ = _; rw [hx.out, hst.out, if_neg (fun h => by rw [hsm] at h; cases h.2)]
          replace hsm := Lib.hid hsm
          go_wp2_with fail
          refine (same_any x0 t0 _ hxo hto).mono ?_; rintro e ws ⟨rfl, m1, rfl⟩
          rw [hsm.out]
          have hbs : Hid (Below w.heap.size w (((wr.alloc (.cells #[.string x0, .string x1, .string x2, .int .i64 x3, .int .i64 x4, .int .i64 x5] 33))).drewN m1)) := below_drewN hb2.out _
          have hbk : Hid (Blk (((wr.alloc (.cells #[.string x0, .string x1, .string x2, .int .i64 x3, .int .i64 x4, .int .i64 x5] 33))).drewN m1) w.heap.size 33 #[.string t0, .string t1, .string t2, .int .i64 t3, .int .i64 t4, .int .i64 t5]) := hb3.out
          have hbT : Hid (Blk (((wr.alloc (.cells #[.string x0, .string x1, .string x2, .int .i64 x3, .int .i64 x4, .int .i64 x5] 33))).drewN m1) wr.heap.size 33 #[.string x0, .string x1, .string x2, .int .i64 x3, .int .i64 x4, .int .i64 x5]) := hT.out
          have hob : Hid (LOwn tkC 6 33 (((wr.alloc (.cells #[.string x0, .string x1, .string x2, .int .i64 x3, .int .i64 x4, .int .i64 x5] 33))).drewN m1) (w.heap.size + 1) (.slice A2 out.length cap2) out) := (hown.out.alloc _).drewN _
          go_wp2_with fail
          go_roundw
          case rel => exact ⟨j + 1, out, by omega, by go_num, hob, hbs, hbk, hF⟩
          case measure => simp [intOf]; omega
        | false =>
          have hF : Hid (remL room ⟨t0, t1, t2, t3, t4, t5⟩ [⟨t0, t1, t2, t3, t4, t5⟩] c = remL room ⟨t0, t1, t2, t3, t4, t5⟩ (out ++ [⟨x0, x1, x2, x3, x4, x5⟩]) (c.drop (j + 1))) := by show _ = _; rw [hx.out, hst.out, if_pos ⟨hlr, hsm⟩]
          replace hsm := Lib.hid hsm
          go_wp2_with fail
          refine (same_any x0 t0 _ hxo hto).mono ?_; rintro e ws ⟨rfl, m1, rfl⟩
          rw [hsm.out]
          have hbs : Hid (Below w.heap.size w (((wr.alloc (.cells #[.string x0, .string x1, .string x2, .int .i64 x3, .int .i64 x4, .int .i64 x5] 33))).drewN m1)) := below_drewN hb2.out _
          have hbk : Hid (Blk (((wr.alloc (.cells #[.string x0, .string x1, .string x2, .int .i64 x3, .int .i64 x4, .int .i64 x5] 33))).drewN m1) w.heap.size 33 #[.string t0, .string t1, .string t2, .int .i64 t3, .int .i64 t4, .int .i64 t5]) := hb3.out
          have hbT : Hid (Blk (((wr.alloc (.cells #[.string x0, .string x1, .string x2, .int .i64 x3, .int .i64 x4, .int .i64 x5] 33))).drewN m1) wr.heap.size 33 #[.string x0, .string x1, .string x2, .int .i64 x3, .int .i64 x4, .int .i64 x5]) := hT.out
          have hob : Hid (LOwn tkC 6 33 (((wr.alloc (.cells #[.string x0, .string x1, .string x2, .int .i64 x3, .int .i64 x4, .int .i64 x5] 33))).drewN m1) (w.heap.size + 1) (.slice A2 out.length cap2) out) := (hown.out.alloc _).drewN _
          have hrd : Hid (Reads (((wr.alloc (.cells #[.string x0, .string x1, .string x2, .int .i64 x3, .int .i64 x4, .int .i64 x5] 33)).alloc (.cells #[.string x0, .string x1, .string x2, .int .i64 x3, .int .i64 x4, .int .i64 x5] 33)).drewN m1) (wr.heap.size + 1 + 1) 6 (some ⟨wr.heap.size + 1, 0, none⟩) 1 (flat tkC [⟨x0, x1, x2, x3, x4, x5⟩])) := by
            have q := (lit_at tkC_len (wr.alloc (.cells #[.string x0, .string x1, .string x2, .int .i64 x3, .int .i64 x4, .int .i64 x5] 33)) [⟨x0, x1, x2, x3, x4, x5⟩] #[.string x0, .string x1, .string x2, .int .i64 x3, .int .i64 x4, .int .i64 x5] (e := 33) rfl).2
            rw [show (wr.alloc (.cells #[.string x0, .string x1, .string x2, .int .i64 x3, .int .i64 x4, .int .i64 x5] 33)).heap.size = wr.heap.size + 1 by simp] at q
            exact q.drewN m1
          have hob2 : Hid (LOwn tkC 6 33 (((wr.alloc (.cells #[.string x0, .string x1, .string x2, .int .i64 x3, .int .i64 x4, .int .i64 x5] 33)).alloc (.cells #[.string x0, .string x1, .string x2, .int .i64 x3, .int .i64 x4, .int .i64 x5] 33)).drewN m1) (w.heap.size + 1) (.slice A2 out.length cap2) out) := ((hown.out.alloc _).alloc _).drewN _
          have hbs2 : Hid (Below w.heap.size w (((wr.alloc (.cells #[.string x0, .string x1, .string x2, .int .i64 x3, .int .i64 x4, .int .i64 x5] 33)).alloc (.cells #[.string x0, .string x1, .string x2, .int .i64 x3, .int .i64 x4, .int .i64 x5] 33)).drewN m1)) := below_drewN (below_new hb2.out _) _
          have hbk2 : Hid (Blk (((wr.alloc (.cells #[.string x0, .string x1, .string x2, .int .i64 x3, .int .i64 x4, .int .i64 x5] 33)).alloc (.cells #[.string x0, .string x1, .string x2, .int .i64 x3, .int .i64 x4, .int .i64 x5] 33)).drewN m1) w.heap.size 33 #[.string t0, .string t1, .string t2, .int .i64 t3, .int .i64 t4, .int .i64 t5]) := (hb3.out.alloc _).drewN _
          have hsz2 : w.heap.size + 1 ≤ wr.heap.size + 1 + 1 := by have := hbs.out.size; (try simp at this); omega
          go_wp2_with (at_builtin; refine wpList_append_any _ rfl (.tmp 45) (.tmp 47) _ rfl (w.heap.size + 1) 33 i0 _ 6 72 Try.underlying22 hi0 hz0 hz1 hz2 rfl (by omega) (.slice A2 out.length cap2) out.length (flat tkC out) rfl hob2.out.2 (wr.heap.size + 1 + 1) (some ⟨wr.heap.size + 1, 0, none⟩) 1 1 (flat tkC [⟨x0, x1, x2, x3, x4, x5⟩]) rfl hrd.out (tk_one _) (by simp only [maxLen]; omega) (by omega) (by first | omega | (simp; omega)) ?_; intro v' w1 hown1 hg1 hat1)
          have hbA : Hid (Below w.heap.size w w1) := hbs2.out.grown hg1 hbs2.out.size (fun g hg => Nat.le_of_succ_le (World.ownsRow.lt hob2.out.2 g hg).1)
          have hown4 : Hid (LOwn tkC 6 33 w1 (w.heap.size + 1) v' (out ++ [⟨x0, x1, x2, x3, x4, x5⟩])) := ⟨tkC_len, by rw [List.length_append, flat_append]; exact hown1⟩
          have hbk4 : Hid (Blk w1 w.heap.size 33 #[.string t0, .string t1, .string t2, .int .i64 t3, .int .i64 t4, .int .i64 t5]) := hbk2.out.grown hg1 (fun e => hne.out e.symm)
          clear hown1 hg1 hat1
          go_wp2_with fail
          go_roundw
          case rel => exact ⟨j + 1, _, by omega, by go_num, hown4, hbA, hbk4, hF⟩
          case measure => simp [intOf]; omega
      · have hF : Hid (remL room ⟨t0, t1, t2, t3, t4, t5⟩ [⟨t0, t1, t2, t3, t4, t5⟩] c = remL room ⟨t0, t1, t2, t3, t4, t5⟩ out (c.drop (j + 1))) := by show _ = _; rw [hx.out, hst.out, if_neg (fun h => hlr h.1)]
        
        
        
        go_wp2_with fail
        have hbs := hb2
        have hbk := hb3
        have hbT := hT
        have hob : Hid (LOwn tkC 6 33 (wr.alloc (.cells #[.string x0, .string x1, .string x2, .int .i64 x3, .int .i64 x4, .int .i64 x5] 33)) (w.heap.size + 1) (.slice A2 out.length cap2) out) := hown.out.alloc _
        go_wp2_with fail
        go_roundw
        case rel => exact ⟨j + 1, out, by omega, by go_num, hob, hbs, hbk, hF⟩
        case measure => simp [intOf]; omega
    · have hF : Hid (remL room ⟨t0, t1, t2, t3, t4, t5⟩ [⟨t0, t1, t2, t3, t4, t5⟩] c = out) := by show _ = _; rw [hx.out, List.drop_of_length_le (by rw [ln.out]; omega)]; rfl
      go_wp2_with fail
      go_ret2
      exact ⟨_, rfl, by rw [hF.out]; exact hown.out.mono (by omega), hb.out⟩
set_option maxRecDepth 100000 in
set_option maxHeartbeats 2000000 in
theorem rremember_ok (A : Option Addr) (c : List Tk) (n cap : Nat) (t : Tk) (room : Int) (w : World) (h : TAt w w.heap.size A n c) (hm : n ≤ maxLen) (hl : ∀ t ∈ c, TkOk t) (ht : TkOk t) (hv : tvalid t = 0) (r1 : 1 ≤ room) (r2 : room ≤ 128) :
    Calls Try.prog 31 #[.slice A n cap, tkV t, .int .i64 room] w fun e w' => ∃ v, e = .returned (.tuple #[v, .int .i64 0]) ∧ LOwn tkC 6 33 w' w.heap.size v (remL room t [t] c) ∧ Below w.heap.size w w' := by
  obtain ⟨i0, hi0, hz0, hz1, hz2⟩ := info_parts tk_info
  have hm' : n ≤ 2 ^ 63 - 1 := hm
  have ln := Lib.hid h.len
  have hvt : Hid (tkV t = .agg #[.string t.id, .string t.group, .string t.contract, .int .i64 t.kind, .int .i64 t.status, .int .i64 t.expiry]) := rfl
  replace hv := Lib.hid hv
  rw [hvt.out]
  obtain ⟨t0, t1, t2, t3, t4, t5⟩ := t
  have hto := ht.1
  simp only at hto hvt
  have hT0 := Lib.hid (Blk.new w 33 #[.string t0, .string t1, .string t2, .int .i64 t3, .int .i64 t4, .int .i64 t5])
  have kq : Hid (∀ wz, Below (w.alloc (.cells #[.string t0, .string t1, .string t2, .int .i64 t3, .int .i64 t4, .int .i64 t5] 33)).heap.size (w.alloc (.cells #[.string t0, .string t1, .string t2, .int .i64 t3, .int .i64 t4, .int .i64 t5] 33)) wz → wz.cell? ⟨w.heap.size, 0, none⟩ = some (.string t0) ∧ wz.cell? ⟨w.heap.size, 1, none⟩ = some (.string t1) ∧ wz.cell? ⟨w.heap.size, 2, none⟩ = some (.string t2) ∧ wz.cell? ⟨w.heap.size, 3, none⟩ = some (.int .i64 t3) ∧ wz.cell? ⟨w.heap.size, 4, none⟩ = some (.int .i64 t4) ∧ wz.cell? ⟨w.heap.size, 5, none⟩ = some (.int .i64 t5)) := fun wz h => by
    have q0 := hT0.out.below h (lt_of_heap hT0.out)
    exact ⟨q0.cell 0, q0.cell 1, q0.cell 2, q0.cell 3, q0.cell 4, q0.cell 5⟩
  have h' := Lib.hid (h.more (a1 w (.cells #[.string t0, .string t1, .string t2, .int .i64 t3, .int .i64 t4, .int .i64 t5] 33)))
  replace h := Lib.hid h
  replace hl := Lib.hid hl
  go_enter Try.func31, Try.ntmps31
  go_wp2_with fail
  rw [← hvt.out]
  refine (rtvalid_any _ _).mono ?_; rintro e w0 ⟨rfl, hb0⟩
  rw [hv.out]
  obtain ⟨c0, c1, c2, c3, c4, c5⟩ := kq.out _ hb0
  have hTb := Lib.hid (hT0.out.below hb0 (lt_of_heap hT0.out))
  have hown0 : Hid (LOwn tkC 6 33 (w0.alloc (.cells #[.string t0, .string t1, .string t2, .int .i64 t3, .int .i64 t4, .int .i64 t5] 33)) (w.heap.size + 1) (.slice (some ⟨w0.heap.size, 0, none⟩) 1 1) [⟨t0, t1, t2, t3, t4, t5⟩]) := (lit_own tkC_len w0 [⟨t0, t1, t2, t3, t4, t5⟩] _ rfl (by simp [maxLen])).mono (by have := hb0.size; simp at this; omega)
  have hbx : Hid (Below w.heap.size w (w0.alloc (.cells #[.string t0, .string t1, .string t2, .int .i64 t3, .int .i64 t4, .int .i64 t5] 33))) := below_new (below_a hb0) _
  clear hb0
  go_wp2_with fail
  clear c0 c1 c2 c3 c4 c5
  go_loopw [9, 29] (fun v i wr => ∃ (j : Nat) (out : List Tk), j ≤ n ∧ i = .int .i64 j ∧ Hid (LOwn tkC 6 33 wr (w.heap.size + 1) v out) ∧ Hid (Below w.heap.size w wr) ∧ Hid (Blk wr w.heap.size 33 #[.string t0, .string t1, .string t2, .int .i64 t3, .int .i64 t4, .int .i64 t5]) ∧ Hid (remL room ⟨t0, t1, t2, t3, t4, t5⟩ [⟨t0, t1, t2, t3, t4, t5⟩] c = remL room ⟨t0, t1, t2, t3, t4, t5⟩ out (c.drop j))) (fun _ i _ => n - (intOf i).toNat)
  case atStart => exact ⟨0, _, Nat.zero_le _, rfl, hown0, hbx, hTb.out.alloc _, rfl⟩
  case round =>
    obtain ⟨j, out, hj, rfl, hown, hb, hTq, hx⟩ := hrel
    clear hown0 hbx hTb hT0 kq
    by_cases hlt : j < n
    · have hjl : j < c.length := by rw [ln.out]; exact hlt
      have hst := Lib.hid (remL_step room ⟨t0, t1, t2, t3, t4, t5⟩ out c j hjl)
      obtain ⟨ad, hA, hbl, e0, e1, e2, e3, e4, e5⟩ := TAt.cell (h.out.below hb.out (Nat.le_refl _)) hlt
      subst hA
      have hxo := (hl.out _ (List.getElem_mem hjl)).1
      generalize c[j] = x at *
      obtain ⟨x0, x1, x2, x3, x4, x5⟩ := x
      simp only at e0 e1 e2 e3 e4 e5 hxo
      have hb2 : Hid (Below w.heap.size w (wr.alloc (.cells #[.string x0, .string x1, .string x2, .int .i64 x3, .int .i64 x4, .int .i64 x5] 33))) := below_new hb.out _
      have hb3 : Hid (Blk (wr.alloc (.cells #[.string x0, .string x1, .string x2, .int .i64 x3, .int .i64 x4, .int .i64 x5] 33)) w.heap.size 33 #[.string t0, .string t1, .string t2, .int .i64 t3, .int .i64 t4, .int .i64 t5]) := hTq.out.alloc _
      have hT := Lib.hid (Blk.new wr 33 #[.string x0, .string x1, .string x2, .int .i64 x3, .int .i64 x4, .int .i64 x5])
      obtain ⟨A2, cap2, rfl, hc2, hmx2, hA2, _⟩ := hown.out.form
      have hmx3 : cap2 ≤ 2 ^ 63 - 1 := hmx2
      have hne : Hid ((Value.slice A2 out.length cap2).ownBlock ≠ some w.heap.size) := fun e => by have := (World.ownsRow.lt hown.out.2 _ e).1; omega
      clear hA2 hmx2
      have q0 := hTq.out.cell 0
      simp only [List.getElem?_toArray, List.getElem?_cons_zero, List.getElem?_cons_succ] at q0
      have hwl := lt_of_heap hTq.out
      by_cases hlr : (out.length : Int) < room
      · cases hsm : same x0 t0 with
        | true =>
          have hF : Hid (remL room ⟨t0, t1, t2, t3, t4, t5⟩ [⟨t0, t1, t2, t3, t4, t5⟩] c = remL room ⟨t0, t1, t2, t3, t4, t5⟩ out (c.drop (j + 1))) := by show _ = _; rw [hx.out, hst.out, if_neg (fun h => by rw [hsm] at h; cases h.2)]
          replace hsm := Lib.hid hsm
          go_wp2_with fail
          refine (rsame_any x0 t0 _ hxo hto).mono ?_; rintro e ws ⟨rfl, hbs⟩
          rw [hsm.out]
          have hbk : Hid (Blk ws w.heap.size 33 #[.string t0, .string t1, .string t2, .int .i64 t3, .int .i64 t4, .int .i64 t5]) := hb3.out.below hbs (lt_of_heap hb3.out)
          have hbT : Hid (Blk ws wr.heap.size 33 #[.string x0, .string x1, .string x2, .int .i64 x3, .int .i64 x4, .int .i64 x5]) := hT.out.below hbs (lt_of_heap hT.out)
          have hob : Hid (LOwn tkC 6 33 ws (w.heap.size + 1) (.slice A2 out.length cap2) out) := (hown.out.alloc _).kept hbs
          replace hbs : Hid (Below w.heap.size w ws) := hb2.out.trans (hbs.mono hb2.out.size)
          have y0 := hbT.out.cell 0
          have y1 := hbT.out.cell 1
          have y2 := hbT.out.cell 2
          have y3 := hbT.out.cell 3
          have y4 := hbT.out.cell 4
          have y5 := hbT.out.cell 5
          simp only [List.getElem?_toArray, List.getElem?_cons_zero, List.getElem?_cons_succ] at y0 y1 y2 y3 y4 y5
          go_wp2_with fail
          go_roundw
          case rel => exact ⟨j + 1, out, by omega, by go_num, hob, hbs, hbk, hF⟩
          case measure => simp [intOf]; omega
        | false =>
          have hF : Hid (remL room ⟨t0, t1, t2, t3, t4, t5⟩ [⟨t0, t1, t2, t3, t4, t5⟩] c = remL room ⟨t0, t1, t2, t3, t4, t5⟩ (out ++ [⟨x0, x1, x2, x3, x4, x5⟩]) (c.drop (j + 1))) := by show _ = _; rw [hx.out, hst.out, if_pos ⟨hlr, hsm⟩]
          replace hsm := Lib.hid hsm
          go_wp2_with fail
          refine (rsame_any x0 t0 _ hxo hto).mono ?_; rintro e ws ⟨rfl, hbs⟩
          rw [hsm.out]
          have hbk : Hid (Blk ws w.heap.size 33 #[.string t0, .string t1, .string t2, .int .i64 t3, .int .i64 t4, .int .i64 t5]) := hb3.out.below hbs (lt_of_heap hb3.out)
          have hbT : Hid (Blk ws wr.heap.size 33 #[.string x0, .string x1, .string x2, .int .i64 x3, .int .i64 x4, .int .i64 x5]) := hT.out.below hbs (lt_of_heap hT.out)
          have hob : Hid (LOwn tkC 6 33 ws (w.heap.size + 1) (.slice A2 out.length cap2) out) := (hown.out.alloc _).kept hbs
          replace hbs : Hid (Below w.heap.size w ws) := hb2.out.trans (hbs.mono hb2.out.size)
          have y0 := hbT.out.cell 0
          have y1 := hbT.out.cell 1
          have y2 := hbT.out.cell 2
          have y3 := hbT.out.cell 3
          have y4 := hbT.out.cell 4
          have y5 := hbT.out.cell 5
          simp only [List.getElem?_toArray, List.getElem?_cons_zero, List.getElem?_cons_succ] at y0 y1 y2 y3 y4 y5
          have hrd : Hid (Reads (ws.alloc (.cells #[.string x0, .string x1, .string x2, .int .i64 x3, .int .i64 x4, .int .i64 x5] 33)) (ws.heap.size + 1) 6 (some ⟨ws.heap.size, 0, none⟩) 1 (flat tkC [⟨x0, x1, x2, x3, x4, x5⟩])) := (lit_at tkC_len ws [⟨x0, x1, x2, x3, x4, x5⟩] #[.string x0, .string x1, .string x2, .int .i64 x3, .int .i64 x4, .int .i64 x5] (e := 33) rfl).2
          have hob2 : Hid (LOwn tkC 6 33 (ws.alloc (.cells #[.string x0, .string x1, .string x2, .int .i64 x3, .int .i64 x4, .int .i64 x5] 33)) (w.heap.size + 1) (.slice A2 out.length cap2) out) := hob.out.alloc _
          have hbs2 : Hid (Below w.heap.size w (ws.alloc (.cells #[.string x0, .string x1, .string x2, .int .i64 x3, .int .i64 x4, .int .i64 x5] 33))) := below_new hbs.out _
          have hbk2 : Hid (Blk (ws.alloc (.cells #[.string x0, .string x1, .string x2, .int .i64 x3, .int .i64 x4, .int .i64 x5] 33)) w.heap.size 33 #[.string t0, .string t1, .string t2, .int .i64 t3, .int .i64 t4, .int .i64 t5]) := hbk.out.alloc _
          have hsz2 : w.heap.size + 1 ≤ ws.heap.size + 1 := by have := hbs.out.size; (try simp at this); omega
          go_wp2_with (at_builtin; refine wpList_append_any _ rfl (.tmp 45) (.tmp 47) _ rfl (w.heap.size + 1) 33 i0 _ 6 72 Try.underlying22 hi0 hz0 hz1 hz2 rfl (by omega) (.slice A2 out.length cap2) out.length (flat tkC out) rfl hob2.out.2 (ws.heap.size + 1) (some ⟨ws.heap.size, 0, none⟩) 1 1 (flat tkC [⟨x0, x1, x2, x3, x4, x5⟩]) rfl hrd.out (tk_one _) (by simp only [maxLen]; omega) (by omega) (by first | omega | (simp; omega)) ?_; intro v' w1 hown1 hg1 hat1)
          have hbA : Hid (Below w.heap.size w w1) := hbs2.out.grown hg1 hbs2.out.size (fun g hg => Nat.le_of_succ_le (World.ownsRow.lt hob2.out.2 g hg).1)
          have hown4 : Hid (LOwn tkC 6 33 w1 (w.heap.size + 1) v' (out ++ [⟨x0, x1, x2, x3, x4, x5⟩])) := ⟨tkC_len, by rw [List.length_append, flat_append]; exact hown1⟩
          have hbk4 : Hid (Blk w1 w.heap.size 33 #[.string t0, .string t1, .string t2, .int .i64 t3, .int .i64 t4, .int .i64 t5]) := hbk2.out.grown hg1 (fun e => hne.out e.symm)
          clear hown1 hg1 hat1
          go_wp2_with fail
          go_roundw
          case rel => exact ⟨j + 1, _, by omega, by go_num, hown4, hbA, hbk4, hF⟩
          case measure => simp [intOf]; omega
      · have hF : Hid (remL room ⟨t0, t1, t2, t3, t4, t5⟩ [⟨t0, t1, t2, t3, t4, t5⟩] c = remL room ⟨t0, t1, t2, t3, t4, t5⟩ out (c.drop (j + 1))) := by show _ = _; rw [hx.out, hst.out, if_neg (fun h => hlr h.1)]
        generalize hsm : same x0 t0 = bs
        replace hsm := Lib.hid hsm
        cases bs
        all_goals
          go_wp2_with fail
          refine (rsame_any x0 t0 _ hxo hto).mono ?_; rintro e ws ⟨rfl, hbs⟩
          rw [hsm.out]
          have hbk : Hid (Blk ws w.heap.size 33 #[.string t0, .string t1, .string t2, .int .i64 t3, .int .i64 t4, .int .i64 t5]) := hb3.out.below hbs (lt_of_heap hb3.out)
          have hbT : Hid (Blk ws wr.heap.size 33 #[.string x0, .string x1, .string x2, .int .i64 x3, .int .i64 x4, .int .i64 x5]) := hT.out.below hbs (lt_of_heap hT.out)
          have hob : Hid (LOwn tkC 6 33 ws (w.heap.size + 1) (.slice A2 out.length cap2) out) := (hown.out.alloc _).kept hbs
          replace hbs : Hid (Below w.heap.size w ws) := hb2.out.trans (hbs.mono hb2.out.size)
          have y0 := hbT.out.cell 0
          have y1 := hbT.out.cell 1
          have y2 := hbT.out.cell 2
          have y3 := hbT.out.cell 3
          have y4 := hbT.out.cell 4
          have y5 := hbT.out.cell 5
          simp only [List.getElem?_toArray, List.getElem?_cons_zero, List.getElem?_cons_succ] at y0 y1 y2 y3 y4 y5
          go_wp2_with fail
          go_roundw
          case rel => exact ⟨j + 1, out, by omega, by go_num, hob, hbs, hbk, hF⟩
          case measure => simp [intOf]; omega
    · have hF : Hid (remL room ⟨t0, t1, t2, t3, t4, t5⟩ [⟨t0, t1, t2, t3, t4, t5⟩] c = out) := by show _ = _; rw [hx.out, List.drop_of_length_le (by rw [ln.out]; omega)]; rfl
      go_wp2_with fail
      go_ret2
      exact ⟨_, rfl, by rw [hF.out]; exact hown.out.mono (by omega), hb.out⟩
end Go.Proofs.Ytiggpgeldigknaa
