/- Authorization: the reference's Central; Ends of both, walked. -/
import Derived.Test.YtiggpgeldigknaaAw
import Derived.Deep.DeepCutAuto
set_option linter.unusedVariables false
set_option linter.unusedSimpArgs false
namespace Go.Proofs.Ytiggpgeldigknaa
open Go.RowKit
def cenS (st : Int) (act : List ByteArray) (id : ByteArray) : Int := if st = 1 ∧ busyB act id = true then 5 else st
theorem cenS_step (st : Int) (act : List ByteArray) (id : ByteArray) (k : Nat) (h : k < act.length) : cenS st (act.drop k) id = if st = 1 ∧ same act[k] id = true then 5 else cenS st (act.drop (k + 1)) id := by
  rw [List.drop_eq_getElem_cons h]
  unfold cenS busyB
  rw [List.any_cons]
  by_cases h1 : st = 1 <;> cases same act[k] id <;> simp [h1]
theorem cenS_five (act : List ByteArray) (id : ByteArray) : cenS 5 act id = 5 := by simp [cenS]
theorem central_some (l : List Tk) (id : ByteArray) (act : List ByteArray) (now : Int) (t : Tk) (h : findT l id = some t) : centralT l id act now = (cenS (statT t now) act id, 3, t.group) := by
  simp only [centralT, knownT, inT, h, Option.map_some, Option.getD_some, busyD, cenS]
  split <;> simp [*]
theorem central_none (l : List Tk) (id : ByteArray) (act : List ByteArray) (now : Int) (h : findT l id = none) : centralT l id act now = (4, 3, ⟨#[]⟩) := by
  simp only [centralT, knownT, inT, h]; rfl
set_option maxRecDepth 100000 in
set_option maxHeartbeats 2000000 in
theorem rcentral_any (A : Option Addr) (l : List Tk) (n cap : Nat) (id : ByteArray) (G : Option Addr) (act : List ByteArray) (m k : Nat) (now : Int) (w : World) (h : TAt w w.heap.size A n l) (hm : n ≤ maxLen) (hid : id.size ≤ maxLen) (hl : ∀ t ∈ l, TkOk t) (h2 : GAt w w.heap.size G m act) (hm2 : m ≤ maxLen) (hl2 : SOk act) :
    Calls Try.prog 23 #[.slice A n cap, .string id, .slice G m k, .int .i64 now] w fun e w' => e = .returned (decV (centralT l id act now)) ∧ Below w.heap.size w w' := by
  have hbw : Hid (Below w.heap.size w (w.alloc (.cells #[.int .i64 0, .int .i64 0, .string ⟨#[]⟩] 29))) := below_new (Below.refl _ _) _
  have hZ := Lib.hid (Blk.new w 29 #[.int .i64 0, .int .i64 0, .string ⟨#[]⟩])
  have ln := Lib.hid h2.len
  have hm2' : m ≤ 2 ^ 63 - 1 := hm2
  replace h := Lib.hid h
  replace h2 := Lib.hid h2
  replace hl := Lib.hid hl
  replace hl2 := Lib.hid hl2
  cases hfd : findT l id with
  | none =>
    have hR : Hid (resT (findT l id) = .tuple #[.agg #[.string ⟨#[]⟩, .string ⟨#[]⟩, .string ⟨#[]⟩, .int .i64 0, .int .i64 0, .int .i64 0], .bool false]) := by show _ = _; rw [hfd]; rfl
    have hF := Lib.hid (central_none l id act now hfd)
    replace hfd := Lib.hid hfd
    go_enter Try.func23, Try.ntmps23
    go_wp2_with fail
    refine (rfind_any A l n cap id _ (h.out.more hbw.out) hm hid hl.out).mono ?_; rintro e w1 ⟨rfl, hb⟩
    rw [hR.out]
    have kx : Hid (∀ wz, Below ((w.alloc (.cells #[.int .i64 0, .int .i64 0, .string ⟨#[]⟩] 29))).heap.size ((w.alloc (.cells #[.int .i64 0, .int .i64 0, .string ⟨#[]⟩] 29))) wz → wz.cell? ⟨w.heap.size, 0, none⟩ = some (.int .i64 0) ∧ wz.cell? ⟨w.heap.size, 1, none⟩ = some (.int .i64 0) ∧ wz.cell? ⟨w.heap.size, 2, none⟩ = some (.string ⟨#[]⟩) ∧ wz.frozen? ⟨w.heap.size, 0, none⟩ = false ∧ wz.frozen? ⟨w.heap.size, 1, none⟩ = false ∧ wz.frozen? ⟨w.heap.size, 2, none⟩ = false) := fun wz h => by
      have r0 := hZ.out.below h (lt_of_heap hZ.out)
      exact ⟨r0.cell 0, r0.cell 1, r0.cell 2, r0.frozen 0, r0.frozen 1, r0.frozen 2⟩
    obtain ⟨z0, z1, z2, f0, f1, f2⟩ := kx.out _ hb
    have hz : w.heap.size < w1.heap.size := by have := hb.size; simp at this; omega
    replace hb := Lib.hid (hbw.out.trans (hb.mono hbw.out.size))
    go_wp2_with fail
    refine bodyPost_ret (v := .agg #[.int .i64 4, .int .i64 3, .string ⟨#[]⟩]) (by simp [results, Try.results23, go_sem, *]) rfl ⟨by rw [hF.out]; rfl, ?_⟩
    repeat (first | (with_reducible refine below_set ?_ (by omega) _ _) | (with_reducible refine below_new ?_ _) | (with_reducible refine below_drewN ?_ _) | (with_reducible refine below_dr ?_))
    exact hb.out
  | some t =>
    obtain ⟨t0, t1, t2, t3, t4, t5⟩ := t
    have hR : Hid (resT (findT l id) = .tuple #[.agg #[.string t0, .string t1, .string t2, .int .i64 t3, .int .i64 t4, .int .i64 t5], .bool true]) := by show _ = _; rw [hfd]; rfl
    have hF := Lib.hid (central_some l id act now _ hfd)
    generalize hst : statT ⟨t0, t1, t2, t3, t4, t5⟩ now = st at hF
    replace hfd := Lib.hid hfd
    replace hst := Lib.hid hst
    go_enter Try.func23, Try.ntmps23
    go_wp2_with fail
    refine (rfind_any A l n cap id _ (h.out.more hbw.out) hm hid hl.out).mono ?_; rintro e w1 ⟨rfl, hb⟩
    rw [hR.out]
    have hZ1 := Lib.hid ((hZ.out.below hb (lt_of_heap hZ.out)).alloc (.cells #[.string t0, .string t1, .string t2, .int .i64 t3, .int .i64 t4, .int .i64 t5] 33))
    have hT := Lib.hid (Blk.new w1 33 #[.string t0, .string t1, .string t2, .int .i64 t3, .int .i64 t4, .int .i64 t5])
    have hz : w.heap.size < w1.heap.size := by have := hb.size; simp at this; omega
    replace hb : Hid (Below w.heap.size w (w1.alloc (.cells #[.string t0, .string t1, .string t2, .int .i64 t3, .int .i64 t4, .int .i64 t5] 33))) := below_new (hbw.out.trans (hb.mono hbw.out.size)) _
    have kz : Hid (∀ wz, Below (w1.alloc (.cells #[.string t0, .string t1, .string t2, .int .i64 t3, .int .i64 t4, .int .i64 t5] 33)).heap.size (w1.alloc (.cells #[.string t0, .string t1, .string t2, .int .i64 t3, .int .i64 t4, .int .i64 t5] 33)) wz → wz.cell? ⟨w1.heap.size, 0, none⟩ = some (.string t0) ∧ wz.cell? ⟨w1.heap.size, 1, none⟩ = some (.string t1) ∧ wz.cell? ⟨w1.heap.size, 2, none⟩ = some (.string t2) ∧ wz.cell? ⟨w1.heap.size, 3, none⟩ = some (.int .i64 t3) ∧ wz.cell? ⟨w1.heap.size, 4, none⟩ = some (.int .i64 t4) ∧ wz.cell? ⟨w1.heap.size, 5, none⟩ = some (.int .i64 t5)) := fun wz h => by
      have q0 := hT.out.below h (lt_of_heap hT.out)
      exact ⟨q0.cell 0, q0.cell 1, q0.cell 2, q0.cell 3, q0.cell 4, q0.cell 5⟩
    go_upto_region 4 with fail
    go_cut [11] (fun s11 wx => ∃ g : Nat, s11 = .pointer (some ⟨g, 0, none⟩) ∧ Hid (w.heap.size < g) ∧ Hid (Blk wx g 29 #[.int .i64 st, .int .i64 3, .string t1]) ∧ Hid (Below w.heap.size w wx) ∧ Hid (Blk wx w.heap.size 29 #[.int .i64 0, .int .i64 0, .string ⟨#[]⟩]))
    case first =>
      have hb2 : Hid (Below (w1.alloc (.cells #[.string t0, .string t1, .string t2, .int .i64 t3, .int .i64 t4, .int .i64 t5] 33)).heap.size (w1.alloc (.cells #[.string t0, .string t1, .string t2, .int .i64 t3, .int .i64 t4, .int .i64 t5] 33)) (w1.alloc (.cells #[.string t0, .string t1, .string t2, .int .i64 t3, .int .i64 t4, .int .i64 t5] 33))) := Below.refl _ _
      go_region_held3 (fun wz => wz.cell? ⟨w1.heap.size, 0, none⟩ = some (.string t0) ∧ wz.cell? ⟨w1.heap.size, 1, none⟩ = some (.string t1) ∧ wz.cell? ⟨w1.heap.size, 2, none⟩ = some (.string t2) ∧ wz.cell? ⟨w1.heap.size, 3, none⟩ = some (.int .i64 t3) ∧ wz.cell? ⟨w1.heap.size, 4, none⟩ = some (.int .i64 t4) ∧ wz.cell? ⟨w1.heap.size, 5, none⟩ = some (.int .i64 t5))
        ((refine kz.out _ ?_; (repeat (first | (with_reducible exact hb2.out) | (with_reducible refine below_set ?_ (by first | exact Nat.le_refl _ | exact hb2.out.size | (simp; done) | (simp; omega)) _ _) | (with_reducible refine below_new ?_ _) | (with_reducible refine below_dr ?_)))))
        (first
          | (go_at_call 29; refine (rstatus_any ⟨t0, t1, t2, t3, t4, t5⟩ now _).mono ?_; clear hb2; rintro e w2 ⟨rfl, hb2⟩; rw [hst.out]; obtain ⟨hc2, hf2⟩ := bcell hb2; have hb3 := Lib.hid hb2; replace hb2 : Hid (Below (w1.alloc (.cells #[.string t0, .string t1, .string t2, .int .i64 t3, .int .i64 t4, .int .i64 t5] 33)).heap.size (w1.alloc (.cells #[.string t0, .string t1, .string t2, .int .i64 t3, .int .i64 t4, .int .i64 t5] 33)) w2) := (by first | exact (below_dr (Below.refl _ _)).trans hb2 | exact (below_dr (below_new (Below.refl _ _) _)).trans (hb2.mono (by simp)))))
      all_goals
        have hz2 : w1.heap.size < w2.heap.size := by have := hb2.out.size; simp at this; omega
        go_wp2_with fail
        go_meet
        first
          | exact ⟨w2.heap.size, rfl, by show w.heap.size < w2.heap.size; omega, Blk.new w2 29 #[.int .i64 st, .int .i64 3, .string t1], below_new (hb.out.trans (hb2.out.mono hb.out.size)) _, (hZ1.out.below hb2.out (lt_of_heap hZ1.out)).alloc _⟩
          | exact ⟨w1.heap.size + 1, rfl, by show w.heap.size < w1.heap.size + 1; omega, by
              have q := (Blk.new (w1.alloc (.cells #[.string t0, .string t1, .string t2, .int .i64 t3, .int .i64 t4, .int .i64 t5] 33)) 29 #[.int .i64 0, .int .i64 0, .string ⟨#[]⟩]).drew.below hb3.out (by simp)
              rw [show (w1.alloc (.cells #[.string t0, .string t1, .string t2, .int .i64 t3, .int .i64 t4, .int .i64 t5] 33)).heap.size = w1.heap.size + 1 by simp] at q
              exact ((q.set_ 0 _).set_ 1 _).set_ 2 _, below_set (below_set (below_set (hb.out.trans (hb2.out.mono hb.out.size)) (by omega) _ _) (by omega) _ _) (by omega) _ _,
              (((hZ1.out.below hb2.out (lt_of_heap hZ1.out)).far (by show w.heap.size ≠ w1.heap.size + 1; omega) _).far (by show w.heap.size ≠ w1.heap.size + 1; omega) _).far (by show w.heap.size ≠ w1.heap.size + 1; omega) _⟩
    case rest =>
      obtain ⟨g, rfl, hg, hD, hbx, hZx⟩ := hcut
      clear kz hb hT hZ1 hz
      go_wp2_with fail
      go_loopw [31] (fun i wr => ∃ (k s : Int) (j : Nat), j ≤ m ∧ i = .int .i64 j ∧ Hid (Blk wr g 29 #[.int .i64 s, .int .i64 3, .string t1]) ∧ Hid (Below w.heap.size w wr) ∧ Hid (Blk wr w.heap.size 29 #[.int .i64 0, .int .i64 0, .string ⟨#[]⟩]) ∧ Hid (cenS st act id = cenS s (act.drop j) id)) (fun i _ => m - (intOf i).toNat)
      case atStart => exact ⟨0, st, 0, Nat.zero_le _, rfl, hD, hbx, hZx, rfl⟩
      case round =>
        obtain ⟨_, s, j, hj, rfl, hD, hb, hZ, hx⟩ := hrel
        clear hbx hZx
        have d0 := hD.out.cell 0
        have d1 := hD.out.cell 1
        have d2 := hD.out.cell 2
        have e0 := hD.out.frozen 0
        have e1 := hD.out.frozen 1
        have e2 := hD.out.frozen 2
        simp only [List.getElem?_toArray, List.getElem?_cons_zero, List.getElem?_cons_succ] at d0 d1 d2
        have hgw := lt_of_heap hD.out
        have hg2 := hg.out
        by_cases hlt : j < m
        · have hjl : j < act.length := by rw [ln.out]; exact hlt
          have hst2 := Lib.hid (cenS_step s act id j hjl)
          obtain ⟨ad, hA, hbl, c0⟩ := GAt.cell (h2.out.below hb.out (Nat.le_refl _)) hlt
          subst hA
          have ho := hl2.out _ (List.getElem_mem hjl)
          generalize act[j] = a at *
          by_cases hs1 : s = 1
          · subst hs1
            cases hsm : same a id with
            | true =>
              have hF2 : Hid (cenS st act id = cenS 5 (act.drop (j + 1)) id) := by show _ = _; rw [hx.out, hst2.out, hsm, cenS_five]; rfl
              replace hsm := Lib.hid hsm
              go_wp2_with fail
              refine (rsame_any a id _ ho hid).mono ?_; rintro e w3 ⟨rfl, hb3⟩
              rw [hsm.out]
              have hD3 := hD.out.below hb3 hgw
              have d0 := hD3.cell 0
              have e0 := hD3.frozen 0
              simp only [List.getElem?_toArray, List.getElem?_cons_zero, List.getElem?_cons_succ] at d0
              have hZ3 := Lib.hid (hZ.out.below hb3 (lt_of_heap hZ.out))
              replace hD3 := Lib.hid hD3
              replace hb3 := Lib.hid (hb.out.trans (hb3.mono hb.out.size))
              go_wp2_with fail
              go_roundw
              case rel => exact ⟨0, 5, j + 1, by omega, by go_num, hD3.out.set_ 0 _, below_set hb3.out (by omega) _ _, hZ3.out.far (by show w.heap.size ≠ g; omega) _, hF2⟩
              case measure => simp [intOf]; omega
            | false =>
              have hF2 : Hid (cenS st act id = cenS 1 (act.drop (j + 1)) id) := by show _ = _; rw [hx.out, hst2.out, hsm]; rfl
              replace hsm := Lib.hid hsm
              go_wp2_with fail
              refine (rsame_any a id _ ho hid).mono ?_; rintro e w3 ⟨rfl, hb3⟩
              rw [hsm.out]
              have hD3 := Lib.hid (hD.out.below hb3 hgw)
              have hZ3 := Lib.hid (hZ.out.below hb3 (lt_of_heap hZ.out))
              replace hb3 := Lib.hid (hb.out.trans (hb3.mono hb.out.size))
              go_wp2_with fail
              go_roundw
              case rel => exact ⟨0, 1, j + 1, by omega, by go_num, hD3, hb3, hZ3, hF2⟩
              case measure => simp [intOf]; omega
          · have hF2 : Hid (cenS st act id = cenS s (act.drop (j + 1)) id) := by show _ = _; rw [hx.out, hst2.out, if_neg (fun h => hs1 h.1)]
            have hds : (s == 1) = false := by simpa using hs1
            replace hs1 := Lib.hid hs1
            go_wp2_with fail
            go_roundw
            case rel => exact ⟨0, s, j + 1, by omega, by go_num, hD, hb, hZ, hF2⟩
            case measure => simp [intOf]; omega
        · have hF2 : Hid (cenS st act id = s) := by show _ = _; rw [hx.out, List.drop_of_length_le (by rw [ln.out]; omega)]; simp [cenS, busyB]
          have z0 := hZ.out.cell 0
          have z1 := hZ.out.cell 1
          have z2 := hZ.out.cell 2
          have f0 := hZ.out.frozen 0
          have f1 := hZ.out.frozen 1
          have f2 := hZ.out.frozen 2
          simp only [List.getElem?_toArray, List.getElem?_cons_zero, List.getElem?_cons_succ] at z0 z1 z2
          go_wp2_with fail
          refine bodyPost_ret (v := .agg #[.int .i64 s, .int .i64 3, .string t1]) (by simp [results, Try.results23, go_sem, *]) rfl ⟨by rw [hF.out, hF2.out]; rfl, ?_⟩
          repeat (first | (with_reducible refine below_set ?_ (by omega) _ _) | (with_reducible refine below_new ?_ _) | (with_reducible refine below_drewN ?_ _) | (with_reducible refine below_dr ?_))
          exact hb.out
end Go.Proofs.Ytiggpgeldigknaa
