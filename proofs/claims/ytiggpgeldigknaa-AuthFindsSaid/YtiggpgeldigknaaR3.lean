/- Authorization: the law Finds, walked. -/
import Derived.Test.YtiggpgeldigknaaR2
import Derived.Test.YtiggpgeldigknaaL2
set_option linter.unusedVariables false
set_option linter.unusedSimpArgs false
namespace Go.Proofs.Ytiggpgeldigknaa
open Go.RowKit
theorem field1 (a b : Int) (c : ByteArray) (w : World) : (Instr.field 29 (.agg #[.int .i64 a, .int .i64 b, .string c]) 1).run Try.prog w = .ok (.int .i64 b) w := by kernel_rfl
theorem remL_head (room : Int) (t : Tk) : ∀ (c out : List Tk), ∃ r, remL room t (t :: out) c = t :: r := by
  intro c
  induction c with
  | nil => intro out; exact ⟨out, rfl⟩
  | cons x r ih =>
    intro out
    unfold remL
    split
    · exact ih (out ++ [x])
    · exact ih out
theorem remL_len (room : Nat) (t : Tk) : ∀ (c out : List Tk), out.length ≤ room → (remL room t out c).length ≤ room := by
  intro c
  induction c with
  | nil => intro out h; exact h
  | cons x r ih =>
    intro out h
    unfold remL
    split
    · rename_i g; exact ih _ (by simp; omega)
    · exact ih _ h
theorem remL_ok (room : Int) (t : Tk) : ∀ (c out : List Tk), (∀ x ∈ c, TkOk x) → (∀ x ∈ out, TkOk x) → ∀ x ∈ remL room t out c, TkOk x := by
  intro c
  induction c with
  | nil => intro out _ h; exact h
  | cons x r ih =>
    intro out h1 h2
    unfold remL
    refine ih _ (fun y hy => h1 y (List.mem_cons_of_mem _ hy)) ?_
    split
    · intro y hy
      rcases List.mem_append.1 hy with g | g
      · exact h2 y g
      · simp at g; subst g; exact h1 y (List.mem_cons_self ..)
    · exact h2
theorem same_refl (a : ByteArray) : same a a = true := by simp [same]
theorem find_rem (room : Int) (t : Tk) (c : List Tk) : findT (remL room t [t] c) t.id = some t := by
  obtain ⟨r, h⟩ := remL_head room t c []
  rw [h]
  simp [findT, same_refl]
theorem tk_one_ok {t : Tk} (h : tvalid t = 0) : TkOk t := by
  have : smallT [t] = true := by simp [smallT, okT, h]
  exact tk_ok this t (by simp)
set_option maxRecDepth 100000 in
set_option maxHeartbeats 4000000 in
theorem lawFinds (A : Option Addr) (l : List Tk) (n c : Nat) (C : Option Addr) (cc : List Tk) (m k : Nat) (id : ByteArray) (now : Int) (t : Tk) (w : World) (h : TAt w w.heap.size A n l) (hm : n ≤ maxLen)
    (h2 : TAt w w.heap.size C m cc) (hm2 : m ≤ maxLen) :
    Calls Try.prog 8 #[.agg #[.slice A n c, .slice C m k, .string id, .int .i64 now], tkV t] w fun e w' => e = .returned (.bool true) ∧ Below w.heap.size w w' := by
  have hm' : n ≤ 2 ^ 63 - 1 := hm
  have hfl := field1
  have hv : Hid (tkV t = .agg #[.string t.id, .string t.group, .string t.contract, .int .i64 t.kind, .int .i64 t.status, .int .i64 t.expiry]) := rfl
  rw [hv.out]
  obtain ⟨t0, t1, t2, t3, t4, t5⟩ := t
  have ln := Lib.hid h.len
  have hQ0 := Lib.hid ((Blk.new w 24 #[.slice A n c, .slice C m k, .string id, .int .i64 now]).alloc (.cells #[.string t0, .string t1, .string t2, .int .i64 t3, .int .i64 t4, .int .i64 t5] 33))
  have hT0 := Lib.hid (Blk.new (w.alloc (.cells #[.slice A n c, .slice C m k, .string id, .int .i64 now] 24)) 33 #[.string t0, .string t1, .string t2, .int .i64 t3, .int .i64 t4, .int .i64 t5])
  have hzs : Hid ((w.alloc (.cells #[.slice A n c, .slice C m k, .string id, .int .i64 now] 24)).heap.size = w.heap.size + 1) := by show _ = _; simp
  rw [hzs.out] at hT0
  have kq : Hid (∀ wz, Below ((w.alloc (.cells #[.slice A n c, .slice C m k, .string id, .int .i64 now] 24)).alloc (.cells #[.string t0, .string t1, .string t2, .int .i64 t3, .int .i64 t4, .int .i64 t5] 33)).heap.size ((w.alloc (.cells #[.slice A n c, .slice C m k, .string id, .int .i64 now] 24)).alloc (.cells #[.string t0, .string t1, .string t2, .int .i64 t3, .int .i64 t4, .int .i64 t5] 33)) wz → wz.cell? ⟨w.heap.size, 0, none⟩ = some (.slice A n c) ∧ wz.cell? ⟨w.heap.size, 1, none⟩ = some (.slice C m k) ∧ wz.cell? ⟨w.heap.size, 2, none⟩ = some (.string id) ∧ wz.cell? ⟨w.heap.size, 3, none⟩ = some (.int .i64 now) ∧ wz.cell? ⟨w.heap.size + 1, 0, none⟩ = some (.string t0) ∧ wz.cell? ⟨w.heap.size + 1, 1, none⟩ = some (.string t1) ∧ wz.cell? ⟨w.heap.size + 1, 2, none⟩ = some (.string t2) ∧ wz.cell? ⟨w.heap.size + 1, 3, none⟩ = some (.int .i64 t3) ∧ wz.cell? ⟨w.heap.size + 1, 4, none⟩ = some (.int .i64 t4) ∧ wz.cell? ⟨w.heap.size + 1, 5, none⟩ = some (.int .i64 t5)) := fun wz h => by
    have q0 := hQ0.out.below h (lt_of_heap hQ0.out)
    have q1 := hT0.out.below h (lt_of_heap hT0.out)
    exact ⟨q0.cell 0, q0.cell 1, q0.cell 2, q0.cell 3, q1.cell 0, q1.cell 1, q1.cell 2, q1.cell 3, q1.cell 4, q1.cell 5⟩
  have hbw : Hid (Below w.heap.size w ((w.alloc (.cells #[.slice A n c, .slice C m k, .string id, .int .i64 now] 24)).alloc (.cells #[.string t0, .string t1, .string t2, .int .i64 t3, .int .i64 t4, .int .i64 t5] 33))) := below_new (below_new (Below.refl _ _) _) _
  have h' := Lib.hid (h.more hbw.out)
  have h2' := Lib.hid (h2.more hbw.out)
  clear h h2
  cases hs : smallT l with
  | false =>
    replace hs := Lib.hid hs
    go_enter Try.func8, Try.ntmps8
    go_wp2_with fail
    refine (small_any A l n c _ h'.out hm).mono ?_; rintro e w1 ⟨rfl, hb1⟩
    rw [hs.out]
    replace hb1 := Lib.hid (hbw.out.trans (hb1.mono hbw.out.size))
    go_wp2_with fail
    refine (example_any _).mono ?_; rintro e wz ⟨rfl, hbz⟩
    go_wp2_with fail
    go_ret
    exact ⟨rfl, hb1.out.trans (hbz.mono hb1.out.size)⟩
  | true =>
    have hok := Lib.hid (tk_ok hs)
    replace hs := Lib.hid hs
    cases hs2 : smallT cc with
    | false =>
      replace hs2 := Lib.hid hs2
      go_enter Try.func8, Try.ntmps8
      go_wp2_with fail
      refine (small_any A l n c _ h'.out hm).mono ?_; rintro e w1 ⟨rfl, hb1⟩
      rw [hs.out]
      obtain ⟨q0, q1, q2, q3, c0, c1, c2, c3, c4, c5⟩ := kq.out _ hb1
      replace hb1 := Lib.hid hb1
      go_wp2_with fail
      refine (small_any C cc m k _ (h2'.out.more hb1.out) hm2).mono ?_; rintro e w2 ⟨rfl, hb2⟩
      rw [hs2.out]
      clear q0 q1 q2 q3 c0 c1 c2 c3 c4 c5
      replace hb2 := Lib.hid (hb1.out.trans (hb2.mono hb1.out.size))
      replace hb2 := Lib.hid (hbw.out.trans (hb2.out.mono hbw.out.size))
      go_wp2_with fail
      refine (example_any _).mono ?_; rintro e wz ⟨rfl, hbz⟩
      go_wp2_with fail
      go_ret
      exact ⟨rfl, hb2.out.trans (hbz.mono hb2.out.size)⟩
    | true =>
      have hok2 := Lib.hid (tk_ok hs2)
      replace hs2 := Lib.hid hs2
      by_cases hx : tvalid ⟨t0, t1, t2, t3, t4, t5⟩ = 0
      · have hto := tk_one_ok hx
        have hid0 := hto.1
        have hlen := remL_len 32 ⟨t0, t1, t2, t3, t4, t5⟩ cc [⟨t0, t1, t2, t3, t4, t5⟩] (by simp)
        have hrok := Lib.hid (remL_ok 32 ⟨t0, t1, t2, t3, t4, t5⟩ cc [⟨t0, t1, t2, t3, t4, t5⟩] hok2.out (by intro y hy; simp at hy; subst hy; exact hto))
        have hfr := Lib.hid (find_rem 32 ⟨t0, t1, t2, t3, t4, t5⟩ cc)
        simp only at hid0 hfr
        replace hto := Lib.hid hto
        replace hx := Lib.hid hx
        go_enter Try.func8, Try.ntmps8
        go_wp2_with fail
        refine (small_any A l n c _ h'.out hm).mono ?_; rintro e w1 ⟨rfl, hb1⟩
        rw [hs.out]
        obtain ⟨q0, q1, q2, q3, c0, c1, c2, c3, c4, c5⟩ := kq.out _ hb1
        replace hb1 := Lib.hid hb1
        go_wp2_with fail
        refine (small_any C cc m k _ (h2'.out.more hb1.out) hm2).mono ?_; rintro e w2 ⟨rfl, hb2⟩
        rw [hs2.out]
        clear q0 q1 q2 q3 c0 c1 c2 c3 c4 c5
        replace hb2 := Lib.hid (hb1.out.trans (hb2.mono hb1.out.size))
        obtain ⟨q0, q1, q2, q3, c0, c1, c2, c3, c4, c5⟩ := kq.out _ hb2.out
        go_wp2_with fail
        rw [← hv.out]
        refine (rtvalid_any _ _).mono ?_; rintro e w3 ⟨rfl, hb3⟩
        clear q0 q1 q2 q3 c0 c1 c2 c3 c4 c5
        replace hb3 := Lib.hid (hb2.out.trans (hb3.mono hb2.out.size))
        rw [hx.out]
        obtain ⟨q0, q1, q2, q3, c0, c1, c2, c3, c4, c5⟩ := kq.out _ hb3.out
        go_wp2_with fail
        rw [← hv.out]
        refine (remember_ok C cc m k ⟨t0, t1, t2, t3, t4, t5⟩ 32 _ (h2'.out.more hb3.out) hm2 hok2.out hto.out hx.out (by decide) (by decide)).mono ?_; rintro e w4 ⟨v4, rfl, ho4, hb4⟩
        clear q0 q1 q2 q3 c0 c1 c2 c3 c4 c5
        replace hb4 : Hid (Below ((w.alloc (.cells #[.slice A n c, .slice C m k, .string id, .int .i64 now] 24)).alloc (.cells #[.string t0, .string t1, .string t2, .int .i64 t3, .int .i64 t4, .int .i64 t5] 33)).heap.size ((w.alloc (.cells #[.slice A n c, .slice C m k, .string id, .int .i64 now] 24)).alloc (.cells #[.string t0, .string t1, .string t2, .int .i64 t3, .int .i64 t4, .int .i64 t5] 33)) w4) := hb3.out.trans (hb4.mono hb3.out.size)
        replace hlen : (remL 32 ⟨t0, t1, t2, t3, t4, t5⟩ [⟨t0, t1, t2, t3, t4, t5⟩] cc).length ≤ 32 := hlen
        obtain ⟨A4, p4, rfl, g4, m4, _, hat4⟩ := ho4.form
        replace hat4 := Lib.hid hat4
        clear ho4
        generalize remL 32 ⟨t0, t1, t2, t3, t4, t5⟩ [⟨t0, t1, t2, t3, t4, t5⟩] cc = R at *
        have hR2 : R.length ≤ maxLen := by unfold maxLen; omega
        obtain ⟨q0, q1, q2, q3, c0, c1, c2, c3, c4, c5⟩ := kq.out _ hb4.out
        go_wp2_with fail
        clear q0 q1 q2 q3 c0 c1 c2 c3 c4 c5
        go_loopw [43] (fun i wr => ∃ j : Nat, j ≤ n ∧ i = .int .i64 j ∧ Hid (Below w4.heap.size w4 wr) ∧ Hid (findT l t0 = findT (l.drop j) t0)) (fun i _ => n - (intOf i).toNat)
        case atStart => exact ⟨0, Nat.zero_le _, rfl, Below.refl _ _, rfl⟩
        case round =>
          obtain ⟨j, hj, rfl, hbr, hxf⟩ := hrel
          have hb := Lib.hid (hb4.out.trans (hbr.out.mono hb4.out.size))
          by_cases hlt : j < n
          · have hjl : j < l.length := by rw [ln.out]; exact hlt
            have hst := Lib.hid (find_step l t0 j hjl)
            obtain ⟨ad, hA, hbl, e0, e1, e2, e3, e4, e5⟩ := TAt.cell (h'.out.below hb.out (Nat.le_refl _)) hlt
            subst hA
            have ho := (hok.out _ (List.getElem_mem hjl)).1
            generalize l[j] = x at *
            obtain ⟨x0, x1, x2, x3, x4, x5⟩ := x
            simp only at e0 e1 e2 e3 e4 e5 ho
            obtain ⟨q0, q1, q2, q3, c0, c1, c2, c3, c4, c5⟩ := kq.out _ hb.out
            have hbr2 : Hid (Below w4.heap.size w4 (wr.alloc (.cells #[.string x0, .string x1, .string x2, .int .i64 x3, .int .i64 x4, .int .i64 x5] 33))) := below_new hbr.out _
            have hzr : w.heap.size + 1 < wr.heap.size := by have := hb.out.size; simp at this; omega
            have hzr0 : w.heap.size < wr.heap.size := by omega
            cases hsm : same x0 t0 with
            | false =>
              have hF : Hid (findT l t0 = findT (l.drop (j + 1)) t0) := by show _ = _; rw [hxf.out, hst.out, hsm]; rfl
              replace hsm := Lib.hid hsm
              go_wp2_with fail
              refine (rsame_any x0 t0 _ ho hid0).mono ?_; rintro e w5 ⟨rfl, hb5⟩
              rw [hsm.out]
              clear q0 q1 q2 q3 c0 c1 c2 c3 c4 c5
              replace hb5 := Lib.hid (hbr2.out.trans (hb5.mono hbr2.out.size))
              go_wp2_with fail
              go_roundw
              case rel => exact ⟨j + 1, by omega, by go_num, hb5.out, hF⟩
              case measure => simp [intOf]; omega
            | true =>
              have hF : Hid (findT l t0 = some ⟨x0, x1, x2, x3, x4, x5⟩) := by show _ = _; rw [hxf.out, hst.out, hsm]; rfl
              obtain ⟨⟨d1, d2, d3⟩, hd⟩ : ∃ d : Dec, localT l R t0 now = d := ⟨_, rfl⟩
              have hd2 : Hid (d2 = 1) := by show _ = _; have h3 := hd; rw [localT, inT, hF.out] at h3; cases h3; rfl
              have hV : Hid (decV (localT l R t0 now) = .agg #[.int .i64 d1, .int .i64 1, .string d3]) := by show _ = _; rw [hd, ← hd2.out]; rfl
              replace hd := Lib.hid hd
              replace hsm := Lib.hid hsm
              go_wp2_with fail
              refine (rsame_any x0 t0 _ ho hid0).mono ?_; rintro e w5 ⟨rfl, hb5⟩
              rw [hsm.out]
              clear q0 q1 q2 q3 c0 c1 c2 c3 c4 c5
              replace hb5 := Lib.hid (hbr2.out.trans (hb5.mono hbr2.out.size))
              have hb6 := Lib.hid (hb4.out.trans (hb5.out.mono hb4.out.size))
              obtain ⟨q0, q1, q2, q3, c0, c1, c2, c3, c4, c5⟩ := kq.out _ hb6.out
              go_wp2_with fail
              refine (local_any _ l n c t0 A4 R R.length p4 1 now _ (h'.out.more hb6.out) hm hid0 hok.out (hat4.out.more hb5.out) hR2 hrok.out).mono ?_; rintro e w7 ⟨rfl, hb7⟩
              rw [hV.out]
              clear q0 q1 q2 q3 c0 c1 c2 c3 c4 c5
              replace hb7 := Lib.hid (hb6.out.trans (hb7.mono hb6.out.size))
              go_wp2_with fail
              go_ret
              exact ⟨ret_bool (by simp), hbw.out.trans (hb7.out.mono hbw.out.size)⟩
          · have hF : Hid (findT l t0 = none) := by show _ = _; rw [hxf.out, List.drop_of_length_le (by rw [ln.out]; omega)]; rfl
            generalize hst : statT ⟨t0, t1, t2, t3, t4, t5⟩ now = st
            have hV : Hid (decV (localT l R t0 now) = .agg #[.int .i64 st, .int .i64 2, .string t1]) := by show _ = _; rw [localT, inT, inT, hF.out, hfr.out, ← hst]; rfl
            replace hst := Lib.hid hst
            obtain ⟨q0, q1, q2, q3, c0, c1, c2, c3, c4, c5⟩ := kq.out _ hb.out
            go_wp2_with fail
            refine (local_any A l n c t0 A4 R R.length p4 1 now _ (h'.out.more hb.out) hm hid0 hok.out (hat4.out.more hbr.out) hR2 hrok.out).mono ?_; rintro e w5 ⟨rfl, hb5⟩
            rw [hV.out]
            clear q0 q1 q2 q3 c0 c1 c2 c3 c4 c5
            replace hb5 := Lib.hid (hb.out.trans (hb5.mono hb.out.size))
            have hQ5 := Lib.hid ((hQ0.out.below hb5.out (lt_of_heap hQ0.out)).alloc (.cells #[.int .i64 st, .int .i64 2, .string t1] 29))
            have hT5 := Lib.hid ((hT0.out.below hb5.out (lt_of_heap hT0.out)).alloc (.cells #[.int .i64 st, .int .i64 2, .string t1] 29))
            have hD5 := Lib.hid (Blk.new w5 29 #[.int .i64 st, .int .i64 2, .string t1])
            obtain ⟨q0, q1, q2, q3, c0, c1, c2, c3, c4, c5⟩ := kq.out _ hb5.out
            have kz : Hid (∀ wz, Below (w5.alloc (.cells #[.int .i64 st, .int .i64 2, .string t1] 29)).heap.size (w5.alloc (.cells #[.int .i64 st, .int .i64 2, .string t1] 29)) wz → wz.cell? ⟨w.heap.size, 3, none⟩ = some (.int .i64 now) ∧ wz.cell? ⟨w.heap.size + 1, 0, none⟩ = some (.string t0) ∧ wz.cell? ⟨w.heap.size + 1, 1, none⟩ = some (.string t1) ∧ wz.cell? ⟨w.heap.size + 1, 2, none⟩ = some (.string t2) ∧ wz.cell? ⟨w.heap.size + 1, 3, none⟩ = some (.int .i64 t3) ∧ wz.cell? ⟨w.heap.size + 1, 4, none⟩ = some (.int .i64 t4) ∧ wz.cell? ⟨w.heap.size + 1, 5, none⟩ = some (.int .i64 t5) ∧ wz.cell? ⟨w5.heap.size, 0, none⟩ = some (.int .i64 st) ∧ wz.cell? ⟨w5.heap.size, 1, none⟩ = some (.int .i64 2) ∧ wz.cell? ⟨w5.heap.size, 2, none⟩ = some (.string t1)) := fun wz h => by
              have q0 := hQ5.out.below h (lt_of_heap hQ5.out)
              have q1 := hT5.out.below h (lt_of_heap hT5.out)
              have q2 := hD5.out.below h (lt_of_heap hD5.out)
              exact ⟨q0.cell 3, q1.cell 0, q1.cell 1, q1.cell 2, q1.cell 3, q1.cell 4, q1.cell 5, q2.cell 0, q2.cell 1, q2.cell 2⟩
            have hb2 : Hid (Below (w5.alloc (.cells #[.int .i64 st, .int .i64 2, .string t1] 29)).heap.size (w5.alloc (.cells #[.int .i64 st, .int .i64 2, .string t1] 29)) (w5.alloc (.cells #[.int .i64 st, .int .i64 2, .string t1] 29))) := Below.refl _ _
            go_wp2_with fail
            clear q0 q1 q2 q3 c0 c1 c2 c3 c4 c5
            go_region_held3 (fun wz => wz.cell? ⟨w.heap.size, 3, none⟩ = some (.int .i64 now) ∧ wz.cell? ⟨w.heap.size + 1, 0, none⟩ = some (.string t0) ∧ wz.cell? ⟨w.heap.size + 1, 1, none⟩ = some (.string t1) ∧ wz.cell? ⟨w.heap.size + 1, 2, none⟩ = some (.string t2) ∧ wz.cell? ⟨w.heap.size + 1, 3, none⟩ = some (.int .i64 t3) ∧ wz.cell? ⟨w.heap.size + 1, 4, none⟩ = some (.int .i64 t4) ∧ wz.cell? ⟨w.heap.size + 1, 5, none⟩ = some (.int .i64 t5) ∧ wz.cell? ⟨w5.heap.size, 0, none⟩ = some (.int .i64 st) ∧ wz.cell? ⟨w5.heap.size, 1, none⟩ = some (.int .i64 2) ∧ wz.cell? ⟨w5.heap.size, 2, none⟩ = some (.string t1))
              ((refine kz.out _ ?_; (repeat (first | (with_reducible exact hb2.out) | (with_reducible refine below_set ?_ (by first | exact Nat.le_refl _ | exact hb2.out.size | (simp; done) | (simp; omega)) _ _) | (with_reducible refine below_new ?_ _) | (with_reducible refine below_dr ?_)))))
              (first
                | (go_at_call 29; refine (rstatus_any ⟨t0, t1, t2, t3, t4, t5⟩ now _).mono ?_; rintro e wq ⟨rfl, hbq⟩; replace hb2 := Lib.hid (by first | exact hb2.out.trans (hbq.mono hb2.out.size) | exact (below_dr hb2.out).trans (hbq.mono (below_dr hb2.out).size)); clear hbq; rw [hst.out]))
            all_goals
              go_wp2_with fail
              go_ret
              exact ⟨ret_bool (by simp), (below_new (hbw.out.trans (hb5.out.mono hbw.out.size)) _).trans (hb2.out.mono (below_new (hbw.out.trans (hb5.out.mono hbw.out.size)) _).size)⟩
      · have hd : (tvalid ⟨t0, t1, t2, t3, t4, t5⟩ != 0) = true := by simpa using hx
        generalize htv : tvalid ⟨t0, t1, t2, t3, t4, t5⟩ = tv at *
        replace htv := Lib.hid htv
        replace hx := Lib.hid hx
        go_enter Try.func8, Try.ntmps8
        go_wp2_with fail
        refine (small_any A l n c _ h'.out hm).mono ?_; rintro e w1 ⟨rfl, hb1⟩
        rw [hs.out]
        obtain ⟨q0, q1, q2, q3, c0, c1, c2, c3, c4, c5⟩ := kq.out _ hb1
        replace hb1 := Lib.hid hb1
        go_wp2_with fail
        refine (small_any C cc m k _ (h2'.out.more hb1.out) hm2).mono ?_; rintro e w2 ⟨rfl, hb2⟩
        rw [hs2.out]
        clear q0 q1 q2 q3 c0 c1 c2 c3 c4 c5
        replace hb2 := Lib.hid (hb1.out.trans (hb2.mono hb1.out.size))
        obtain ⟨q0, q1, q2, q3, c0, c1, c2, c3, c4, c5⟩ := kq.out _ hb2.out
        go_wp2_with fail
        rw [← hv.out]
        refine (rtvalid_any _ _).mono ?_; rintro e w3 ⟨rfl, hb3⟩
        clear q0 q1 q2 q3 c0 c1 c2 c3 c4 c5
        replace hb3 := Lib.hid (hb2.out.trans (hb3.mono hb2.out.size))
        rw [htv.out]
        replace hb3 := Lib.hid (hbw.out.trans (hb3.out.mono hbw.out.size))
        go_wp2_with fail
        refine (example_any _).mono ?_; rintro e wz ⟨rfl, hbz⟩
        go_wp2_with fail
        go_ret
        exact ⟨rfl, hb3.out.trans (hbz.mono hb3.out.size)⟩
end Go.Proofs.Ytiggpgeldigknaa
