/- Authorization: Denies, walked. -/
import Derived.Test.YtiggpgeldigknaaL1
set_option linter.unusedVariables false
set_option linter.unusedSimpArgs false
namespace Go.Proofs.Ytiggpgeldigknaa
open Go.RowKit
def statD (l : List Tk) (id : ByteArray) (now : Int) : Int := match findT l id with | some t => statT t now | none => 4
theorem local_stat (l : List Tk) (id : ByteArray) (now : Int) : (localT l [] id now).1 = statD l id now := by
  unfold localT inT statD
  cases findT l id <;> rfl
theorem central_stat (l : List Tk) (id : ByteArray) (now : Int) : (centralT l id [] now).1 = statD l id now := by
  unfold statD
  cases h : findT l id with
  | none => rw [central_none l id [] now h]
  | some t => rw [central_some l id [] now t h]; simp [cenS, busyB]
set_option maxRecDepth 100000 in
set_option maxHeartbeats 2000000 in
theorem lawDenies (A : Option Addr) (l : List Tk) (n c : Nat) (C : Option Addr) (m k : Nat) (id : ByteArray) (now : Int) (w : World) (h : TAt w w.heap.size A n l) (hm : n ≤ maxLen) :
    Calls Try.prog 6 #[.agg #[.slice A n c, .slice C m k, .string id, .int .i64 now]] w fun e w' => e = .returned (.bool true) ∧ Below w.heap.size w w' := by
  have hm' : n ≤ 2 ^ 63 - 1 := hm
  have hfl := field0
  have ln := Lib.hid h.len
  have hQ := Lib.hid (Blk.new w 24 #[.slice A n c, .slice C m k, .string id, .int .i64 now])
  have kq : Hid (∀ wz, Below (w.alloc (.cells #[.slice A n c, .slice C m k, .string id, .int .i64 now] 24)).heap.size (w.alloc (.cells #[.slice A n c, .slice C m k, .string id, .int .i64 now] 24)) wz → wz.cell? ⟨w.heap.size, 0, none⟩ = some (.slice A n c) ∧ wz.cell? ⟨w.heap.size, 1, none⟩ = some (.slice C m k) ∧ wz.cell? ⟨w.heap.size, 2, none⟩ = some (.string id) ∧ wz.cell? ⟨w.heap.size, 3, none⟩ = some (.int .i64 now)) := fun wz h => by
    have q0 := hQ.out.below h (lt_of_heap hQ.out)
    exact ⟨q0.cell 0, q0.cell 1, q0.cell 2, q0.cell 3⟩
  have hbw := Lib.hid (a1 w (.cells #[.slice A n c, .slice C m k, .string id, .int .i64 now] 24))
  have h' := Lib.hid (h.more (a1 w (.cells #[.slice A n c, .slice C m k, .string id, .int .i64 now] 24)))
  clear h
  cases hs : smallT l with
  | false =>
    replace hs := Lib.hid hs
    go_enter Try.func6, Try.ntmps6
    go_wp2_with fail
    refine (small_any A l n c _ h'.out hm).mono ?_; rintro e w1 ⟨rfl, hb1⟩
    rw [hs.out]
    replace hb1 := Lib.hid (hbw.out.trans (hb1.mono hbw.out.size))
    go_wp2_with fail
    refine (example_any _).mono ?_; rintro e w2 ⟨rfl, hb2⟩
    go_wp2_with fail
    go_ret
    exact ⟨rfl, hb1.out.trans (hb2.mono hb1.out.size)⟩
  | true =>
    have hok := Lib.hid (tk_ok hs)
    replace hs := Lib.hid hs
    by_cases hg : id.size ≤ 100
    · have gid := len100 hg
      have hLs := Lib.hid (local_stat l id now)
      have hCs := Lib.hid (central_stat l id now)
      generalize hsd : statD l id now = sd at hLs hCs
      replace hsd := Lib.hid hsd
      go_enter Try.func6, Try.ntmps6
      go_wp2_with fail
      refine (small_any A l n c _ h'.out hm).mono ?_; rintro e w1 ⟨rfl, hb1⟩
      rw [hs.out]
      obtain ⟨c0, c1, c2, c3⟩ := kq.out _ hb1
      replace hb1 := Lib.hid hb1
      go_wp2_with fail
      clear c0 c1 c2 c3
      go_loopw [3, 21] (fun st i wr => ∃ j : Nat, j ≤ n ∧ st = .int .i64 4 ∧ i = .int .i64 j ∧ Hid (Below (w.alloc (.cells #[.slice A n c, .slice C m k, .string id, .int .i64 now] 24)).heap.size (w.alloc (.cells #[.slice A n c, .slice C m k, .string id, .int .i64 now] 24)) wr) ∧ Hid (findT l id = findT (l.drop j) id)) (fun _ i _ => n - (intOf i).toNat)
      case atStart => exact ⟨0, Nat.zero_le _, rfl, rfl, hb1.out, rfl⟩
      case round =>
        obtain ⟨j, hj, rfl, rfl, hb, hx⟩ := hrel
        clear hb1
        by_cases hlt : j < n
        · have hjl : j < l.length := by rw [ln.out]; exact hlt
          have hst := Lib.hid (find_step l id j hjl)
          obtain ⟨ad, hA, hbl, e0, e1, e2, e3, e4, e5⟩ := TAt.cell (h'.out.below hb.out (Nat.le_refl _)) hlt
          subst hA
          have ho := (hok.out _ (List.getElem_mem hjl)).1
          generalize l[j] = t at *
          obtain ⟨t0, t1, t2, t3, t4, t5⟩ := t
          simp only at e0 e1 e2 e3 e4 e5 ho
          have hb2 : Hid (Below (w.alloc (.cells #[.slice (some ad) n c, .slice C m k, .string id, .int .i64 now] 24)).heap.size (w.alloc (.cells #[.slice (some ad) n c, .slice C m k, .string id, .int .i64 now] 24)) (wr.alloc (.cells #[.string t0, .string t1, .string t2, .int .i64 t3, .int .i64 t4, .int .i64 t5] 33))) := below_new hb.out _
          have hzr : w.heap.size < wr.heap.size := by have := hb.out.size; simp at this; omega
          have hT := Lib.hid (Blk.new wr 33 #[.string t0, .string t1, .string t2, .int .i64 t3, .int .i64 t4, .int .i64 t5])
          obtain ⟨c0, c1, c2, c3⟩ := kq.out _ hb.out
          cases hsm : same t0 id with
          | true =>
            have hF : Hid (statD l id now = statT ⟨t0, t1, t2, t3, t4, t5⟩ now) := by show _ = _; rw [statD, hx.out, hst.out, hsm]; rfl
            generalize hsx : statT ⟨t0, t1, t2, t3, t4, t5⟩ now = sx at hF
            replace hLs : Hid ((localT l [] id now).1 = sx) := by show _ = _; rw [hLs.out, ← hsd.out, hF.out]
            replace hCs : Hid ((centralT l id [] now).1 = sx) := by show _ = _; rw [hCs.out, ← hsd.out, hF.out]
            replace hsx := Lib.hid hsx
            replace hsm := Lib.hid hsm
            go_wp2_with fail
            refine (rsame_any t0 id _ ho gid).mono ?_; rintro e w2 ⟨rfl, hb3⟩
            rw [hsm.out]
            clear c0 c1 c2 c3
            have hT2 := hT.out.below hb3 (lt_of_heap hT.out)
            have q0 := hT2.cell 0
            have q1 := hT2.cell 1
            have q2 := hT2.cell 2
            have q3 := hT2.cell 3
            have q4 := hT2.cell 4
            have q5 := hT2.cell 5
            simp only [List.getElem?_toArray, List.getElem?_cons_zero, List.getElem?_cons_succ] at q0 q1 q2 q3 q4 q5
            replace hT2 := Lib.hid hT2
            replace hb3 := Lib.hid (hb2.out.trans (hb3.mono hb2.out.size))
            obtain ⟨c0, c1, c2, c3⟩ := kq.out _ hb3.out
            have hv : Hid (tkV ⟨t0, t1, t2, t3, t4, t5⟩ = .agg #[.string t0, .string t1, .string t2, .int .i64 t3, .int .i64 t4, .int .i64 t5]) := rfl
            go_wp2_with fail
            rw [← hv.out]
            refine (rstatus_any _ now _).mono ?_; rintro e w3 ⟨rfl, hb4⟩
            rw [hsx.out]
            have hbx := Lib.hid (hb3.out.trans (hb4.mono hb3.out.size))
            clear hb4 hb2 hb c0 c1 c2 c3 q0 q1 q2 q3 q4 q5 e0 e1 e2 e3 e4 e5
            obtain ⟨⟨d1, d2, d3⟩, hd⟩ : ∃ d : Dec, localT l [] id now = d := ⟨_, rfl⟩
            have hd1 : Hid (d1 = sx) := by have := hLs.out; rw [hd] at this; exact this
            have hV : Hid (decV (localT l [] id now) = .agg #[.int .i64 sx, .int .i64 d2, .string d3]) := by show _ = _; rw [hd, ← hd1.out]; rfl
            replace hd := Lib.hid hd
            obtain ⟨⟨f1, f2, f3⟩, hf⟩ : ∃ d : Dec, centralT l id [] now = d := ⟨_, rfl⟩
            have hf1 : Hid (f1 = sx) := by have := hCs.out; rw [hf] at this; exact this
            have hVc : Hid (decV (centralT l id [] now) = .agg #[.int .i64 sx, .int .i64 f2, .string f3]) := by show _ = _; rw [hf, ← hf1.out]; rfl
            replace hf := Lib.hid hf
            obtain ⟨c0, c1, c2, c3⟩ := kq.out _ hbx.out
            go_wp2_with fail
            refine (local_any _ l n c id none [] 0 0 1 now _ (h'.out.more hbx.out) hm gid hok.out (tnil _ _) (by decide) (fun t h => by simp at h)).mono ?_; rintro e wl ⟨rfl, hbl⟩
            rw [hV.out]
            clear c0 c1 c2 c3
            have hbl2 : Hid (Below (w.alloc (.cells #[.slice (some ad) n c, .slice C m k, .string id, .int .i64 now] 24)).heap.size (w.alloc (.cells #[.slice (some ad) n c, .slice C m k, .string id, .int .i64 now] 24)) wl) := hbx.out.trans (hbl.mono hbx.out.size)
            obtain ⟨c0, c1, c2, c3⟩ := kq.out _ hbl2.out
            have hzl : w.heap.size < wl.heap.size := by have := hbl2.out.size; simp at this; omega
            clear hbl
            go_wp2_with fail
            refine (central_any _ l n c id none [] 0 0 now _ ((h'.out.more hbl2.out).more (a1 _ _)) hm gid hok.out (gnil _ _) (by decide) (fun s h => by simp at h)).mono ?_; rintro e wc ⟨rfl, hbc⟩
            rw [hVc.out]
            replace hbc := Lib.hid ((below_a hbc))
            go_wp2_with fail
            go_ret
            exact ⟨ret_bool (by simp), (below_a hbl2.out).trans (hbc.out.mono (below_a hbl2.out).size)⟩
          | false =>
            have hF : Hid (findT l id = findT (l.drop (j + 1)) id) := by show _ = _; rw [hx.out, hst.out, hsm]; rfl
            replace hsm := Lib.hid hsm
            go_wp2_with fail
            refine (rsame_any t0 id _ ho gid).mono ?_; rintro e w2 ⟨rfl, hb3⟩
            rw [hsm.out]
            replace hb3 := Lib.hid (hb2.out.trans (hb3.mono hb2.out.size))
            go_wp2_with fail
            go_roundw
            case rel => exact ⟨j + 1, by omega, rfl, by go_num, hb3.out, hF⟩
            case measure => simp [intOf]; omega
        · have hF : Hid (statD l id now = 4) := by show _ = _; rw [statD, hx.out, List.drop_of_length_le (by rw [ln.out]; omega)]; rfl
          obtain ⟨sx, hsx⟩ : ∃ sx : Int, sx = 4 := ⟨_, rfl⟩
          replace hLs : Hid ((localT l [] id now).1 = sx) := by show _ = _; rw [hLs.out, ← hsd.out, hF.out, hsx]
          replace hCs : Hid ((centralT l id [] now).1 = sx) := by show _ = _; rw [hCs.out, ← hsd.out, hF.out, hsx]
          subst hsx
          have hbx := hb
          obtain ⟨⟨d1, d2, d3⟩, hd⟩ : ∃ d : Dec, localT l [] id now = d := ⟨_, rfl⟩
          have hd1 : Hid (d1 = 4) := by have := hLs.out; rw [hd] at this; exact this
          have hV : Hid (decV (localT l [] id now) = .agg #[.int .i64 4, .int .i64 d2, .string d3]) := by show _ = _; rw [hd, ← hd1.out]; rfl
          replace hd := Lib.hid hd
          obtain ⟨⟨f1, f2, f3⟩, hf⟩ : ∃ d : Dec, centralT l id [] now = d := ⟨_, rfl⟩
          have hf1 : Hid (f1 = 4) := by have := hCs.out; rw [hf] at this; exact this
          have hVc : Hid (decV (centralT l id [] now) = .agg #[.int .i64 4, .int .i64 f2, .string f3]) := by show _ = _; rw [hf, ← hf1.out]; rfl
          replace hf := Lib.hid hf
          obtain ⟨c0, c1, c2, c3⟩ := kq.out _ hbx.out
          go_wp2_with fail
          refine (local_any A l n c id none [] 0 0 1 now _ (h'.out.more hbx.out) hm gid hok.out (tnil _ _) (by decide) (fun t h => by simp at h)).mono ?_; rintro e wl ⟨rfl, hbl⟩
          rw [hV.out]
          clear c0 c1 c2 c3
          have hbl2 : Hid (Below (w.alloc (.cells #[.slice A n c, .slice C m k, .string id, .int .i64 now] 24)).heap.size (w.alloc (.cells #[.slice A n c, .slice C m k, .string id, .int .i64 now] 24)) wl) := hbx.out.trans (hbl.mono hbx.out.size)
          obtain ⟨c0, c1, c2, c3⟩ := kq.out _ hbl2.out
          have hzl : w.heap.size < wl.heap.size := by have := hbl2.out.size; simp at this; omega
          clear hbl
          go_wp2_with fail
          refine (central_any A l n c id none [] 0 0 now _ ((h'.out.more hbl2.out).more (a1 _ _)) hm gid hok.out (gnil _ _) (by decide) (fun s h => by simp at h)).mono ?_; rintro e wc ⟨rfl, hbc⟩
          rw [hVc.out]
          replace hbc := Lib.hid ((below_a hbc))
          go_wp2_with fail
          go_ret
          exact ⟨ret_bool (by simp), (below_a hbl2.out).trans (hbc.out.mono (below_a hbl2.out).size)⟩
    · go_enter Try.func6, Try.ntmps6
      go_wp2_with fail
      refine (small_any A l n c _ h'.out hm).mono ?_; rintro e w1 ⟨rfl, hb1⟩
      rw [hs.out]
      obtain ⟨c0, c1, c2, c3⟩ := kq.out _ hb1
      replace hb1 := Lib.hid (hbw.out.trans (hb1.mono hbw.out.size))
      go_wp2_with fail
      refine (example_any _).mono ?_; rintro e w2 ⟨rfl, hb2⟩
      go_wp2_with fail
      go_ret
      exact ⟨rfl, hb1.out.trans (hb2.mono hb1.out.size)⟩
end Go.Proofs.Ytiggpgeldigknaa
