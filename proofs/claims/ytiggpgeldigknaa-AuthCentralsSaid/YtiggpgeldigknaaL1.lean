/- Authorization: the laws, walked. -/
import Derived.Test.YtiggpgeldigknaaAz
import Derived.Test.YtiggpgeldigknaaArgs
set_option linter.unusedVariables false
set_option linter.unusedSimpArgs false
namespace Go.Proofs.Ytiggpgeldigknaa
open Go.RowKit
set_option maxRecDepth 100000 in
set_option maxHeartbeats 2000000 in
theorem lawEnds (token group : ByteArray) (t : Tk) (w : World) (h1 : token.size ≤ maxLen) (h2 : group.size ≤ maxLen) (h3 : TkOk t) :
    Calls Try.prog 4 #[.string token, .string group, tkV t] w fun e w' => e = .returned (.bool true) ∧ Below w.heap.size w w' := by
  unfold tkV
  obtain ⟨t0, t1, t2, t3, t4, t5⟩ := t
  have hT := Lib.hid (Blk.new w 33 #[.string t0, .string t1, .string t2, .int .i64 t3, .int .i64 t4, .int .i64 t5])
  have kz : Hid (∀ wz, Below (w.alloc (.cells #[.string t0, .string t1, .string t2, .int .i64 t3, .int .i64 t4, .int .i64 t5] 33)).heap.size (w.alloc (.cells #[.string t0, .string t1, .string t2, .int .i64 t3, .int .i64 t4, .int .i64 t5] 33)) wz → wz.cell? ⟨w.heap.size, 0, none⟩ = some (.string t0) ∧ wz.cell? ⟨w.heap.size, 1, none⟩ = some (.string t1) ∧ wz.cell? ⟨w.heap.size, 2, none⟩ = some (.string t2) ∧ wz.cell? ⟨w.heap.size, 3, none⟩ = some (.int .i64 t3) ∧ wz.cell? ⟨w.heap.size, 4, none⟩ = some (.int .i64 t4) ∧ wz.cell? ⟨w.heap.size, 5, none⟩ = some (.int .i64 t5)) := fun wz h => by
    have q0 := hT.out.below h (lt_of_heap hT.out)
    exact ⟨q0.cell 0, q0.cell 1, q0.cell 2, q0.cell 3, q0.cell 4, q0.cell 5⟩
  have hv : Hid (tkV ⟨t0, t1, t2, t3, t4, t5⟩ = .agg #[.string t0, .string t1, .string t2, .int .i64 t3, .int .i64 t4, .int .i64 t5]) := rfl
  have hb2 : Hid (Below (w.alloc (.cells #[.string t0, .string t1, .string t2, .int .i64 t3, .int .i64 t4, .int .i64 t5] 33)).heap.size (w.alloc (.cells #[.string t0, .string t1, .string t2, .int .i64 t3, .int .i64 t4, .int .i64 t5] 33)) (w.alloc (.cells #[.string t0, .string t1, .string t2, .int .i64 t3, .int .i64 t4, .int .i64 t5] 33))) := Below.refl _ _
  have hbw := Lib.hid (a1 w (.cells #[.string t0, .string t1, .string t2, .int .i64 t3, .int .i64 t4, .int .i64 t5] 33))
  by_cases hg : token.size ≤ 100 ∧ group.size ≤ 100 ∧ t0.size ≤ 100
  · obtain ⟨g1, g2, g3⟩ := hg
    generalize hE : endsT token group t0 t1 = eb
    replace hE := Lib.hid hE
    go_enter Try.func4, Try.ntmps4
    go_wp2_with fail
    go_region_held3 (fun wz => wz.cell? ⟨w.heap.size, 0, none⟩ = some (.string t0) ∧ wz.cell? ⟨w.heap.size, 1, none⟩ = some (.string t1) ∧ wz.cell? ⟨w.heap.size, 2, none⟩ = some (.string t2) ∧ wz.cell? ⟨w.heap.size, 3, none⟩ = some (.int .i64 t3) ∧ wz.cell? ⟨w.heap.size, 4, none⟩ = some (.int .i64 t4) ∧ wz.cell? ⟨w.heap.size, 5, none⟩ = some (.int .i64 t5))
      ((refine kz.out _ ?_; (repeat (first | (with_reducible exact hb2.out) | (with_reducible refine below_set ?_ (by first | exact Nat.le_refl _ | exact hb2.out.size | (simp; done) | (simp; omega)) _ _) | (with_reducible refine below_new ?_ _) | (with_reducible refine below_dr ?_)))))
      (first
        | (go_at_call 24; refine (ends_any token group ⟨t0, t1, t2, t3, t4, t5⟩ _ h1 h2 h3).mono ?_; rintro e wq ⟨rfl, hbq⟩; replace hb2 := Lib.hid (by first | exact hb2.out.trans (hbq.mono hb2.out.size) | exact (below_dr hb2.out).trans (hbq.mono (below_dr hb2.out).size)); clear hbq; rw [hE.out])
        | (go_at_call 25; refine (rends_any token group ⟨t0, t1, t2, t3, t4, t5⟩ _ h1 h2 h3).mono ?_; rintro e wq ⟨rfl, hbq⟩; replace hb2 := Lib.hid (by first | exact hb2.out.trans (hbq.mono hb2.out.size) | exact (below_dr hb2.out).trans (hbq.mono (below_dr hb2.out).size)); clear hbq; rw [hE.out]))
    all_goals
      go_wp2_with fail
      go_ret
      exact ⟨ret_bool (by simp), hbw.out.trans (hb2.out.mono hbw.out.size)⟩
  · go_enter Try.func4, Try.ntmps4
    go_wp2_with (go_at_call 21; refine (example_any _).mono ?_; rintro e w1 ⟨rfl, hb1⟩)
    all_goals first
      | (go_ret; exact ⟨rfl, below_a hb1⟩)
      | (exfalso; exact hg ⟨by omega, by omega, by omega⟩)
theorem tk_ok {l : List Tk} (h : smallT l = true) : ∀ t ∈ l, TkOk t := by
  intro t ht
  have hv := (small_ok h).1 t ht
  have key : ∀ s : ByteArray, (s.toList.isEmpty = false → nameB s = true) → s.size ≤ maxLen := by
    intro s hs
    cases he : s.toList.isEmpty with
    | true =>
      rw [ByteArray.toList_eq] at he
      have : s.data.toList.length = 0 := by rw [List.isEmpty_iff.1 he]; rfl
      have e2 : s.size = s.data.toList.length := rfl
      unfold maxLen; omega
    | false => have := name_len (hs he); unfold maxLen; omega
  unfold tvalid at hv
  split at hv
  · cases hv
  rename_i hn
  simp only [not_or, not_and, Bool.not_eq_false] at hn
  exact ⟨by have := name_len hn.1; unfold maxLen; omega, key _ hn.2.1, key _ hn.2.2⟩
theorem len100 {s : ByteArray} (h : s.size ≤ 100) : s.size ≤ maxLen := by unfold maxLen; omega
set_option maxRecDepth 100000 in
set_option maxHeartbeats 2000000 in
theorem lawCentrals (A : Option Addr) (l : List Tk) (n c : Nat) (C : Option Addr) (m k : Nat) (id : ByteArray) (now : Int) (G : Option Addr) (act : List ByteArray) (mg kg : Nat) (w : World) (h : TAt w w.heap.size A n l) (hm : n ≤ maxLen)
    (h2 : GAt w w.heap.size G mg act) (hm2 : mg ≤ maxLen) (hl2 : SOk act) :
    Calls Try.prog 3 #[.agg #[.slice A n c, .slice C m k, .string id, .int .i64 now], .slice G mg kg] w fun e w' => e = .returned (.bool true) ∧ Below w.heap.size w w' := by
  have hQ := Lib.hid (Blk.new w 24 #[.slice A n c, .slice C m k, .string id, .int .i64 now])
  have kq : Hid (∀ wz, Below (w.alloc (.cells #[.slice A n c, .slice C m k, .string id, .int .i64 now] 24)).heap.size (w.alloc (.cells #[.slice A n c, .slice C m k, .string id, .int .i64 now] 24)) wz → wz.cell? ⟨w.heap.size, 0, none⟩ = some (.slice A n c) ∧ wz.cell? ⟨w.heap.size, 1, none⟩ = some (.slice C m k) ∧ wz.cell? ⟨w.heap.size, 2, none⟩ = some (.string id) ∧ wz.cell? ⟨w.heap.size, 3, none⟩ = some (.int .i64 now)) := fun wz h => by
    have q0 := hQ.out.below h (lt_of_heap hQ.out)
    exact ⟨q0.cell 0, q0.cell 1, q0.cell 2, q0.cell 3⟩
  have hbw := Lib.hid (a1 w (.cells #[.slice A n c, .slice C m k, .string id, .int .i64 now] 24))
  have h' := Lib.hid (h.more (a1 w (.cells #[.slice A n c, .slice C m k, .string id, .int .i64 now] 24)))
  have h2' := Lib.hid (h2.more (a1 w (.cells #[.slice A n c, .slice C m k, .string id, .int .i64 now] 24)))
  clear h h2
  cases hs : smallT l with
  | false =>
    replace hs := Lib.hid hs
    go_enter Try.func3, Try.ntmps3
    go_wp2_with fail
    refine (small_any A l n c _ h'.out hm).mono ?_; rintro e w1 ⟨rfl, hb1⟩
    rw [hs.out]
    replace hb1 := Lib.hid (hbw.out.trans (hb1.mono hbw.out.size))
    go_wp2_with fail
    refine (example_any _).mono ?_; rintro e w2 ⟨rfl, hb2⟩
    go_wp2_with fail
    go_ret
    exact ⟨rfl, hb1.out.trans (hb2.mono hb1.out.size)⟩
  | true =>
    have hok := Lib.hid (tk_ok hs)
    replace hs := Lib.hid hs
    by_cases hg : mg ≤ 20 ∧ id.size ≤ 100
    · obtain ⟨g1, g2⟩ := hg
      have gid := len100 g2
      obtain ⟨⟨d1, d2, d3⟩, hd⟩ : ∃ d : Dec, centralT l id act now = d := ⟨_, rfl⟩
      have hV : Hid (decV (centralT l id act now) = .agg #[.int .i64 d1, .int .i64 d2, .string d3]) := by show _ = _; rw [hd]; rfl
      replace hd := Lib.hid hd
      go_enter Try.func3, Try.ntmps3
      go_wp2_with fail
      refine (small_any A l n c _ h'.out hm).mono ?_; rintro e w1 ⟨rfl, hb1⟩
      rw [hs.out]
      obtain ⟨c0, c1, c2, c3⟩ := kq.out _ hb1
      have hQ1 := Lib.hid (hQ.out.below hb1 (lt_of_heap hQ.out))
      have h1 := Lib.hid (h'.out.more hb1)
      have h21 := Lib.hid (h2'.out.more hb1)
      replace hb1 := Lib.hid (hbw.out.trans (hb1.mono hbw.out.size))
      have kz : Hid (∀ wz, Below (w1).heap.size (w1) wz → wz.cell? ⟨w.heap.size, 0, none⟩ = some (.slice A n c) ∧ wz.cell? ⟨w.heap.size, 2, none⟩ = some (.string id) ∧ wz.cell? ⟨w.heap.size, 3, none⟩ = some (.int .i64 now)) := fun wz h => by
        have q0 := hQ1.out.below h (lt_of_heap hQ1.out)
        exact ⟨q0.cell 0, q0.cell 2, q0.cell 3⟩
      have hb2 : Hid (Below (w1).heap.size (w1) (w1)) := Below.refl _ _
      go_wp2_with fail
      go_region_held3 (fun wz => wz.cell? ⟨w.heap.size, 0, none⟩ = some (.slice A n c) ∧ wz.cell? ⟨w.heap.size, 2, none⟩ = some (.string id) ∧ wz.cell? ⟨w.heap.size, 3, none⟩ = some (.int .i64 now))
        ((refine kz.out _ ?_; (repeat (first | (with_reducible exact hb2.out) | (with_reducible refine below_set ?_ (by first | exact Nat.le_refl _ | exact hb2.out.size | (simp; done) | (simp; omega)) _ _) | (with_reducible refine below_new ?_ _) | (with_reducible refine below_dr ?_)))))
        (first
          | (go_at_call 22; refine (central_any A l n c id G act mg kg now _ (h1.out.more (by first | exact hb2.out | exact below_dr hb2.out)) hm gid hok.out (h21.out.more (by first | exact hb2.out | exact below_dr hb2.out)) hm2 hl2).mono ?_; rintro e wq ⟨rfl, hbq⟩; replace hb2 := Lib.hid (by first | exact hb2.out.trans (hbq.mono hb2.out.size) | exact (below_dr hb2.out).trans (hbq.mono (below_dr hb2.out).size)); clear hbq; rw [hV.out])
          | (go_at_call 23; refine (rcentral_any A l n c id G act mg kg now _ (h1.out.more (by first | exact hb2.out | exact below_dr hb2.out)) hm gid hok.out (h21.out.more (by first | exact hb2.out | exact below_dr hb2.out)) hm2 hl2).mono ?_; rintro e wq ⟨rfl, hbq⟩; replace hb2 := Lib.hid (by first | exact hb2.out.trans (hbq.mono hb2.out.size) | exact (below_dr hb2.out).trans (hbq.mono (below_dr hb2.out).size)); clear hbq; rw [hV.out]))
      all_goals
        go_wp2_with fail
        go_ret
        exact ⟨rfl, hb1.out.trans (hb2.out.mono hb1.out.size)⟩
    · go_enter Try.func3, Try.ntmps3
      go_wp2_with fail
      refine (small_any A l n c _ h'.out hm).mono ?_; rintro e w1 ⟨rfl, hb1⟩
      rw [hs.out]
      obtain ⟨c0, c1, c2, c3⟩ := kq.out _ hb1
      replace hb1 := Lib.hid (hbw.out.trans (hb1.mono hbw.out.size))
      go_wp2_with (go_at_call 21; refine (example_any _).mono ?_; rintro e w2 ⟨rfl, hb2⟩; replace hb2 := Lib.hid (hb1.out.trans (hb2.mono hb1.out.size)))
      all_goals first
        | (go_ret; exact ⟨rfl, hb2.out⟩)
        | (exfalso; exact hg ⟨by omega, by omega⟩)
set_option maxRecDepth 100000 in
set_option maxHeartbeats 2000000 in
theorem lawLocals (A : Option Addr) (l : List Tk) (n c : Nat) (C : Option Addr) (cc : List Tk) (m k : Nat) (id : ByteArray) (now : Int) (w : World) (h : TAt w w.heap.size A n l) (hm : n ≤ maxLen)
    (h2 : TAt w w.heap.size C m cc) (hm2 : m ≤ maxLen) :
    Calls Try.prog 5 #[.agg #[.slice A n c, .slice C m k, .string id, .int .i64 now]] w fun e w' => e = .returned (.bool true) ∧ Below w.heap.size w w' := by
  have hQ := Lib.hid (Blk.new w 24 #[.slice A n c, .slice C m k, .string id, .int .i64 now])
  have kq : Hid (∀ wz, Below (w.alloc (.cells #[.slice A n c, .slice C m k, .string id, .int .i64 now] 24)).heap.size (w.alloc (.cells #[.slice A n c, .slice C m k, .string id, .int .i64 now] 24)) wz → wz.cell? ⟨w.heap.size, 0, none⟩ = some (.slice A n c) ∧ wz.cell? ⟨w.heap.size, 1, none⟩ = some (.slice C m k) ∧ wz.cell? ⟨w.heap.size, 2, none⟩ = some (.string id) ∧ wz.cell? ⟨w.heap.size, 3, none⟩ = some (.int .i64 now)) := fun wz h => by
    have q0 := hQ.out.below h (lt_of_heap hQ.out)
    exact ⟨q0.cell 0, q0.cell 1, q0.cell 2, q0.cell 3⟩
  have hbw := Lib.hid (a1 w (.cells #[.slice A n c, .slice C m k, .string id, .int .i64 now] 24))
  have h' := Lib.hid (h.more (a1 w (.cells #[.slice A n c, .slice C m k, .string id, .int .i64 now] 24)))
  have h2' := Lib.hid (h2.more (a1 w (.cells #[.slice A n c, .slice C m k, .string id, .int .i64 now] 24)))
  clear h h2
  cases hs : smallT l with
  | false =>
    replace hs := Lib.hid hs
    go_enter Try.func5, Try.ntmps5
    go_wp2_with fail
    refine (small_any A l n c _ h'.out hm).mono ?_; rintro e w1 ⟨rfl, hb1⟩
    rw [hs.out]
    replace hb1 := Lib.hid (hbw.out.trans (hb1.mono hbw.out.size))
    go_wp2_with fail
    refine (example_any _).mono ?_; rintro e w2 ⟨rfl, hb2⟩
    go_wp2_with fail
    go_ret
    exact ⟨rfl, hb1.out.trans (hb2.mono hb1.out.size)⟩
  | true =>
    have hok := Lib.hid (tk_ok hs)
    replace hs := Lib.hid hs
    cases hs2 : smallT cc with
    | false =>
      replace hs2 := Lib.hid hs2
      go_enter Try.func5, Try.ntmps5
      go_wp2_with fail
      refine (small_any A l n c _ h'.out hm).mono ?_; rintro e w1 ⟨rfl, hb1⟩
      rw [hs.out]
      obtain ⟨c0, c1, c2, c3⟩ := kq.out _ hb1
      have h21 := Lib.hid (h2'.out.more hb1)
      replace hb1 := Lib.hid (hbw.out.trans (hb1.mono hbw.out.size))
      go_wp2_with fail
      refine (small_any C cc m k _ h21.out hm2).mono ?_; rintro e w2 ⟨rfl, hb2⟩
      rw [hs2.out]
      replace hb2 := Lib.hid (hb1.out.trans (hb2.mono hb1.out.size))
      clear c0 c1 c2 c3
      go_wp2_with fail
      refine (example_any _).mono ?_; rintro e w3 ⟨rfl, hb3⟩
      go_wp2_with fail
      go_ret
      exact ⟨rfl, hb2.out.trans (hb3.mono hb2.out.size)⟩
    | true =>
      have hok2 := Lib.hid (tk_ok hs2)
      replace hs2 := Lib.hid hs2
      by_cases hg : id.size ≤ 100
      · have gid := len100 hg
        obtain ⟨⟨d1, d2, d3⟩, hd⟩ : ∃ d : Dec, localT l cc id now = d := ⟨_, rfl⟩
        have hV : Hid (decV (localT l cc id now) = .agg #[.int .i64 d1, .int .i64 d2, .string d3]) := by show _ = _; rw [hd]; rfl
        replace hd := Lib.hid hd
        go_enter Try.func5, Try.ntmps5
        go_wp2_with fail
        refine (small_any A l n c _ h'.out hm).mono ?_; rintro e w0 ⟨rfl, hb1⟩
        rw [hs.out]
        obtain ⟨c0, c1, c2, c3⟩ := kq.out _ hb1
        have h1 := Lib.hid (h'.out.more hb1)
        have h21 := Lib.hid (h2'.out.more hb1)
        have hQ0 := Lib.hid (hQ.out.below hb1 (lt_of_heap hQ.out))
        replace hb1 := Lib.hid (hbw.out.trans (hb1.mono hbw.out.size))
        go_wp2_with fail
        refine (small_any C cc m k _ h21.out hm2).mono ?_; rintro e w1 ⟨rfl, hb2⟩
        rw [hs2.out]
        clear c0 c1 c2 c3
        have hQ1 := Lib.hid ((hQ0.out.below hb2 (lt_of_heap hQ0.out)).alloc (.cells #[.int .i64 1, .slice A n c] 36))
        have hL1 := Lib.hid (Blk.new w1 36 #[.int .i64 1, .slice A n c])
        replace h1 := Lib.hid ((h1.out.more hb2).more (a1 _ (.cells #[.int .i64 1, .slice A n c] 36)))
        replace h21 := Lib.hid ((h21.out.more hb2).more (a1 _ (.cells #[.int .i64 1, .slice A n c] 36)))
        have hq := Lib.hid (hQ0.out.below hb2 (lt_of_heap hQ0.out))
        have c0 := hq.out.cell 0
        have c2 := hq.out.cell 2
        simp only [List.getElem?_toArray, List.getElem?_cons_zero, List.getElem?_cons_succ] at c0 c2
        replace hb1 := Lib.hid (hb1.out.trans (hb2.mono hb1.out.size))
        clear hb2
        have hb3 : Hid (Below w.heap.size w (w1.alloc (.cells #[.int .i64 1, .slice A n c] 36))) := below_new hb1.out _
        have kz : Hid (∀ wz, Below (w1.alloc (.cells #[.int .i64 1, .slice A n c] 36)).heap.size (w1.alloc (.cells #[.int .i64 1, .slice A n c] 36)) wz → wz.cell? ⟨w.heap.size, 1, none⟩ = some (.slice C m k) ∧ wz.cell? ⟨w.heap.size, 2, none⟩ = some (.string id) ∧ wz.cell? ⟨w.heap.size, 3, none⟩ = some (.int .i64 now) ∧ wz.cell? ⟨w1.heap.size, 0, none⟩ = some (.int .i64 1) ∧ wz.cell? ⟨w1.heap.size, 1, none⟩ = some (.slice A n c)) := fun wz h => by
          have q0 := hQ1.out.below h (lt_of_heap hQ1.out)
          have q1 := hL1.out.below h (lt_of_heap hL1.out)
          exact ⟨q0.cell 1, q0.cell 2, q0.cell 3, q1.cell 0, q1.cell 1⟩
        have hb2 : Hid (Below (w1.alloc (.cells #[.int .i64 1, .slice A n c] 36)).heap.size (w1.alloc (.cells #[.int .i64 1, .slice A n c] 36)) (w1.alloc (.cells #[.int .i64 1, .slice A n c] 36))) := Below.refl _ _
        go_wp2_with fail
        go_region_held3 (fun wz => wz.cell? ⟨w.heap.size, 1, none⟩ = some (.slice C m k) ∧ wz.cell? ⟨w.heap.size, 2, none⟩ = some (.string id) ∧ wz.cell? ⟨w.heap.size, 3, none⟩ = some (.int .i64 now) ∧ wz.cell? ⟨w1.heap.size, 0, none⟩ = some (.int .i64 1) ∧ wz.cell? ⟨w1.heap.size, 1, none⟩ = some (.slice A n c))
          ((refine kz.out _ ?_; (repeat (first | (with_reducible exact hb2.out) | (with_reducible refine below_set ?_ (by first | exact Nat.le_refl _ | exact hb2.out.size | (simp; done) | (simp; omega)) _ _) | (with_reducible refine below_new ?_ _) | (with_reducible refine below_dr ?_)))))
          (first
            | (go_at_call 26; refine (local_any A l n c id C cc m k 1 now _ (h1.out.more (by first | exact hb2.out | exact below_dr hb2.out)) hm gid hok.out (h21.out.more (by first | exact hb2.out | exact below_dr hb2.out)) hm2 hok2.out).mono ?_; rintro e wq ⟨rfl, hbq⟩; replace hb2 := Lib.hid (by first | exact hb2.out.trans (hbq.mono hb2.out.size) | exact (below_dr hb2.out).trans (hbq.mono (below_dr hb2.out).size)); clear hbq; rw [hV.out])
            | (go_at_call 27; refine (rlocal_any A l n c id C cc m k 1 now _ (h1.out.more (by first | exact hb2.out | exact below_dr hb2.out)) hm gid hok.out (h21.out.more (by first | exact hb2.out | exact below_dr hb2.out)) hm2 hok2.out).mono ?_; rintro e wq ⟨rfl, hbq⟩; replace hb2 := Lib.hid (by first | exact hb2.out.trans (hbq.mono hb2.out.size) | exact (below_dr hb2.out).trans (hbq.mono (below_dr hb2.out).size)); clear hbq; rw [hV.out]))
        all_goals
          go_wp2_with fail
          go_ret
          exact ⟨rfl, hb3.out.trans (hb2.out.mono hb3.out.size)⟩
      · go_enter Try.func5, Try.ntmps5
        go_wp2_with fail
        refine (small_any A l n c _ h'.out hm).mono ?_; rintro e w1 ⟨rfl, hb1⟩
        rw [hs.out]
        have hQ0 := Lib.hid (hQ.out.below hb1 (lt_of_heap hQ.out))
        obtain ⟨c0, c1, c2, c3⟩ := kq.out _ hb1
        have h21 := Lib.hid (h2'.out.more hb1)
        replace hb1 := Lib.hid (hbw.out.trans (hb1.mono hbw.out.size))
        go_wp2_with fail
        refine (small_any C cc m k _ h21.out hm2).mono ?_; rintro e w2 ⟨rfl, hb2⟩
        rw [hs2.out]
        have hq := Lib.hid (hQ0.out.below hb2 (lt_of_heap hQ0.out))
        clear c0 c1 c2 c3
        have c2 := hq.out.cell 2
        simp only [List.getElem?_toArray, List.getElem?_cons_zero, List.getElem?_cons_succ] at c2
        replace hb2 := Lib.hid (hb1.out.trans (hb2.mono hb1.out.size))
        go_wp2_with fail
        refine (example_any _).mono ?_; rintro e w3 ⟨rfl, hb3⟩
        go_wp2_with fail
        go_ret
        exact ⟨rfl, hb2.out.trans (hb3.mono hb2.out.size)⟩
end Go.Proofs.Ytiggpgeldigknaa
