/- Orders: copied, enter, find, Blocks of both, equality of a list with itself, walked. -/
import Derived.Test.YtpejfnfhbpckiaaOB
import Derived.Test.YtpejfnfhbpckiaaOwn
set_option linter.unusedVariables false
set_option linter.unusedSimpArgs false
namespace Go.Proofs.Ytpejfnfhbpckiaa
open Go.RowKit Go.Proofs.Ytpejfnfhbpckiaa.Ord
theorem o_info : (Try.prog.info? 33).map (fun i => (i.zero, i.size, i.bytes)) = some (some (Value.agg #[.int .i64 0, .int .i64 0, .string ⟨#[]⟩, .int .i64 0, .int .i64 0, .int .i64 0, .int .i64 0]), 7, 64) := by kernel_rfl
theorem o_one (l : List O) : ∀ u ∈ flat oC l, u.oneCell' = true := by
  intro u hu
  simp only [flat, List.mem_flatMap, oC] at hu
  obtain ⟨s, _, h⟩ := hu
  simp at h
  rcases h with rfl | rfl | rfl | rfl | rfl | rfl | rfl <;> rfl
abbrev OOwn (w : World) (base : Nat) (v : Value) (l : List O) : Prop := LOwn oC 7 33 w base v l
theorem setRow_new (w : World) (M C : Array Value) (t : TypeId) : (w.alloc (.cells M t)).setRow w.heap.size C = w.alloc (.cells C t) := by
  have e : (w.heap.push (.cells M t)).modify w.heap.size (fun o => match o with | .cells _ elem frozen => .cells C elem frozen | o => o) = w.heap.push (.cells C t) := by
    apply Array.ext_getElem?
    intro i
    rw [Array.getElem?_modify, Array.getElem?_push, Array.getElem?_push]
    by_cases h : i = w.heap.size
    · subst h; simp
    · rw [if_neg (fun g => h g.symm), if_neg h, if_neg h]
  exact congrArg (fun h => ({ w with heap := h } : World)) e
set_option maxRecDepth 100000 in
set_option maxHeartbeats 1000000 in
theorem copied_any (A : Option Addr) (l : List O) (n cap : Nat) (w : World) (h : OAt w w.heap.size A n l) (hm : n ≤ 1000) :
    Calls Try.prog 26 #[.slice A n cap] w fun e w' => e = .returned (.slice (some ⟨w.heap.size, 0, none⟩) n (n + 1)) ∧ OOwn w' w.heap.size (.slice (some ⟨w.heap.size, 0, none⟩) n (n + 1)) l ∧ Below w.heap.size w w' := by
  obtain ⟨i0, hi0, hz0, hz1, hz2⟩ := info_parts o_info
  have hn := Lib.hid h.len
  have hmk := made_row (P := Try.prog) w 22 33 i0 _ 7 Try.underlying22 hi0 hz0 hz1 n (n + 1) n (n + 1) rfl (by omega) (by omega) (by rw [hz2]; omega) (by omega)
  have hMs := size_madeCells (Value.agg #[.int .i64 0, .int .i64 0, .string ⟨#[]⟩, .int .i64 0, .int .i64 0, .int .i64 0, .int .i64 0]).cells ((n + 1) * 7)
  generalize madeCells (Value.agg #[.int .i64 0, .int .i64 0, .string ⟨#[]⟩, .int .i64 0, .int .i64 0, .int .i64 0, .int .i64 0]).cells ((n + 1) * 7) = M at *
  have hcp := run_copy_reads (P := Try.prog) (w.alloc (.cells M 33)) 22 22 3 33 i0 7 w.heap.size n (n + 1) (w.heap.size) A n cap M 33 (flat oC l) Try.underlying22 hi0 hz1 (heap_alloc_new w _) (h.2.alloc (Nat.le_refl _) _) (Nat.le_refl _) (by rw [hMs]; omega) (o_one l)
  rw [setRow_new] at hcp
  obtain ⟨C, hC⟩ : ∃ C, C = (flat oC l ++ M.toList.drop (n * 7)).toArray := ⟨_, rfl⟩
  rw [← hC] at hcp
  have hown : Hid (OOwn (w.alloc (.cells C 33)) w.heap.size (.slice (some ⟨w.heap.size, 0, none⟩) n (n + 1)) l) := by
    have hl : (flat oC l).length = n * 7 := by rw [flat_len oC_len, hn.out]
    have h0 := copied_own (w := w.alloc (.cells C 33)) (base := w.heap.size) (g := w.heap.size) (l := l) oC_len (c := n + 1) (heap_alloc_new w (.cells C 33)) (by rw [hC, hn.out]; simp [hl]) (by rw [hC]; simp [hl, hMs]; omega) (Nat.le_refl _) (by rw [hn.out]; omega) (by simp only [maxLen]; omega)
    rw [hn.out] at h0
    exact h0
  replace hMs := Lib.hid hMs
  replace hC := Lib.hid hC
  replace hcp : (Builtin.copy_ #[22, 22] 3 #[.slice (some ⟨w.heap.size, 0, none⟩) n (n + 1), .slice A n cap]).run Try.prog (w.alloc (.cells M 33)) = .ok (.int .i64 n) (w.alloc (.cells C 33)) := hcp
  replace h := Lib.hid h
  go_enter Try.func26, Try.ntmps26
  go_wp2_with fail
  go_ret
  exact ⟨rfl, hown.out, a1 _ _⟩
set_option maxRecDepth 100000 in
set_option maxHeartbeats 1000000 in
theorem enter_any (o : O) (s : Int) (w : World) (h0 : 0 ≤ o.notes) : Calls Try.prog 27 #[oV o, .int .i64 s] w fun e w' => e = .returned (oV (enter o s)) ∧ Below w.heap.size w w' := by
  obtain ⟨o0, o1, o2, o3, o4, o5, o6⟩ := o
  simp only at h0
  unfold oV
  by_cases hn : o6 < 2147483647
  · have hE : Hid (enter ⟨o0, o1, o2, o3, o4, o5, o6⟩ s = ⟨o0, o1, o2, o3, o4, s, o6 + 1⟩) := by show _ = _; simp [enter, hn]
    rw [hE.out]
    go_enter Try.func27, Try.ntmps27
    go_wp2_with fail
    refine bodyPost_ret (v := .agg #[.int .i64 o0, .int .i64 o1, .string o2, .int .i64 o3, .int .i64 o4, .int .i64 s, .int .i64 (o6 + 1)]) (by simp [results, Try.results27, go_sem]) rfl ⟨rfl, ?_⟩
    repeat (first | (with_reducible refine below_set ?_ (by omega) _ _) | (with_reducible refine below_new ?_ _) | (with_reducible refine below_drewN ?_ _) | (with_reducible refine below_dr ?_))
    exact Below.refl _ _
  · have hE : Hid (enter ⟨o0, o1, o2, o3, o4, o5, o6⟩ s = ⟨o0, o1, o2, o3, o4, s, o6⟩) := by show _ = _; simp [enter, hn]
    rw [hE.out]
    go_enter Try.func27, Try.ntmps27
    go_wp2_with fail
    refine bodyPost_ret (v := .agg #[.int .i64 o0, .int .i64 o1, .string o2, .int .i64 o3, .int .i64 o4, .int .i64 s, .int .i64 o6]) (by simp [results, Try.results27, go_sem]) rfl ⟨rfl, ?_⟩
    repeat (first | (with_reducible refine below_set ?_ (by omega) _ _) | (with_reducible refine below_new ?_ _) | (with_reducible refine below_drewN ?_ _) | (with_reducible refine below_dr ?_))
    exact Below.refl _ _
set_option maxRecDepth 100000 in
set_option maxHeartbeats 1000000 in
theorem find_any (A : Option Addr) (l : List O) (n cap : Nat) (id : Int) (w : World) (h : OAt w w.heap.size A n l) (hm : n ≤ maxLen) :
    Calls Try.prog 39 #[.slice A n cap, .int .i64 id] w fun e w' => e = .returned (.int .i64 (idx id 0 l)) ∧ Below w.heap.size w w' := by
  unfold maxLen at hm
  have hn := Lib.hid h.len
  replace h := Lib.hid h
  go_enter Try.func39, Try.ntmps39
  go_wp2_with fail
  go_loopw [5] (fun i wr => ∃ k : Nat, k ≤ n ∧ i = .int .i64 k ∧ Hid (Below w.heap.size w wr) ∧ Hid (idx id 0 l = idx id k (l.drop k))) (fun i _ => n - (intOf i).toNat)
  case atStart => exact ⟨0, Nat.zero_le _, rfl, Below.refl _ _, rfl⟩
  case round =>
    obtain ⟨k, hk, rfl, hb, hx⟩ := hrel
    by_cases hlt : k < n
    · have hkl : k < l.length := by rw [hn.out]; exact hlt
      have hst := Lib.hid (idxO_step id l k hkl)
      obtain ⟨ad, hA, hbl, e0, e1, e2, e3, e4, e5, e6⟩ := OAt.cell (h.out.below hb.out (Nat.le_refl _)) hlt
      subst hA
      generalize l[k] = x at *
      obtain ⟨x0, x1, x2, x3, x4, x5, x6⟩ := x
      simp only at e0 e1 e2 e3 e4 e5 e6
      by_cases he : x0 = id
      · have hF : Hid (idx id 0 l = k) := by show _ = _; rw [hx.out, hst.out, if_pos he]
        have hd : (x0 == id) = true := by simpa using he
        replace he := Lib.hid he
        go_wp2_with fail
        go_ret
        exact ⟨ret_int hF.out.symm, hb.out⟩
      · have hF : Hid (idx id 0 l = idx id (k + 1) (l.drop (k + 1))) := by show _ = _; rw [hx.out, hst.out, if_neg he]
        have hd : (x0 == id) = false := by simpa using he
        replace he := Lib.hid he
        go_wp2_with fail
        go_roundw
        case rel => exact ⟨k + 1, by omega, by go_num, hb.out, hF⟩
        case measure => simp [intOf]; omega
    · have hF : Hid (idx id 0 l = -1) := by show _ = _; rw [hx.out, List.drop_of_length_le (by rw [hn.out]; omega)]; rfl
      go_wp2_with fail
      go_ret
      exact ⟨ret_int hF.out.symm, hb.out⟩
set_option maxRecDepth 100000 in
set_option maxHeartbeats 1000000 in
theorem equal_self (A1 A2 : Option Addr) (l : List O) (n c1 c2 : Nat) (w : World) (ha : OAt w w.heap.size A1 n l) (hb : OAt w w.heap.size A2 n l) (h1 : n ≤ maxLen) :
    Calls Try.prog 16 #[.slice A1 n c1, .slice A2 n c2] w fun e w' => e = .returned (.bool true) ∧ Below w.heap.size w w' := by
  unfold maxLen at h1
  have la := Lib.hid ha.len
  replace ha := Lib.hid ha
  replace hb := Lib.hid hb
  go_enter Try.func16, Try.ntmps16
  go_wp2_with fail
  go_loopw [13] (fun i wr => ∃ k m : Nat, k ≤ n ∧ i = .int .i64 k ∧ wr = w.drewN m) (fun i _ => n - (intOf i).toNat)
  case atStart => exact ⟨0, 0, Nat.zero_le _, rfl, rfl⟩
  case round =>
    obtain ⟨k, m, hk, rfl, rfl⟩ := hrel
    by_cases hlt : k < n
    · obtain ⟨ad1, hA1, _, c0, c1, c2, c3, c4, c5, c6⟩ := OAt.cell ha.out hlt
      obtain ⟨ad2, hA2, _, d0, d1, d2, d3, d4, d5, d6⟩ := OAt.cell hb.out hlt
      subst hA1
      subst hA2
      have hka : k < l.length := by have := la.out; omega
      generalize l[k] = t at *
      obtain ⟨t0, t1, t2, t3, t4, t5, t6⟩ := t
      simp only at c0 c1 c2 c3 c4 c5 c6 d0 d1 d2 d3 d4 d5 d6
      have hlt0 : (0 : Int) ≤ k := by omega
      have hlt1 : (k : Int) < n := by omega
      go_wp2_with fail
      go_quiet (fail)
      go_wp2_with fail
      go_roundw
      case rel => exact ⟨k + 1, _, by omega, by go_num, rfl⟩
      case measure => simp [intOf]; omega
    · go_wp2_with fail
      go_ret
      exact ⟨rfl, by first | exact below_drewN (Below.refl _ _) _ | exact below_drewN (below_drewN (Below.refl _ _) _) _⟩
theorem blocks_step (st : ByteArray) (conn t : Int) (l : List O) (k : Nat) (h : k < l.length) : blocks (l.drop k) st conn t = (hit st conn t l[k] || blocks (l.drop (k + 1)) st conn t) := by
  rw [List.drop_eq_getElem_cons h]; rfl
set_option maxRecDepth 100000 in
set_option maxHeartbeats 2000000 in
theorem blocks_any (A : Option Addr) (l : List O) (n cap : Nat) (st : ByteArray) (conn t : Int) (w : World) (h : OAt w w.heap.size A n l) (hm : n ≤ maxLen) :
    Calls Try.prog 12 #[.slice A n cap, .string st, .int .i64 conn, .int .i64 t] w fun e w' => e = .returned (.bool (blocks l st conn t)) ∧ Below w.heap.size w w' := by
  unfold maxLen at hm
  have hn := Lib.hid h.len
  replace h := Lib.hid h
  go_enter Try.func12, Try.ntmps12
  go_wp2_with fail
  go_loopw [13] (fun i wr => ∃ k : Nat, k ≤ n ∧ i = .int .i64 k ∧ Hid (Below w.heap.size w wr) ∧ Hid (blocks l st conn t = blocks (l.drop k) st conn t)) (fun i _ => n - (intOf i).toNat)
  case atStart => exact ⟨0, Nat.zero_le _, rfl, Below.refl _ _, rfl⟩
  case round =>
    obtain ⟨k, hk, rfl, hb, hx⟩ := hrel
    by_cases hlt : k < n
    · have hkl : k < l.length := by rw [hn.out]; exact hlt
      have hst := Lib.hid (blocks_step st conn t l k hkl)
      obtain ⟨ad, hA, hbl, e0, e1, e2, e3, e4, e5, e6⟩ := OAt.cell (h.out.below hb.out (Nat.le_refl _)) hlt
      subst hA
      generalize l[k] = x at *
      have hxV : Hid (oV x = .agg #[.int .i64 x.id, .int .i64 x.conn, .string x.st, .int .i64 x.fr, .int .i64 x.tt, .int .i64 x.state, .int .i64 x.notes]) := rfl
      obtain ⟨x0, x1, x2, x3, x4, x5, x6⟩ := x
      simp only at e0 e1 e2 e3 e4 e5 e6 hxV
      have hb0 : Hid (Below w.heap.size w (wr.alloc (.cells #[.int .i64 x0, .int .i64 x1, .string x2, .int .i64 x3, .int .i64 x4, .int .i64 x5, .int .i64 x6] 33))) := below_new hb.out _
      have hX0 := Lib.hid (Blk.new wr 33 #[.int .i64 x0, .int .i64 x1, .string x2, .int .i64 x3, .int .i64 x4, .int .i64 x5, .int .i64 x6])
      have kz : Hid (∀ wz, Below (wr.alloc (.cells #[.int .i64 x0, .int .i64 x1, .string x2, .int .i64 x3, .int .i64 x4, .int .i64 x5, .int .i64 x6] 33)).heap.size (wr.alloc (.cells #[.int .i64 x0, .int .i64 x1, .string x2, .int .i64 x3, .int .i64 x4, .int .i64 x5, .int .i64 x6] 33)) wz → wz.cell? ⟨wr.heap.size, 0, none⟩ = some (.int .i64 x0) ∧ wz.cell? ⟨wr.heap.size, 1, none⟩ = some (.int .i64 x1) ∧ wz.cell? ⟨wr.heap.size, 2, none⟩ = some (.string x2) ∧ wz.cell? ⟨wr.heap.size, 3, none⟩ = some (.int .i64 x3) ∧ wz.cell? ⟨wr.heap.size, 4, none⟩ = some (.int .i64 x4) ∧ wz.cell? ⟨wr.heap.size, 5, none⟩ = some (.int .i64 x5) ∧ wz.cell? ⟨wr.heap.size, 6, none⟩ = some (.int .i64 x6)) := fun wz h => by
        have q0 := hX0.out.below h (lt_of_heap hX0.out)
        exact ⟨q0.cell 0, q0.cell 1, q0.cell 2, q0.cell 3, q0.cell 4, q0.cell 5, q0.cell 6⟩
      have hgo : Hid (hit st conn t ⟨x0, x1, x2, x3, x4, x5, x6⟩ = false → blocks l st conn t = blocks (l.drop (k + 1)) st conn t) := fun h => by rw [hx.out, hst.out, h]; rfl
      have hyes : Hid (hit st conn t ⟨x0, x1, x2, x3, x4, x5, x6⟩ = true → blocks l st conn t = true) := fun h => by rw [hx.out, hst.out, h]; rfl
      cases ha : act ⟨x0, x1, x2, x3, x4, x5, x6⟩
      all_goals
        have ha' := Lib.hid ha
        replace ha := ha'
        go_wp2_with fail
        rw [← hxV.out]
        refine (active_any _ _).mono ?_; rintro e w1 ⟨rfl, hb1⟩
        rw [ha.out]
        obtain ⟨c0, c1, c2, c3, c4, c5, c6⟩ := kz.out _ hb1
        replace hb1 := Lib.hid hb1
        have hbz : Hid (Below w.heap.size w w1) := hb0.out.trans (hb1.out.mono hb0.out.size)
        go_wp2_with fail
      all_goals
        first
          | (go_roundw
             case rel => exact ⟨k + 1, by omega, by go_num, hbz, hgo.out (by rw [hit, ha.out]; simp_all [str_eq]; try omega)⟩
             case measure => simp [intOf]; omega)
          | (go_ret
             exact ⟨ret_bool (hyes.out (by rw [hit, ha.out]; simp_all [str_eq]; try omega)).symm, hbz.out⟩)
    · have hF : Hid (blocks l st conn t = false) := by show _ = _; rw [hx.out, List.drop_of_length_le (by rw [hn.out]; omega)]; rfl
      go_wp2_with fail
      go_ret
      exact ⟨ret_bool hF.out.symm, hb.out⟩
set_option maxRecDepth 100000 in
set_option maxHeartbeats 2000000 in
theorem rblocks_any (A : Option Addr) (l : List O) (n cap : Nat) (st : ByteArray) (conn t : Int) (w : World) (h : OAt w w.heap.size A n l) (hm : n ≤ maxLen) :
    Calls Try.prog 17 #[.slice A n cap, .string st, .int .i64 conn, .int .i64 t] w fun e w' => e = .returned (.bool (blocks l st conn t)) ∧ Below w.heap.size w w' := by
  unfold maxLen at hm
  have hn := Lib.hid h.len
  replace h := Lib.hid h
  go_enter Try.func17, Try.ntmps17
  go_wp2_with fail
  go_loopw [9] (fun i wr => ∃ k : Nat, k ≤ n ∧ i = .int .i64 k ∧ Hid (Below w.heap.size w wr) ∧ Hid (blocks l st conn t = blocks (l.drop k) st conn t)) (fun i _ => n - (intOf i).toNat)
  case atStart => exact ⟨0, Nat.zero_le _, rfl, Below.refl _ _, rfl⟩
  case round =>
    obtain ⟨k, hk, rfl, hb, hx⟩ := hrel
    by_cases hlt : k < n
    · have hkl : k < l.length := by rw [hn.out]; exact hlt
      have hst := Lib.hid (blocks_step st conn t l k hkl)
      obtain ⟨ad, hA, hbl, e0, e1, e2, e3, e4, e5, e6⟩ := OAt.cell (h.out.below hb.out (Nat.le_refl _)) hlt
      subst hA
      generalize l[k] = x at *
      have hxV : Hid (oV x = .agg #[.int .i64 x.id, .int .i64 x.conn, .string x.st, .int .i64 x.fr, .int .i64 x.tt, .int .i64 x.state, .int .i64 x.notes]) := rfl
      obtain ⟨x0, x1, x2, x3, x4, x5, x6⟩ := x
      simp only at e0 e1 e2 e3 e4 e5 e6 hxV
      have hb0 : Hid (Below w.heap.size w (wr.alloc (.cells #[.int .i64 x0, .int .i64 x1, .string x2, .int .i64 x3, .int .i64 x4, .int .i64 x5, .int .i64 x6] 33))) := below_new hb.out _
      have hX0 := Lib.hid (Blk.new wr 33 #[.int .i64 x0, .int .i64 x1, .string x2, .int .i64 x3, .int .i64 x4, .int .i64 x5, .int .i64 x6])
      have kz : Hid (∀ wz, Below (wr.alloc (.cells #[.int .i64 x0, .int .i64 x1, .string x2, .int .i64 x3, .int .i64 x4, .int .i64 x5, .int .i64 x6] 33)).heap.size (wr.alloc (.cells #[.int .i64 x0, .int .i64 x1, .string x2, .int .i64 x3, .int .i64 x4, .int .i64 x5, .int .i64 x6] 33)) wz → wz.cell? ⟨wr.heap.size, 0, none⟩ = some (.int .i64 x0) ∧ wz.cell? ⟨wr.heap.size, 1, none⟩ = some (.int .i64 x1) ∧ wz.cell? ⟨wr.heap.size, 2, none⟩ = some (.string x2) ∧ wz.cell? ⟨wr.heap.size, 3, none⟩ = some (.int .i64 x3) ∧ wz.cell? ⟨wr.heap.size, 4, none⟩ = some (.int .i64 x4) ∧ wz.cell? ⟨wr.heap.size, 5, none⟩ = some (.int .i64 x5) ∧ wz.cell? ⟨wr.heap.size, 6, none⟩ = some (.int .i64 x6)) := fun wz h => by
        have q0 := hX0.out.below h (lt_of_heap hX0.out)
        exact ⟨q0.cell 0, q0.cell 1, q0.cell 2, q0.cell 3, q0.cell 4, q0.cell 5, q0.cell 6⟩
      have hgo : Hid (hit st conn t ⟨x0, x1, x2, x3, x4, x5, x6⟩ = false → blocks l st conn t = blocks (l.drop (k + 1)) st conn t) := fun h => by rw [hx.out, hst.out, h]; rfl
      have hyes : Hid (hit st conn t ⟨x0, x1, x2, x3, x4, x5, x6⟩ = true → blocks l st conn t = true) := fun h => by rw [hx.out, hst.out, h]; rfl
      cases ha : act ⟨x0, x1, x2, x3, x4, x5, x6⟩
      all_goals
        have ha' := Lib.hid ha
        replace ha := ha'
        go_wp2_with fail
        rw [← hxV.out]
        refine (ractive_any _ _).mono ?_; rintro e w1 ⟨rfl, hb1⟩
        rw [ha.out]
        obtain ⟨c0, c1, c2, c3, c4, c5, c6⟩ := kz.out _ hb1
        replace hb1 := Lib.hid hb1
        have hbz : Hid (Below w.heap.size w w1) := hb0.out.trans (hb1.out.mono hb0.out.size)
        go_wp2_with fail
      all_goals
        first
          | (go_roundw
             case rel => exact ⟨k + 1, by omega, by go_num, hbz, hgo.out (by rw [hit, ha.out]; simp_all [str_eq]; try omega)⟩
             case measure => simp [intOf]; omega)
          | (go_ret
             exact ⟨ret_bool (hyes.out (by rw [hit, ha.out]; simp_all [str_eq]; try omega)).symm, hbz.out⟩)
    · have hF : Hid (blocks l st conn t = false) := by show _ = _; rw [hx.out, List.drop_of_length_le (by rw [hn.out]; omega)]; rfl
      go_wp2_with fail
      go_ret
      exact ⟨ret_bool hF.out.symm, hb.out⟩
end Go.Proofs.Ytpejfnfhbpckiaa
