/- Replicated servers: New of both, walked. -/
import Derived.Test.YtiapeenfggjpnaaPJ
set_option linter.unusedVariables false
set_option linter.unusedSimpArgs false
namespace Go.Proofs.Ytiapeenfggjpnaa
open Go.RowKit
theorem made_sv (n : Nat) : (madeCells #[.bool false, .int .i64 0, .slice none 0 0] (n * 3)).toList = flat svC (List.replicate n (⟨false, 0, none, 0, 0, []⟩ : Sm)) := by
  induction n with
  | zero => simp [madeCells, flat]
  | succ n ih =>
    rw [List.replicate_succ', flat_append, flat_one, ← ih]
    unfold madeCells
    simp only [Array.toList_map, Array.toList_range]
    rw [show (n + 1) * 3 = n * 3 + 1 + 1 + 1 by omega, List.range_succ, List.range_succ, List.range_succ]
    have e0 : n * 3 % 3 = 0 := by omega
    have e1 : (n * 3 + 1) % 3 = 1 := by omega
    have e2 : (n * 3 + 1 + 1) % 3 = 2 := by omega
    simp only [List.map_append, List.map_cons, List.map_nil, List.append_assoc]
    congr 1
    show [_, _, _] = [_, _, _]
    simp only [List.size_toArray, List.length_cons, List.length_nil, Nat.zero_add, Nat.reduceAdd] at *
    rw [e0, e1, e2]
    rfl
theorem rep_val (n : Nat) : (List.replicate n (⟨true, 1, none, 0, 0, []⟩ : Sm)).map Sm.val = List.replicate n (⟨true, 1, []⟩ : Sv) := by
  rw [List.map_replicate]; rfl
theorem new_val (n : Nat) (A : Option Addr) (m c : Nat) : Cm.val ⟨0, 1, 0, A, m, c, List.replicate n (⟨true, 1, none, 0, 0, []⟩ : Sm)⟩ = newC (n : Int) := by
  show Cv.mk 0 1 0 ((List.replicate n (⟨true, 1, none, 0, 0, []⟩ : Sm)).map Sm.val) = _
  rw [rep_val]
  rfl
theorem rep_ok (n : Nat) (w : World) (Q : Nat → Prop) : ∀ s ∈ List.replicate n (⟨true, 1, none, 0, 0, []⟩ : Sm), SmAt w Q s := by
  intro s hs
  rw [(List.mem_replicate.1 hs).2]
  exact LogAt.nil
theorem rep_set (n k : Nat) (hk : k < n) : (List.replicate k (⟨true, 1, none, 0, 0, []⟩ : Sm) ++ List.replicate (n - k) (⟨false, 0, none, 0, 0, []⟩ : Sm)).set k (⟨true, 1, none, 0, 0, []⟩ : Sm) = List.replicate (k + 1) (⟨true, 1, none, 0, 0, []⟩ : Sm) ++ List.replicate (n - (k + 1)) (⟨false, 0, none, 0, 0, []⟩ : Sm) := by
  rw [List.set_append_right _ _ (by simp), List.length_replicate, Nat.sub_self, show n - k = (n - (k + 1)) + 1 by omega, List.replicate_succ, List.set_cons_zero, List.replicate_succ', List.append_assoc]
  rfl
set_option maxRecDepth 100000 in
set_option maxHeartbeats 8000000 in
theorem new_any (n : Int) (w : World) :
    Calls Try.prog 19 #[.int .i64 n] w fun e w' => ResC (fun _ => False) w w' (newR n) e ∧ Below w.heap.size w w' := by
  obtain ⟨r, hr⟩ : ∃ r, r = newR n := ⟨_, rfl⟩
  rw [← hr]
  replace hr := Lib.hid hr
  by_cases q1 : n < 1
  · have q1d : decide (n < 1) = true := by simpa using q1
    have hF : Hid (r = (noneC, 2)) := by show _ = _; rw [hr.out]; unfold newR; rw [if_pos (.inl q1)]
    go_enter Try.func19, Try.ntmps19
    go_wp2_with fail
    (try simp only [Exit.inBlock, Exit.then])
    have hBF := Blk.new w 24 #[Value.int .i64 0, Value.int .i64 0, Value.int .i64 0, Value.slice none 0 0]
    have hbF : Below w.heap.size w (w.alloc (.cells #[Value.int .i64 0, Value.int .i64 0, Value.int .i64 0, Value.slice none 0 0] 24)) := a1 w _
    refine bodyPost_ret (v := .tuple #[.agg #[Value.int .i64 0, Value.int .i64 0, Value.int .i64 0, Value.slice none 0 0], .int .i64 2]) ?_ rfl ?_
    · refine (res2 (fn := Try.f19) (p := 2) (u := 3) (ty := 24) rfl _ _ w.heap.size 24 _ (0, 0) _ ?_ hBF Try.underlying24 rfl (by kernel_rfl)).trans ?_
      · rfl
      · rfl
    clear hBF
    exact ⟨⟨⟨0, 0, 0, none, 0, 0, []⟩, by rw [hF.out]; rfl, ⟨LAt.nil svC_len _ _, ⟨Nat.le_refl _, Nat.zero_le _⟩, fun h => absurd h (Nat.lt_irrefl 0), fun s hs => by simp at hs⟩, by rw [hF.out]; rfl⟩, hbF⟩
  have q1d : decide (n < 1) = false := by simpa using q1
  by_cases q2 : 7 < n
  · have q2d : decide (7 < n) = true := by simpa using q2
    have hF : Hid (r = (noneC, 2)) := by show _ = _; rw [hr.out]; unfold newR; rw [if_pos (.inr q2)]
    go_enter Try.func19, Try.ntmps19
    go_wp2_with fail
    (try simp only [Exit.inBlock, Exit.then])
    have hBF := Blk.new w 24 #[Value.int .i64 0, Value.int .i64 0, Value.int .i64 0, Value.slice none 0 0]
    have hbF : Below w.heap.size w (w.alloc (.cells #[Value.int .i64 0, Value.int .i64 0, Value.int .i64 0, Value.slice none 0 0] 24)) := a1 w _
    refine bodyPost_ret (v := .tuple #[.agg #[Value.int .i64 0, Value.int .i64 0, Value.int .i64 0, Value.slice none 0 0], .int .i64 2]) ?_ rfl ?_
    · refine (res2 (fn := Try.f19) (p := 2) (u := 3) (ty := 24) rfl _ _ w.heap.size 24 _ (0, 0) _ ?_ hBF Try.underlying24 rfl (by kernel_rfl)).trans ?_
      · rfl
      · rfl
    clear hBF
    exact ⟨⟨⟨0, 0, 0, none, 0, 0, []⟩, by rw [hF.out]; rfl, ⟨LAt.nil svC_len _ _, ⟨Nat.le_refl _, Nat.zero_le _⟩, fun h => absurd h (Nat.lt_irrefl 0), fun s hs => by simp at hs⟩, by rw [hF.out]; rfl⟩, hbF⟩
  have q2d : decide (7 < n) = false := by simpa using q2
  have hF : Hid (r = (newC n, 0)) := by show _ = _; rw [hr.out]; unfold newR; rw [if_neg (fun h => h.elim q1 q2)]
  obtain ⟨n, rfl⟩ : ∃ m : Nat, n = (m : Int) := ⟨n.toNat, by omega⟩
  have hn1 : 1 ≤ n := by omega
  have hn7 : n ≤ 7 := by omega
  have hn0 : (0 : Int) ≤ n := by omega
  clear q1 q2
  obtain ⟨i47, hi47, hz470, hz471, hz472⟩ := info_parts sv_info
  have hmk := made_row (P := Try.prog) (w.alloc (.cells #[Value.int .i64 0, Value.int .i64 0, Value.int .i64 0, Value.slice none 0 0] 24)) 22 47 i47 _ 3 Try.underlying22 hi47 hz470 hz471 n n n n rfl rfl (Nat.le_refl _) (by rw [hz472]; omega) (by omega)
  have hMs := size_madeCells (Value.agg #[.bool false, .int .i64 0, .slice none 0 0]).cells (n * 3)
  have hMl : (madeCells (Value.agg #[.bool false, .int .i64 0, .slice none 0 0]).cells (n * 3)).toList = _ := made_sv n
  obtain ⟨M, hM⟩ : ∃ M, M = madeCells (Value.agg #[.bool false, .int .i64 0, .slice none 0 0]).cells (n * 3) := ⟨_, rfl⟩
  rw [← hM] at hmk hMs hMl
  clear hM hi47 hz470 hz471 hz472
  have hrow0 := copied_own (w := ((w.alloc (.cells #[Value.int .i64 0, Value.int .i64 0, Value.int .i64 0, Value.slice none 0 0] 24)).alloc (.cells M 47))) (base := (w.alloc (.cells #[Value.int .i64 0, Value.int .i64 0, Value.int .i64 0, Value.slice none 0 0] 24)).heap.size) (g := (w.alloc (.cells #[Value.int .i64 0, Value.int .i64 0, Value.int .i64 0, Value.slice none 0 0] 24)).heap.size) (l := List.replicate n (⟨false, 0, none, 0, 0, []⟩ : Sm)) svC_len (c := n) (heap_alloc_new (w.alloc (.cells #[Value.int .i64 0, Value.int .i64 0, Value.int .i64 0, Value.slice none 0 0] 24)) (.cells M 47)) (by rw [hMl, List.take_of_length_le (by rw [flat_len svC_len]; exact Nat.le_refl _)]) (by rw [hMs]) (Nat.le_refl _) (by simp) (by simp only [maxLen]; omega)
  rw [List.length_replicate, show (w.alloc (.cells #[Value.int .i64 0, Value.int .i64 0, Value.int .i64 0, Value.slice none 0 0] 24)).heap.size = w.heap.size + 1 by simp] at hrow0
  have hrow0 := Lib.hid (hrow0.alloc (.cells #[Value.int .i64 0, Value.int .i64 1, Value.int .i64 0, Value.slice (some ⟨w.heap.size + 1, 0, none⟩) n n] 24))
  have hZ0 := Lib.hid (((Blk.new w 24 #[Value.int .i64 0, Value.int .i64 0, Value.int .i64 0, Value.slice none 0 0]).alloc (.cells M 47)).alloc (.cells #[Value.int .i64 0, Value.int .i64 1, Value.int .i64 0, Value.slice (some ⟨w.heap.size + 1, 0, none⟩) n n] 24))
  have hB0 := Blk.new ((w.alloc (.cells #[Value.int .i64 0, Value.int .i64 0, Value.int .i64 0, Value.slice none 0 0] 24)).alloc (.cells M 47)) 24 #[Value.int .i64 0, Value.int .i64 1, Value.int .i64 0, Value.slice (some ⟨w.heap.size + 1, 0, none⟩) n n]
  rw [show ((w.alloc (.cells #[Value.int .i64 0, Value.int .i64 0, Value.int .i64 0, Value.slice none 0 0] 24)).alloc (.cells M 47)).heap.size = w.heap.size + 1 + 1 by simp] at hB0
  replace hB0 := Lib.hid hB0
  have hb0 : Hid (Below w.heap.size w (((w.alloc (.cells #[Value.int .i64 0, Value.int .i64 0, Value.int .i64 0, Value.slice none 0 0] 24)).alloc (.cells M 47)).alloc (.cells #[Value.int .i64 0, Value.int .i64 1, Value.int .i64 0, Value.slice (some ⟨w.heap.size + 1, 0, none⟩) n n] 24))) := ((a1 w _).alloc (by simp) _).alloc (by simp; omega) _
  rw [show (w.alloc (.cells #[Value.int .i64 0, Value.int .i64 0, Value.int .i64 0, Value.slice none 0 0] 24)).heap.size = w.heap.size + 1 by simp] at hmk
  replace hMs := Lib.hid hMs
  replace hMl := Lib.hid hMl
  obtain ⟨k0, k1, k2, k3⟩ := cells4 ((((w.alloc (.cells #[Value.int .i64 0, Value.int .i64 0, Value.int .i64 0, Value.slice none 0 0] 24)).alloc (.cells M 47)).alloc (.cells #[Value.int .i64 0, Value.int .i64 1, Value.int .i64 0, Value.slice (some ⟨w.heap.size + 1, 0, none⟩) n n] 24))) ((w.heap.size + 1 + 1)) (Value.int .i64 0) (Value.int .i64 1) (Value.int .i64 0) (Value.slice (some ⟨w.heap.size + 1, 0, none⟩) n n) (hB0.out)
  go_enter Try.func19, Try.ntmps19
  go_wp2_with fail
  clear k0 k1 k2 k3 hmk
  generalize (((w.alloc (.cells #[Value.int .i64 0, Value.int .i64 0, Value.int .i64 0, Value.slice none 0 0] 24)).alloc (.cells M 47)).alloc (.cells #[Value.int .i64 0, Value.int .i64 1, Value.int .i64 0, Value.slice (some ⟨w.heap.size + 1, 0, none⟩) n n] 24)) = w0 at *
  go_loopw [19] (fun i wr => ∃ k : Nat, k ≤ n ∧ i = .int .i64 k ∧ Hid (LOwn svC 3 47 wr (w.heap.size + 1) (.slice (some ⟨w.heap.size + 1, 0, none⟩) n n) (List.replicate k (⟨true, 1, none, 0, 0, []⟩ : Sm) ++ List.replicate (n - k) (⟨false, 0, none, 0, 0, []⟩ : Sm))) ∧ Hid (Blk wr (w.heap.size + 1 + 1) 24 #[Value.int .i64 0, Value.int .i64 1, Value.int .i64 0, Value.slice (some ⟨w.heap.size + 1, 0, none⟩) n n]) ∧ Hid (Blk wr w.heap.size 24 #[Value.int .i64 0, Value.int .i64 0, Value.int .i64 0, Value.slice none 0 0]) ∧ Hid (Below w.heap.size w wr)) (fun i _ => n - (intOf i).toNat)
  case atStart => exact ⟨0, Nat.zero_le _, rfl, hrow0.out, hB0.out, hZ0.out, hb0.out⟩
  case round =>
    clear hrow0 hB0 hZ0 hb0
    obtain ⟨k, hkn, rfl, hrow, hB, hZ, hb⟩ := hrel
    obtain ⟨k0, k1, k2, k3⟩ := cells4 (wr) ((w.heap.size + 1 + 1)) (Value.int .i64 0) (Value.int .i64 1) (Value.int .i64 0) (Value.slice (some ⟨w.heap.size + 1, 0, none⟩) n n) (hB.out)
    by_cases hlt : k < n
    · have hk0 : (0 : Int) ≤ k := by omega
      have hk1 : (k : Int) < n := by omega
      have hln : Hid ((List.replicate k (⟨true, 1, none, 0, 0, []⟩ : Sm) ++ List.replicate (n - k) (⟨false, 0, none, 0, 0, []⟩ : Sm)).length = n) := by show _ = _; simp; omega
      have hkl : Hid (k < (List.replicate k (⟨true, 1, none, 0, 0, []⟩ : Sm) ++ List.replicate (n - k) (⟨false, 0, none, 0, 0, []⟩ : Sm)).length) := by show _ < _; rw [hln.out]; exact hlt
      obtain ⟨x, hx⟩ : ∃ x, x = (List.replicate k (⟨true, 1, none, 0, 0, []⟩ : Sm) ++ List.replicate (n - k) (⟨false, 0, none, 0, 0, []⟩ : Sm))[k]'hkl.out := ⟨_, rfl⟩
      obtain ⟨c0, c1, c2⟩ := (show wr.cell? ⟨w.heap.size + 1, k * 3, none⟩ = some (Value.bool x.up) ∧ wr.cell? ⟨w.heap.size + 1, k * 3 + 1, none⟩ = some (Value.int .i64 x.view) ∧ wr.cell? ⟨w.heap.size + 1, k * 3 + 2, none⟩ = some (Value.slice x.A x.n x.c) from by
        refine ⟨?_, ?_, ?_⟩
        · have := hrow.out.cellAt hln.out.symm (k := k) hkl.out (j := 0) (by decide); rw [← hx] at this; exact this
        · have := hrow.out.cellAt hln.out.symm (k := k) hkl.out (j := 1) (by decide); rw [← hx] at this; exact this
        · have := hrow.out.cellAt hln.out.symm (k := k) hkl.out (j := 2) (by decide); rw [← hx] at this; exact this)
      have z0 : wr.frozen? ⟨w.heap.size + 1, k * 3, none⟩ = false := hrow.out.frozenAt hln.out.symm _
      have z1 : wr.frozen? ⟨w.heap.size + 1, k * 3 + 1, none⟩ = false := hrow.out.frozenAt hln.out.symm _
      have z2 : wr.frozen? ⟨w.heap.size + 1, k * 3 + 2, none⟩ = false := hrow.out.frozenAt hln.out.symm _
      clear hx
      have hst := hrow.out.store hln.out.symm hkl.out (⟨true, 1, none, 0, 0, []⟩ : Sm)
      rw [rep_set n k hlt] at hst
      obtain ⟨hrow2, hg2⟩ := hst
      have hrow2 := Lib.hid hrow2
      have hg2 := Lib.hid hg2
      go_wp2_with fail
      go_roundw
      case rel => exact ⟨k + 1, by omega, by go_num, hrow2.out, hB.out.grown hg2.out (by intro e; injection e with e; omega), hZ.out.grown hg2.out (by intro e; injection e with e; omega), hb.out.grown hg2.out hb.out.size (fun g8 e8 => by injection e8 with e8; omega)⟩
      case measure => simp [intOf]; omega
    · have hk : k = n := by omega
      subst hk
      rw [Nat.sub_self, List.replicate_zero, List.append_nil] at hrow
      obtain ⟨m0, m1, m2, m3⟩ := cells4 (wr) ((w.heap.size + 1 + 1)) (Value.int .i64 0) (Value.int .i64 1) (Value.int .i64 0) (Value.slice (some ⟨w.heap.size + 1, 0, none⟩) k k) (hB.out)
      obtain ⟨u0, u1, u2, u3, z0, z1, z2, z3⟩ := cells4z (wr) (w.heap.size) (Value.int .i64 0) (Value.int .i64 0) (Value.int .i64 0) (Value.slice none 0 0) (hZ.out)
      go_wp2_with fail
      (try simp only [Exit.inBlock, Exit.then])
      have hBF := cl_set4 hZ.out (Value.int .i64 0) (Value.int .i64 1) (Value.int .i64 0) (Value.slice (some ⟨w.heap.size + 1, 0, none⟩) k k)
      have hbF := below_set4 hb.out (Nat.le_refl _) (Value.int .i64 0) (Value.int .i64 1) (Value.int .i64 0) (Value.slice (some ⟨w.heap.size + 1, 0, none⟩) k k)
      have hgF := grown_set4 (wr) w.heap.size (Value.int .i64 0) (Value.int .i64 1) (Value.int .i64 0) (Value.slice (some ⟨w.heap.size + 1, 0, none⟩) k k)
      refine bodyPost_ret (v := .tuple #[.agg #[Value.int .i64 0, Value.int .i64 1, Value.int .i64 0, Value.slice (some ⟨w.heap.size + 1, 0, none⟩) k k], .int .i64 0]) ?_ rfl ?_
      · refine (res2 (fn := Try.f19) (p := 2) (u := 3) (ty := 24) rfl _ _ w.heap.size 24 _ (0, 0) _ ?_ hBF Try.underlying24 rfl (by kernel_rfl)).trans ?_
        · rfl
        · rfl
      clear hBF
      generalize ((((wr.setCell ⟨w.heap.size, 0, none⟩ (Value.int .i64 0)).setCell ⟨w.heap.size, 1, none⟩ (Value.int .i64 1)).setCell ⟨w.heap.size, 2, none⟩ (Value.int .i64 0)).setCell ⟨w.heap.size, 3, none⟩ (Value.slice (some ⟨w.heap.size + 1, 0, none⟩) k k)) = wF at *
      exact ⟨⟨_, by rw [hF.out]; rfl, (CmAt.of_own (p := 0) (v := 1) (m := 0) (Q := fun b => w.heap.size ≤ b) (hrow.out.grownO hgF (.inr (by intro e; simp [Value.ownBlock] at e <;> omega))) (by simp) (rep_ok k _ _) (by omega)).imp (fun b hb => Or.inr hb), by rw [hF.out]; exact new_val k _ _ _⟩, hbF⟩
set_option maxRecDepth 100000 in
set_option maxHeartbeats 8000000 in
theorem rnew_any (n : Int) (w : World) :
    Calls Try.prog 26 #[.int .i64 n] w fun e w' => ResC (fun _ => False) w w' (newR n) e ∧ Below w.heap.size w w' := by
  obtain ⟨r, hr⟩ : ∃ r, r = newR n := ⟨_, rfl⟩
  rw [← hr]
  replace hr := Lib.hid hr
  by_cases q1 : n < 1
  · have q1d : decide (n < 1) = true := by simpa using q1
    have hF : Hid (r = (noneC, 2)) := by show _ = _; rw [hr.out]; unfold newR; rw [if_pos (.inl q1)]
    go_enter Try.func26, Try.ntmps26
    go_wp2_with fail
    (try simp only [Exit.inBlock, Exit.then])
    have hBF := Blk.new w 24 #[Value.int .i64 0, Value.int .i64 0, Value.int .i64 0, Value.slice none 0 0]
    have hbF : Below w.heap.size w (w.alloc (.cells #[Value.int .i64 0, Value.int .i64 0, Value.int .i64 0, Value.slice none 0 0] 24)) := a1 w _
    refine bodyPost_ret (v := .tuple #[.agg #[Value.int .i64 0, Value.int .i64 0, Value.int .i64 0, Value.slice none 0 0], .int .i64 2]) ?_ rfl ?_
    · refine (res2 (fn := Try.f26) (p := 2) (u := 3) (ty := 24) rfl _ _ w.heap.size 24 _ (0, 0) _ ?_ hBF Try.underlying24 rfl (by kernel_rfl)).trans ?_
      · rfl
      · rfl
    clear hBF
    exact ⟨⟨⟨0, 0, 0, none, 0, 0, []⟩, by rw [hF.out]; rfl, ⟨LAt.nil svC_len _ _, ⟨Nat.le_refl _, Nat.zero_le _⟩, fun h => absurd h (Nat.lt_irrefl 0), fun s hs => by simp at hs⟩, by rw [hF.out]; rfl⟩, hbF⟩
  have q1d : decide (n < 1) = false := by simpa using q1
  by_cases q2 : 7 < n
  · have q2d : decide (7 < n) = true := by simpa using q2
    have hF : Hid (r = (noneC, 2)) := by show _ = _; rw [hr.out]; unfold newR; rw [if_pos (.inr q2)]
    go_enter Try.func26, Try.ntmps26
    go_wp2_with fail
    (try simp only [Exit.inBlock, Exit.then])
    have hBF := Blk.new w 24 #[Value.int .i64 0, Value.int .i64 0, Value.int .i64 0, Value.slice none 0 0]
    have hbF : Below w.heap.size w (w.alloc (.cells #[Value.int .i64 0, Value.int .i64 0, Value.int .i64 0, Value.slice none 0 0] 24)) := a1 w _
    refine bodyPost_ret (v := .tuple #[.agg #[Value.int .i64 0, Value.int .i64 0, Value.int .i64 0, Value.slice none 0 0], .int .i64 2]) ?_ rfl ?_
    · refine (res2 (fn := Try.f26) (p := 2) (u := 3) (ty := 24) rfl _ _ w.heap.size 24 _ (0, 0) _ ?_ hBF Try.underlying24 rfl (by kernel_rfl)).trans ?_
      · rfl
      · rfl
    clear hBF
    exact ⟨⟨⟨0, 0, 0, none, 0, 0, []⟩, by rw [hF.out]; rfl, ⟨LAt.nil svC_len _ _, ⟨Nat.le_refl _, Nat.zero_le _⟩, fun h => absurd h (Nat.lt_irrefl 0), fun s hs => by simp at hs⟩, by rw [hF.out]; rfl⟩, hbF⟩
  have q2d : decide (7 < n) = false := by simpa using q2
  have hF : Hid (r = (newC n, 0)) := by show _ = _; rw [hr.out]; unfold newR; rw [if_neg (fun h => h.elim q1 q2)]
  obtain ⟨n, rfl⟩ : ∃ m : Nat, n = (m : Int) := ⟨n.toNat, by omega⟩
  have hn1 : 1 ≤ n := by omega
  have hn7 : n ≤ 7 := by omega
  have hn0 : (0 : Int) ≤ n := by omega
  clear q1 q2
  obtain ⟨i47, hi47, hz470, hz471, hz472⟩ := info_parts sv_info
  replace hi47 := Lib.hid hi47
  replace hz470 := Lib.hid hz470
  replace hz471 := Lib.hid hz471
  replace hz472 := Lib.hid hz472
  have hZ0 := Lib.hid ((Blk.new w 24 #[Value.int .i64 0, Value.int .i64 0, Value.int .i64 0, Value.slice none 0 0]).alloc (.cells #[Value.int .i64 0, Value.int .i64 1, Value.int .i64 0, Value.slice none 0 0] 24))
  have hB0 := Blk.new (w.alloc (.cells #[Value.int .i64 0, Value.int .i64 0, Value.int .i64 0, Value.slice none 0 0] 24)) 24 #[Value.int .i64 0, Value.int .i64 1, Value.int .i64 0, Value.slice none 0 0]
  rw [show (w.alloc (.cells #[Value.int .i64 0, Value.int .i64 0, Value.int .i64 0, Value.slice none 0 0] 24)).heap.size = w.heap.size + 1 by simp] at hB0
  replace hB0 := Lib.hid hB0
  have hb0 : Hid (Below w.heap.size w ((w.alloc (.cells #[Value.int .i64 0, Value.int .i64 0, Value.int .i64 0, Value.slice none 0 0] 24)).alloc (.cells #[Value.int .i64 0, Value.int .i64 1, Value.int .i64 0, Value.slice none 0 0] 24))) := (a1 w _).alloc (by simp) _
  go_enter Try.func26, Try.ntmps26
  go_wp2_with fail
  generalize ((w.alloc (.cells #[Value.int .i64 0, Value.int .i64 0, Value.int .i64 0, Value.slice none 0 0] 24)).alloc (.cells #[Value.int .i64 0, Value.int .i64 1, Value.int .i64 0, Value.slice none 0 0] 24)) = w0 at *
  go_loopw [5] (fun i wr => ∃ (k : Nat) (u : Value), k ≤ n ∧ i = .int .i64 k ∧ Hid (LOwn svC 3 47 wr (w.heap.size + 2) u (List.replicate k (⟨true, 1, none, 0, 0, []⟩ : Sm))) ∧ Hid (Blk wr (w.heap.size + 1) 24 #[Value.int .i64 0, Value.int .i64 1, Value.int .i64 0, u]) ∧ Hid (Blk wr w.heap.size 24 #[Value.int .i64 0, Value.int .i64 0, Value.int .i64 0, Value.slice none 0 0]) ∧ Hid (Below w.heap.size w wr)) (fun i _ => n - (intOf i).toNat)
  case atStart => exact ⟨0, _, Nat.zero_le _, rfl, LOwn.nil svC_len _ _, hB0.out, hZ0.out, hb0.out⟩
  case round =>
    clear hB0 hZ0 hb0
    obtain ⟨k, u, hkn, rfl, hrow, hB, hZ, hb⟩ := hrel
    obtain ⟨A5, c5, rfl, -, -, -, -⟩ := hrow.out.form
    rw [List.length_replicate] at hrow hB
    obtain ⟨k0, k1, k2, k3⟩ := cells4 (wr) ((w.heap.size + 1)) (Value.int .i64 0) (Value.int .i64 1) (Value.int .i64 0) (Value.slice A5 k c5) (hB.out)
    by_cases hlt : k < n
    · have hk0 : (0 : Int) ≤ k := by omega
      have hk1 : (k : Int) < n := by omega
      have hrd : Hid (Reads (wr.alloc (.cells #[Value.bool true, Value.int .i64 1, Value.slice none 0 0] 47)) (wr.heap.size + 1) 3 (some ⟨wr.heap.size, 0, none⟩) 1 (flat svC [(⟨true, 1, none, 0, 0, []⟩ : Sm)])) := (lit_at (e := 47) svC_len wr [(⟨true, 1, none, 0, 0, []⟩ : Sm)] #[Value.bool true, Value.int .i64 1, Value.slice none 0 0] (by simp [flat, svC])).2
      have hrow2 := Lib.hid (hrow.out.alloc (.cells #[Value.bool true, Value.int .i64 1, Value.slice none 0 0] 47))
      have hB2 := Lib.hid (hB.out.alloc (.cells #[Value.bool true, Value.int .i64 1, Value.slice none 0 0] 47))
      have hZ2 := Lib.hid (hZ.out.alloc (.cells #[Value.bool true, Value.int .i64 1, Value.slice none 0 0] 47))
      have hb2 : Hid (Below w.heap.size w (wr.alloc (.cells #[Value.bool true, Value.int .i64 1, Value.slice none 0 0] 47))) := hb.out.alloc hb.out.size _
      have hsz : w.heap.size + 1 < wr.heap.size := hB.out.lt
      have hown2 := hrow2.out.2
      rw [List.length_replicate] at hown2
      replace hown2 := Lib.hid hown2
      clear hrow hB hZ hb
      go_wp2_with (at_builtin; refine wpList_append_any _ rfl (.tmp 20) (.tmp 22) _ rfl (w.heap.size + 2) 47 i47 _ 3 40 Try.underlying22 hi47.out hz470.out hz471.out hz472.out rfl (by omega) (Value.slice A5 k c5) k (flat svC (List.replicate k (⟨true, 1, none, 0, 0, []⟩ : Sm))) rfl hown2.out (wr.heap.size + 1) (some ⟨wr.heap.size, 0, none⟩) 1 1 (flat svC [(⟨true, 1, none, 0, 0, []⟩ : Sm)]) rfl hrd.out (svC_one _) (by simp only [maxLen]; omega) (by omega) (by simp; omega) ?_
                   intro v' w1 hown1 hg1 hat1
                   have hB3 := Lib.hid (hB2.out.grown hg1 (fun e => by have := World.ownsRow.lt hrow2.out.2 _ e.symm; omega))
                   have hZ3 := Lib.hid (hZ2.out.grown hg1 (fun e => by have := World.ownsRow.lt hrow2.out.2 _ e.symm; omega))
                   have hb3 : Hid (Below w.heap.size w w1) := hb2.out.grown hg1 hb2.out.size (fun g8 e8 => by have := World.ownsRow.lt hrow2.out.2 _ e8; omega)
                   have hrow3 : Hid (LOwn svC 3 47 w1 (w.heap.size + 2) v' (List.replicate (k + 1) (⟨true, 1, none, 0, 0, []⟩ : Sm))) := ⟨svC_len, by rw [List.replicate_succ', List.length_append, flat_append, List.length_replicate]; exact hown1⟩
                   obtain ⟨A8, c8, hv8, -, -, -, -⟩ := hrow3.out.form
                   rw [List.length_replicate] at hv8
                   subst hv8
                   clear hown1 hg1 hat1
                   obtain ⟨k0, k1, k2, k3, z0, z1, z2, z3⟩ := cells4z (w1) ((w.heap.size + 1)) (Value.int .i64 0) (Value.int .i64 1) (Value.int .i64 0) (Value.slice A5 k c5) (hB3.out))
      have hg4 : Hid (w1.grownBy (w1.setCell ⟨w.heap.size + 1, 3, none⟩ (Value.slice A8 (k + 1) c8)) (some (w.heap.size + 1))) := only_set (World.grownBy.refl _ _) _ _
      go_roundw
      case rel => exact ⟨k + 1, Value.slice A8 (k + 1) c8, by omega, by go_num, hrow3.out.far hg4.out (by omega), hB3.out.set_ 3 (Value.slice A8 (k + 1) c8), hZ3.out.grown hg4.out (by intro e; injection e with e; omega), below_set hb3.out (by omega) 3 (Value.slice A8 (k + 1) c8)⟩
      case measure => simp [intOf]; omega
    · have hk : k = n := by omega
      subst hk
      obtain ⟨u0, u1, u2, u3, z0, z1, z2, z3⟩ := cells4z (wr) (w.heap.size) (Value.int .i64 0) (Value.int .i64 0) (Value.int .i64 0) (Value.slice none 0 0) (hZ.out)
      go_wp2_with fail
      (try simp only [Exit.inBlock, Exit.then])
      have hBF := cl_set4 hZ.out (Value.int .i64 0) (Value.int .i64 1) (Value.int .i64 0) (Value.slice A5 k c5)
      have hbF := below_set4 hb.out (Nat.le_refl _) (Value.int .i64 0) (Value.int .i64 1) (Value.int .i64 0) (Value.slice A5 k c5)
      have hgF := grown_set4 (wr) w.heap.size (Value.int .i64 0) (Value.int .i64 1) (Value.int .i64 0) (Value.slice A5 k c5)
      refine bodyPost_ret (v := .tuple #[.agg #[Value.int .i64 0, Value.int .i64 1, Value.int .i64 0, Value.slice A5 k c5], .int .i64 0]) ?_ rfl ?_
      · refine (res2 (fn := Try.f26) (p := 2) (u := 3) (ty := 24) rfl _ _ w.heap.size 24 _ (0, 0) _ ?_ hBF Try.underlying24 rfl (by kernel_rfl)).trans ?_
        · rfl
        · rfl
      clear hBF
      generalize ((((wr.setCell ⟨w.heap.size, 0, none⟩ (Value.int .i64 0)).setCell ⟨w.heap.size, 1, none⟩ (Value.int .i64 1)).setCell ⟨w.heap.size, 2, none⟩ (Value.int .i64 0)).setCell ⟨w.heap.size, 3, none⟩ (Value.slice A5 k c5)) = wF at *
      obtain ⟨g9, c9, hv9⟩ := hrow.out.some_ (by simp; omega)
      injection hv9 with e1 _ e3
      subst e1
      subst e3
      exact ⟨⟨_, by rw [hF.out]; rfl, (CmAt.of_own (p := 0) (v := 1) (m := 0) (Q := fun b => w.heap.size ≤ b) (hrow.out.far hgF (by omega)) (by simp) (rep_ok k _ _) (by have := (hrow.out.grown_base (by simp)).1; omega)).imp (fun b hb => Or.inr hb), by rw [hF.out]; exact new_val k _ _ _⟩, hbF⟩
end Go.Proofs.Ytiapeenfggjpnaa
