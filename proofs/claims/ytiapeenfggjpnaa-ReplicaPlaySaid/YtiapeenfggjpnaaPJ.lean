/- Replicated servers: own, Crash and Restart, walked. -/
import Derived.Test.YtiapeenfggjpnaaPI
set_option linter.unusedVariables false
set_option linter.unusedSimpArgs false
namespace Go.Proofs.Ytiapeenfggjpnaa
open Go.RowKit
theorem res2 {P : Program} {fn : Func} {p u : Tmp} {ty : TypeId} (h : fn.results = #[.cell p ty, .tmp u]) (tmps : Array Value) (w : World) (g : Nat) (t : TypeId) (cs : Array Value) (fr : Nat × Nat) (d : TypeDesc)
    (hp : tmps.getD p undef = .pointer (some ⟨g, 0, none⟩)) (hg : w.heap[g]? = some (.cells cs t fr))
    (hu : P.underlying ty = some d) (hd : (match d with | .struct _ | .array _ _ => true | _ => false) = true) (hi : (P.info? ty).map (·.size) = some cs.size) :
    (results fn tmps).run P w = .ok (.tuple #[.agg cs, tmps.getD u undef]) w := by
  rw [results_cell_tmp h, hp]
  have hp' : tmps[p]?.getD undef = .pointer (some ⟨g, 0, none⟩) := by simpa using hp
  simp [Sem.run_bind, Result.andThen, hp', asAddr, run_loadVar_row w g t ty cs fr d hg hu hd hi]
theorem res3 {P : Program} {fn : Func} {p u v : Tmp} {ty : TypeId} (h : fn.results = #[.cell p ty, .tmp u, .tmp v]) (tmps : Array Value) (w : World) (g : Nat) (t : TypeId) (cs : Array Value) (fr : Nat × Nat) (d : TypeDesc)
    (hp : tmps.getD p undef = .pointer (some ⟨g, 0, none⟩)) (hg : w.heap[g]? = some (.cells cs t fr))
    (hu : P.underlying ty = some d) (hd : (match d with | .struct _ | .array _ _ => true | _ => false) = true) (hi : (P.info? ty).map (·.size) = some cs.size) :
    (results fn tmps).run P w = .ok (.tuple #[.agg cs, tmps.getD u undef, tmps.getD v undef]) w := by
  have hp' : tmps[p]?.getD undef = .pointer (some ⟨g, 0, none⟩) := by simpa using hp
  simp only [results, h]
  simp [Sem.run_bind, Result.andThen, hp', asAddr, run_loadVar_row w g t ty cs fr d hg hu hd hi]
/-- a cluster and an error come back -/
def ResC (Q : Nat → Prop) (w w' : World) (r : Cv × Int) (e : Ending) : Prop := ∃ k', e = .returned (.tuple #[clV k', .int .i64 r.2]) ∧ CmAt w' (fun b => Q b ∨ w.heap.size ≤ b) k' ∧ k'.val = r.1
theorem CmAt.of_own {w : World} {Q : Nat → Prop} {base g n cap : Nat} {p v m : Int} {sl : List Sm} (h : LOwn svC 3 47 w base (.slice (some ⟨g, 0, none⟩) n cap) sl) (hl : sl.length = n) (hs : ∀ s ∈ sl, SmAt w Q s) (hQ : Q g) : CmAt w Q ⟨p, v, m, some ⟨g, 0, none⟩, n, cap, sl⟩ := by
  subst hl
  obtain ⟨A', c', hv, h1, h2, h3, h4⟩ := h.form
  injection hv with e1 e2 e3
  subst e1
  subst e3
  exact ⟨h4, ⟨h1, h2⟩, fun _ ad e => by injection e with e; subst e; exact hQ, hs⟩
theorem set_val (sl : List Sm) (l : List Sv) (j : Nat) (b : Bool) (y x : Sm) (h : sl.map Sm.val = l) (hx : sl[j]? = some x) (hy : y.val = ⟨b, x.view, x.log.map Em.val⟩) : (sl.set j y).map Sm.val = setUp l j b := by
  subst h
  unfold setUp
  rw [List.getElem?_map, hx, List.map_set, hy]
  rfl
set_option maxRecDepth 100000 in
set_option maxHeartbeats 8000000 in
theorem own_any (k : Cm) (w : World) {Q : Nat → Prop} (h : CmAt w Q k) (hs : CmSm k) :
    Calls Try.prog 58 #[clV k] w fun e w' => OwnC Q w w' k e ∧ Below w.heap.size w w' := by
  have hl := Lib.hid h.len
  have hcm := Lib.hid h.lt
  obtain ⟨hn1, hn7, -⟩ := hs
  clear h
  obtain ⟨primary, view, commit, A, n, c, sl⟩ := k
  simp only [clV] at *
  obtain ⟨i47, hi47, hz470, hz471, hz472⟩ := info_parts sv_info
  replace hi47 := Lib.hid hi47
  replace hz470 := Lib.hid hz470
  replace hz471 := Lib.hid hz471
  replace hz472 := Lib.hid hz472
  have hx0 := Lib.hid (((Blk.new w 24 #[Value.int .i64 primary, Value.int .i64 view, Value.int .i64 commit, Value.slice A n c]).alloc (.cells #[Value.int .i64 0, Value.int .i64 0, Value.int .i64 0, Value.slice none 0 0] 24)).alloc (.cells #[] 47))
  have hz0 := Blk.new (w.alloc (.cells #[Value.int .i64 primary, Value.int .i64 view, Value.int .i64 commit, Value.slice A n c] 24)) 24 #[Value.int .i64 0, Value.int .i64 0, Value.int .i64 0, Value.slice none 0 0]
  rw [show (w.alloc (.cells #[Value.int .i64 primary, Value.int .i64 view, Value.int .i64 commit, Value.slice A n c] 24)).heap.size = w.heap.size + 1 by simp] at hz0
  have hz0 := Lib.hid (hz0.alloc (.cells #[] 47))
  have hown := lit_own (e := 47) svC_len ((w.alloc (.cells #[Value.int .i64 primary, Value.int .i64 view, Value.int .i64 commit, Value.slice A n c] 24)).alloc (.cells #[Value.int .i64 0, Value.int .i64 0, Value.int .i64 0, Value.slice none 0 0] 24)) [] #[] rfl (Nat.zero_le _)
  rw [show ((w.alloc (.cells #[Value.int .i64 primary, Value.int .i64 view, Value.int .i64 commit, Value.slice A n c] 24)).alloc (.cells #[Value.int .i64 0, Value.int .i64 0, Value.int .i64 0, Value.slice none 0 0] 24)).heap.size = w.heap.size + 1 + 1 by simp] at hown
  replace hown := Lib.hid hown
  have hb0 : Hid (Below w.heap.size w (((w.alloc (.cells #[Value.int .i64 primary, Value.int .i64 view, Value.int .i64 commit, Value.slice A n c] 24)).alloc (.cells #[Value.int .i64 0, Value.int .i64 0, Value.int .i64 0, Value.slice none 0 0] 24)).alloc (.cells #[] 47))) := ((a1 w _).alloc (by simp) _).alloc (by simp; omega) _
  have hsz0 : (((w.alloc (.cells #[Value.int .i64 primary, Value.int .i64 view, Value.int .i64 commit, Value.slice A n c] 24)).alloc (.cells #[Value.int .i64 0, Value.int .i64 0, Value.int .i64 0, Value.slice none 0 0] 24)).alloc (.cells #[] 47)).heap.size = w.heap.size + 3 := by simp
  have hrd : Hid (Reads (((w.alloc (.cells #[Value.int .i64 primary, Value.int .i64 view, Value.int .i64 commit, Value.slice A n c] 24)).alloc (.cells #[Value.int .i64 0, Value.int .i64 0, Value.int .i64 0, Value.slice none 0 0] 24)).alloc (.cells #[] 47)) (((w.alloc (.cells #[Value.int .i64 primary, Value.int .i64 view, Value.int .i64 commit, Value.slice A n c] 24)).alloc (.cells #[Value.int .i64 0, Value.int .i64 0, Value.int .i64 0, Value.slice none 0 0] 24)).alloc (.cells #[] 47)).heap.size 3 A n (flat svC sl)) := (hcm.out.at_.more hb0.out).2
  obtain ⟨k0, k1, k2, k3⟩ := cells4 ((((w.alloc (.cells #[Value.int .i64 primary, Value.int .i64 view, Value.int .i64 commit, Value.slice A n c] 24)).alloc (.cells #[Value.int .i64 0, Value.int .i64 0, Value.int .i64 0, Value.slice none 0 0] 24)).alloc (.cells #[] 47))) (w.heap.size) (Value.int .i64 primary) (Value.int .i64 view) (Value.int .i64 commit) (Value.slice A n c) (hx0.out)
  replace hsz0 := Lib.hid hsz0
  go_enter Try.func58, Try.ntmps58
  go_wp2_with (at_builtin; refine wpList_append_any _ rfl (.tmp 3) (.tmp 5) _ rfl (w.heap.size + 1 + 1) 47 i47 _ 3 40 Try.underlying22 hi47.out hz470.out hz471.out hz472.out rfl (by omega) (.slice (some ⟨(w.heap.size + 1 + 1), 0, none⟩) 0 0) 0 [] rfl hown.out.2 _ A n c (flat svC sl) rfl hrd.out (svC_one _) (by simp only [maxLen]; omega) (by omega) (by rw [hsz0.out]; omega) ?_
               intro v' w1 hown1 hg1 hat1
               have hrow1 : LOwn svC 3 47 w1 (w.heap.size + 1 + 1) v' sl := ⟨svC_len, by have := hown1; rw [Nat.zero_add, List.nil_append] at this; rw [hl.out]; exact this⟩
               obtain ⟨g, cap, hv'⟩ := hrow1.some_ (by have := hl.out; (try simp only at this); omega)
               rw [hl.out] at hv'
               subst hv'
               have hrow1 := Lib.hid hrow1
               have hB1 := Lib.hid (hx0.out.grown hg1 (by intro e; simp [Value.ownBlock] at e; omega))
               have hZ1 := Lib.hid (hz0.out.grown hg1 (by intro e; simp [Value.ownBlock] at e))
               have hb1 : Hid (Below w.heap.size w w1) := hb0.out.grown hg1 hb0.out.size (fun k hk => by simp [Value.ownBlock] at hk; omega)
               have hs1 : Hid (∀ s ∈ sl, SmAt w1 (fun b => Q b ∧ b < w.heap.size) s) := fun s hs => (hcm.out.els s hs).more (hb1.out)
               have hgw : Hid (w.heap.size + 1 < g) := (hrow1.out.grown_base hl.out.symm).1
               clear hown1 hg1 hat1 hx0 hz0 hb0 hown hrd
               obtain ⟨k0, k1, k2, k3, z0, z1, z2, z3⟩ := cells4z (w1) (w.heap.size) (Value.int .i64 primary) (Value.int .i64 view) (Value.int .i64 commit) (Value.slice A n c) (hB1.out)
               obtain ⟨m0, m1, m2, m3⟩ := cells4 ((w1.setCell ⟨w.heap.size, 3, none⟩ (Value.slice (some ⟨g, 0, none⟩) n cap))) (w.heap.size) (Value.int .i64 primary) (Value.int .i64 view) (Value.int .i64 commit) (Value.slice (some ⟨g, 0, none⟩) n cap) ((hB1.out.set_ 3 (Value.slice (some ⟨g, 0, none⟩) n cap)))
               have hg2 : Hid (w1.grownBy (w1.setCell ⟨w.heap.size, 3, none⟩ (Value.slice (some ⟨g, 0, none⟩) n cap)) (some w.heap.size)) := only_set (World.grownBy.refl _ _) _ _
               have hZ2 := Lib.hid (hZ1.out.grown hg2.out (by intro e; injection e with e; omega))
               have hrow2 := Lib.hid (hrow1.out.grownO hg2.out (.inr (by intro e; simp [Value.ownBlock] at e; have := hgw.out; omega)))
               have hb2 := Lib.hid (below_set hb1.out (Nat.le_refl _) 3 (Value.slice (some ⟨g, 0, none⟩) n cap))
               have hs2 : Hid (∀ s ∈ sl, SmAt (w1.setCell ⟨w.heap.size, 3, none⟩ (Value.slice (some ⟨g, 0, none⟩) n cap)) (fun b => Q b ∧ b < w.heap.size) s) := fun s hs => (hs1.out s hs).st hg2.out (fun b hb e => by injection e with e; have := hb.2; omega)
               obtain ⟨u0, u1, u2, u3, y0, y1, y2, y3⟩ := cells4z ((w1.setCell ⟨w.heap.size, 3, none⟩ (Value.slice (some ⟨g, 0, none⟩) n cap))) ((w.heap.size + 1)) (Value.int .i64 0) (Value.int .i64 0) (Value.int .i64 0) (Value.slice none 0 0) (hZ2.out))
  (try simp only [Exit.inBlock, Exit.then])
  have hBF := cl_set4 hZ2.out (Value.int .i64 primary) (Value.int .i64 view) (Value.int .i64 commit) (Value.slice (some ⟨g, 0, none⟩) n cap)
  have hbF := below_set4 hb2.out (Nat.le_succ _) (Value.int .i64 primary) (Value.int .i64 view) (Value.int .i64 commit) (Value.slice (some ⟨g, 0, none⟩) n cap)
  have hgF := grown_set4 ((w1.setCell ⟨w.heap.size, 3, none⟩ (Value.slice (some ⟨g, 0, none⟩) n cap))) (w.heap.size + 1) (Value.int .i64 primary) (Value.int .i64 view) (Value.int .i64 commit) (Value.slice (some ⟨g, 0, none⟩) n cap)
  refine bodyPost_ret (v := .agg #[Value.int .i64 primary, Value.int .i64 view, Value.int .i64 commit, Value.slice (some ⟨g, 0, none⟩) n cap]) ?_ rfl ?_
  · exact results_cell_row (h := rfl) _ _ (w.heap.size + 1) 24 _ (0, 0) _ rfl hBF Try.underlying24 rfl (by kernel_rfl)
  clear hBF
  generalize (((((w1.setCell ⟨w.heap.size, 3, none⟩ (Value.slice (some ⟨g, 0, none⟩) n cap)).setCell ⟨(w.heap.size + 1), 0, none⟩ (Value.int .i64 primary)).setCell ⟨(w.heap.size + 1), 1, none⟩ (Value.int .i64 view)).setCell ⟨(w.heap.size + 1), 2, none⟩ (Value.int .i64 commit)).setCell ⟨(w.heap.size + 1), 3, none⟩ (Value.slice (some ⟨g, 0, none⟩) n cap)) = wF at *
  exact ⟨⟨g, cap, sl, rfl, (hrow2.out.grownO hgF (.inr (by intro e; simp [Value.ownBlock] at e; have := hgw.out; omega))).mono (by omega), fun s hs => ((hs2.out s hs).st hgF (fun b hb e => by injection e with e; have := hb.2; omega)).imp (fun b hb => ⟨Or.inl hb.1, by have := hb.2; have := hgw.out; omega⟩), rfl⟩, hbF⟩
set_option maxRecDepth 100000 in
set_option maxHeartbeats 8000000 in
theorem crash_any (k : Cm) (i : Int) (w : World) {Q : Nat → Prop} (h : CmAt w Q k) (hs : CmSm k) :
    Calls Try.prog 27 #[clV k, .int .i64 i] w fun e w' => ResC Q w w' (crashC k.val i) e ∧ Below w.heap.size w w' := by
  obtain ⟨r, hr⟩ : ∃ r, r = crashC k.val i := ⟨_, rfl⟩
  rw [← hr]
  replace hr := Lib.hid hr
  have hl := Lib.hid h.len
  have hcm := Lib.hid h.lt
  have hsm := Lib.hid hs
  clear h
  obtain ⟨hn1, hn7, -⟩ := hs
  obtain ⟨primary, view, commit, A, n, c, sl⟩ := k
  simp only [clV] at *
  have hx0 := Lib.hid ((Blk.new w 24 #[Value.int .i64 primary, Value.int .i64 view, Value.int .i64 commit, Value.slice A n c]).alloc (.cells #[Value.int .i64 0, Value.int .i64 0, Value.int .i64 0, Value.slice none 0 0] 24))
  have hz0 := Blk.new (w.alloc (.cells #[Value.int .i64 primary, Value.int .i64 view, Value.int .i64 commit, Value.slice A n c] 24)) 24 #[Value.int .i64 0, Value.int .i64 0, Value.int .i64 0, Value.slice none 0 0]
  rw [show (w.alloc (.cells #[Value.int .i64 primary, Value.int .i64 view, Value.int .i64 commit, Value.slice A n c] 24)).heap.size = w.heap.size + 1 by simp] at hz0
  replace hz0 := Lib.hid hz0
  have hb0 : Hid (Below w.heap.size w ((w.alloc (.cells #[Value.int .i64 primary, Value.int .i64 view, Value.int .i64 commit, Value.slice A n c] 24)).alloc (.cells #[Value.int .i64 0, Value.int .i64 0, Value.int .i64 0, Value.slice none 0 0] 24))) := (a1 w _).alloc (by simp) _
  have hsz0 : Hid (((w.alloc (.cells #[Value.int .i64 primary, Value.int .i64 view, Value.int .i64 commit, Value.slice A n c] 24)).alloc (.cells #[Value.int .i64 0, Value.int .i64 0, Value.int .i64 0, Value.slice none 0 0] 24)).heap.size = w.heap.size + 2) := by show _ = _; simp
  have hc0 := Lib.hid (hcm.out.more hb0.out)
  obtain ⟨k0, k1, k2, k3⟩ := cells4 (((w.alloc (.cells #[Value.int .i64 primary, Value.int .i64 view, Value.int .i64 commit, Value.slice A n c] 24)).alloc (.cells #[Value.int .i64 0, Value.int .i64 0, Value.int .i64 0, Value.slice none 0 0] 24))) (w.heap.size) (Value.int .i64 primary) (Value.int .i64 view) (Value.int .i64 commit) (Value.slice A n c) (hx0.out)
  obtain ⟨u0, u1, u2, u3, y0, y1, y2, y3⟩ := cells4z (((w.alloc (.cells #[Value.int .i64 primary, Value.int .i64 view, Value.int .i64 commit, Value.slice A n c] 24)).alloc (.cells #[Value.int .i64 0, Value.int .i64 0, Value.int .i64 0, Value.slice none 0 0] 24))) ((w.heap.size + 1)) (Value.int .i64 0) (Value.int .i64 0) (Value.int .i64 0) (Value.slice none 0 0) (hz0.out)
  by_cases q1 : i < 0
  · have q1d : decide (i < 0) = true := by simpa using q1
    have hF : Hid (r = (⟨primary, view, commit, sl.map Sm.val⟩, 2)) := by show _ = _; rw [hr.out]; show crashC ⟨primary, view, commit, sl.map Sm.val⟩ i = _; unfold crashC; rw [if_pos (.inl q1)]
    go_enter Try.func27, Try.ntmps27
    go_wp2_with fail
    (try simp only [Exit.inBlock, Exit.then])
    have hBF := Blk.new (w.alloc (.cells #[Value.int .i64 primary, Value.int .i64 view, Value.int .i64 commit, Value.slice A n c] 24)) 24 #[Value.int .i64 primary, Value.int .i64 view, Value.int .i64 commit, Value.slice A n c]
    rw [show (w.alloc (.cells #[Value.int .i64 primary, Value.int .i64 view, Value.int .i64 commit, Value.slice A n c] 24)).heap.size = w.heap.size + 1 by simp] at hBF
    have hbF : Below w.heap.size w ((w.alloc (.cells #[Value.int .i64 primary, Value.int .i64 view, Value.int .i64 commit, Value.slice A n c] 24)).alloc (.cells #[Value.int .i64 primary, Value.int .i64 view, Value.int .i64 commit, Value.slice A n c] 24)) := ((a1 w _).alloc (by simp) _)
    refine bodyPost_ret (v := .tuple #[.agg #[Value.int .i64 primary, Value.int .i64 view, Value.int .i64 commit, Value.slice A n c], .int .i64 2]) ?_ rfl ?_
    · refine (res2 (fn := Try.f27) (p := 4) (u := 5) (ty := 24) rfl _ _ (w.heap.size + 1) 24 _ (0, 0) _ ?_ hBF Try.underlying24 rfl (by kernel_rfl)).trans ?_
      · rfl
      · rfl
    clear hBF
    exact ⟨⟨⟨primary, view, commit, A, n, c, sl⟩, by rw [hF.out]; rfl, (hcm.out.more hbF).imp (fun b hb => Or.inl hb.1), by rw [hF.out]; rfl⟩, hbF⟩
  have q1d : decide (i < 0) = false := by simpa using q1
  by_cases q2 : (n : Int) ≤ i
  · have q2d : decide ((n : Int) ≤ i) = true := by simpa using q2
    have hF : Hid (r = (⟨primary, view, commit, sl.map Sm.val⟩, 2)) := by show _ = _; rw [hr.out]; show crashC ⟨primary, view, commit, sl.map Sm.val⟩ i = _; unfold crashC; rw [if_pos (.inr (by show ((sl.map Sm.val).length : Int) ≤ i; rw [List.length_map, hl.out]; exact q2))]
    go_enter Try.func27, Try.ntmps27
    go_wp2_with fail
    (try simp only [Exit.inBlock, Exit.then])
    have hBF := Blk.new (w.alloc (.cells #[Value.int .i64 primary, Value.int .i64 view, Value.int .i64 commit, Value.slice A n c] 24)) 24 #[Value.int .i64 primary, Value.int .i64 view, Value.int .i64 commit, Value.slice A n c]
    rw [show (w.alloc (.cells #[Value.int .i64 primary, Value.int .i64 view, Value.int .i64 commit, Value.slice A n c] 24)).heap.size = w.heap.size + 1 by simp] at hBF
    have hbF : Below w.heap.size w ((w.alloc (.cells #[Value.int .i64 primary, Value.int .i64 view, Value.int .i64 commit, Value.slice A n c] 24)).alloc (.cells #[Value.int .i64 primary, Value.int .i64 view, Value.int .i64 commit, Value.slice A n c] 24)) := ((a1 w _).alloc (by simp) _)
    refine bodyPost_ret (v := .tuple #[.agg #[Value.int .i64 primary, Value.int .i64 view, Value.int .i64 commit, Value.slice A n c], .int .i64 2]) ?_ rfl ?_
    · refine (res2 (fn := Try.f27) (p := 4) (u := 5) (ty := 24) rfl _ _ (w.heap.size + 1) 24 _ (0, 0) _ ?_ hBF Try.underlying24 rfl (by kernel_rfl)).trans ?_
      · rfl
      · rfl
    clear hBF
    exact ⟨⟨⟨primary, view, commit, A, n, c, sl⟩, by rw [hF.out]; rfl, (hcm.out.more hbF).imp (fun b hb => Or.inl hb.1), by rw [hF.out]; rfl⟩, hbF⟩
  have q2d : decide ((n : Int) ≤ i) = false := by simpa using q2
  obtain ⟨j, rfl⟩ : ∃ j : Nat, i = (j : Int) := ⟨i.toNat, by omega⟩
  have hjn : j < n := by omega
  have hjl : j < sl.length := by have := hl.out; (try simp only at this); omega
  have hj0 : (0 : Int) ≤ j := by omega
  have hj1 : (j : Int) < n := by omega
  obtain ⟨ad, hA, -, e0, -, -⟩ := sv_cells hc0.out.at_ hjn
  (try simp only at hA)
  obtain ⟨x, hx⟩ : ∃ x, x = sl[j] := ⟨_, rfl⟩
  rw [← hx] at e0
  have hxo : Hid (sl[j]? = some x) := by show _ = _; rw [List.getElem?_eq_getElem hjl, hx]
  have hP : Hid (r = if x.up = false then (⟨primary, view, commit, sl.map Sm.val⟩, 25) else (⟨if primary = (j : Int) then -1 else primary, view, commit, setUp (sl.map Sm.val) j false⟩, 0)) := by
    show _ = _
    rw [hr.out]; show crashC ⟨primary, view, commit, sl.map Sm.val⟩ (j : Int) = _; unfold crashC
    rw [if_neg (fun h => h.elim q1 (fun h => q2 (by rw [← hl.out, ← List.length_map (f := Sm.val)]; exact h)))]
    show (match (sl.map Sm.val)[j]? with | none => _ | some s => _) = _
    rw [List.getElem?_map, hxo.out]
    rfl
  clear hx
  subst hA
  by_cases q3 : x.up = false
  · have hF : Hid (r = (⟨primary, view, commit, sl.map Sm.val⟩, 25)) := by show _ = _; rw [hP.out, if_pos q3]
    rw [q3] at e0
    replace q3 := Lib.hid q3
    go_enter Try.func27, Try.ntmps27
    go_wp2_with fail
    (try simp only [Exit.inBlock, Exit.then])
    have hBF := Blk.new (w.alloc (.cells #[Value.int .i64 primary, Value.int .i64 view, Value.int .i64 commit, Value.slice (some ad) n c] 24)) 24 #[Value.int .i64 primary, Value.int .i64 view, Value.int .i64 commit, Value.slice (some ad) n c]
    rw [show (w.alloc (.cells #[Value.int .i64 primary, Value.int .i64 view, Value.int .i64 commit, Value.slice (some ad) n c] 24)).heap.size = w.heap.size + 1 by simp] at hBF
    have hbF : Below w.heap.size w ((w.alloc (.cells #[Value.int .i64 primary, Value.int .i64 view, Value.int .i64 commit, Value.slice (some ad) n c] 24)).alloc (.cells #[Value.int .i64 primary, Value.int .i64 view, Value.int .i64 commit, Value.slice (some ad) n c] 24)) := ((a1 w _).alloc (by simp) _)
    refine bodyPost_ret (v := .tuple #[.agg #[Value.int .i64 primary, Value.int .i64 view, Value.int .i64 commit, Value.slice (some ad) n c], .int .i64 25]) ?_ rfl ?_
    · refine (res2 (fn := Try.f27) (p := 4) (u := 5) (ty := 24) rfl _ _ (w.heap.size + 1) 24 _ (0, 0) _ ?_ hBF Try.underlying24 rfl (by kernel_rfl)).trans ?_
      · rfl
      · rfl
    clear hBF
    exact ⟨⟨⟨primary, view, commit, (some ad), n, c, sl⟩, by rw [hF.out]; rfl, (hcm.out.more hbF).imp (fun b hb => Or.inl hb.1), by rw [hF.out]; rfl⟩, hbF⟩
  have hFF : Hid (r = (⟨if primary = (j : Int) then -1 else primary, view, commit, setUp (sl.map Sm.val) j false⟩, 0)) := by show _ = _; rw [hP.out, if_neg q3]
  have hxu : x.up = true := by simpa using q3
  rw [hxu] at e0
  replace hxu := Lib.hid hxu
  clear hP q3
  have hcp := Lib.hid (copyCluster_any ⟨primary, view, commit, some ad, n, c, sl⟩ ((w.alloc (.cells #[Value.int .i64 primary, Value.int .i64 view, Value.int .i64 commit, Value.slice (some ad) n c] 24)).alloc (.cells #[Value.int .i64 0, Value.int .i64 0, Value.int .i64 0, Value.slice none 0 0] 24)) hc0.out hsm.out)
  simp only [clV] at hcp
  go_enter Try.func27, Try.ntmps27
  go_wp2_with fail
  refine hcp.out.mono ?_; rintro e w2 ⟨⟨g, cap, sl2, rfl, hrow, hs, hv⟩, hq⟩
  (try simp only at hrow hs hv)
  have hl2 : Hid (sl2.length = n) := by
    show _ = _
    have := congrArg List.length hv
    rw [List.length_map, List.length_map, hl.out] at this
    exact this
  have hB2 := Lib.hid (hx0.out.below hq hx0.out.lt)
  have hZ2 := Lib.hid (hz0.out.below hq hz0.out.lt)
  have hb2 := Lib.hid (hb0.out.trans (hq.mono hb0.out.size))
  rw [hsz0.out] at hrow hs
  have hgw : Hid (w.heap.size + 2 ≤ g) := (hrow.grown_base hl2.out.symm).1
  have hrow2 := Lib.hid hrow
  have hs2 : Hid (∀ s ∈ sl2, SmAt w2 (fun b => ((Q b ∧ b < w.heap.size) ∨ w.heap.size + 2 ≤ b) ∧ b ≠ g) s) := hs
  have hv2 := Lib.hid hv
  clear hq hrow hs hv hcp hx0 hz0 hb0 hc0 k0 k1 k2 k3 u0 u1 u2 u3 y0 y1 y2 y3 e0
  obtain ⟨x2, hx2⟩ : ∃ x2, sl2[j]? = some x2 := ⟨_, List.getElem?_eq_getElem (by have := hl2.out; omega)⟩
  have hxv : x2.val = x.val := by
    have h8 : (sl2.map Sm.val)[j]? = (sl.map Sm.val)[j]? := by rw [hv2.out]
    rw [List.getElem?_map, List.getElem?_map, hx2, hxo.out] at h8
    injection h8
  have hxu2 : x2.up = true := (congrArg Sv.up hxv).trans hxu.out
  clear hxv
  obtain ⟨xu, xv, xA2, xn2, xc2, xl2⟩ := x2
  simp only at hxu2
  subst hxu2
  have hx2j : sl2[j]'(by have := hl2.out; omega) = ⟨true, xv, xA2, xn2, xc2, xl2⟩ := (List.getElem?_eq_some_iff.1 hx2).2
  replace hx2 := Lib.hid hx2
  have hB3 := Lib.hid (cl_set4 hB2.out (Value.int .i64 primary) (Value.int .i64 view) (Value.int .i64 commit) (Value.slice (some ⟨g, 0, none⟩) n cap))
  have hg3 := Lib.hid (grown_set4 w2 w.heap.size (Value.int .i64 primary) (Value.int .i64 view) (Value.int .i64 commit) (Value.slice (some ⟨g, 0, none⟩) n cap))
  have hb3 := Lib.hid (below_set4 hb2.out (Nat.le_refl _) (Value.int .i64 primary) (Value.int .i64 view) (Value.int .i64 commit) (Value.slice (some ⟨g, 0, none⟩) n cap))
  have hbx : Hid (w.heap.size ≠ g ∧ w.heap.size ≠ w.heap.size + 1 ∧ w.heap.size ≤ w.heap.size) := ⟨by have := hgw.out; omega, by omega, Nat.le_refl _⟩
  have hs3 : Hid (∀ s ∈ sl2, SmAt ((((w2.setCell ⟨w.heap.size, 0, none⟩ (Value.int .i64 primary)).setCell ⟨w.heap.size, 1, none⟩ (Value.int .i64 view)).setCell ⟨w.heap.size, 2, none⟩ (Value.int .i64 commit)).setCell ⟨w.heap.size, 3, none⟩ (Value.slice (some ⟨g, 0, none⟩) n cap)) (fun b => ((Q b ∧ b < w.heap.size) ∨ w.heap.size + 2 ≤ b) ∧ b ≠ g ∧ b ≠ w.heap.size) s) := fun s hs => ((hs2.out s hs).st hg3.out (fun b hb e => by injection e with e; have := hb.1; omega)).imp (fun b hb => ⟨hb.1, hb.2, by have := hb.1; omega⟩)
  obtain ⟨k0, k1, k2, k3, z0, z1, z2, z3⟩ := cells4z (w2) (w.heap.size) (Value.int .i64 primary) (Value.int .i64 view) (Value.int .i64 commit) (Value.slice (some ad) n c) (hB2.out)
  have hZ3 := Lib.hid (hZ2.out.grown hg3.out (by intro e; injection e with e; omega))
  have hrow3 := Lib.hid (hrow2.out.grownO hg3.out (.inr (by intro e; simp [Value.ownBlock] at e; have := hgw.out; omega)))
  have c3 : ((((w2.setCell ⟨w.heap.size, 0, none⟩ (Value.int .i64 primary)).setCell ⟨w.heap.size, 1, none⟩ (Value.int .i64 view)).setCell ⟨w.heap.size, 2, none⟩ (Value.int .i64 commit)).setCell ⟨w.heap.size, 3, none⟩ (Value.slice (some ⟨g, 0, none⟩) n cap)).cell? ⟨g, j * 3, none⟩ = some (Value.bool true) := by
    rw [show (⟨g, j * 3, none⟩ : Addr) = ⟨g, j * 3 + 0, none⟩ from rfl, hrow3.out.cellAt hl2.out.symm (k := j) (by have := hl2.out; omega) (j := 0) (by decide), hx2j]; rfl
  have z3 : ((((w2.setCell ⟨w.heap.size, 0, none⟩ (Value.int .i64 primary)).setCell ⟨w.heap.size, 1, none⟩ (Value.int .i64 view)).setCell ⟨w.heap.size, 2, none⟩ (Value.int .i64 commit)).setCell ⟨w.heap.size, 3, none⟩ (Value.slice (some ⟨g, 0, none⟩) n cap)).frozen? ⟨g, j * 3, none⟩ = false := hrow3.out.frozenAt hl2.out.symm _
  have hrow4 : Hid (LOwn svC 3 47 (((((w2.setCell ⟨w.heap.size, 0, none⟩ (Value.int .i64 primary)).setCell ⟨w.heap.size, 1, none⟩ (Value.int .i64 view)).setCell ⟨w.heap.size, 2, none⟩ (Value.int .i64 commit)).setCell ⟨w.heap.size, 3, none⟩ (Value.slice (some ⟨g, 0, none⟩) n cap)).setCell ⟨g, j * 3, none⟩ (Value.bool false)) (w.heap.size + 2) (.slice (some ⟨g, 0, none⟩) n cap) (sl2.set j (⟨false, xv, xA2, xn2, xc2, xl2⟩ : Sm))) := (hrow3.out.storep hl2.out.symm (k := j) (by have := hl2.out; omega) (⟨false, xv, xA2, xn2, xc2, xl2⟩ : Sm) 0 [Value.bool false] (by simp) (row_set _ ⟨true, xv, xA2, xn2, xc2, xl2⟩ _ 0 _ (by decide) hx2j (by
    intro j hj h1
    have : j = 1 ∨ j = 2 := by omega
    rcases this with rfl | rfl <;> rfl) rfl)).1
  have hg4 : Hid (((((w2.setCell ⟨w.heap.size, 0, none⟩ (Value.int .i64 primary)).setCell ⟨w.heap.size, 1, none⟩ (Value.int .i64 view)).setCell ⟨w.heap.size, 2, none⟩ (Value.int .i64 commit)).setCell ⟨w.heap.size, 3, none⟩ (Value.slice (some ⟨g, 0, none⟩) n cap)).grownBy (((((w2.setCell ⟨w.heap.size, 0, none⟩ (Value.int .i64 primary)).setCell ⟨w.heap.size, 1, none⟩ (Value.int .i64 view)).setCell ⟨w.heap.size, 2, none⟩ (Value.int .i64 commit)).setCell ⟨w.heap.size, 3, none⟩ (Value.slice (some ⟨g, 0, none⟩) n cap)).setCell ⟨g, j * 3, none⟩ (Value.bool false)) (some g)) := only_set (World.grownBy.refl _ _) _ _
  have hB4 := Lib.hid (hB3.out.grown hg4.out (by intro e; injection e with e; first | exact hbx.out.1 e | exact hbx.out.1 e.symm))
  have hZ4 := Lib.hid (hZ3.out.grown hg4.out (by intro e; injection e with e; have := hgw.out; omega))
  have hb4 := Lib.hid (hb3.out.grown hg4.out hb3.out.size (fun g8 e8 => by injection e8 with e8; have := hgw.out; omega))
  have hs4 : Hid (∀ s ∈ sl2.set j (⟨false, xv, xA2, xn2, xc2, xl2⟩ : Sm), SmAt (((((w2.setCell ⟨w.heap.size, 0, none⟩ (Value.int .i64 primary)).setCell ⟨w.heap.size, 1, none⟩ (Value.int .i64 view)).setCell ⟨w.heap.size, 2, none⟩ (Value.int .i64 commit)).setCell ⟨w.heap.size, 3, none⟩ (Value.slice (some ⟨g, 0, none⟩) n cap)).setCell ⟨g, j * 3, none⟩ (Value.bool false)) (fun b => ((Q b ∧ b < w.heap.size) ∨ w.heap.size + 2 ≤ b) ∧ b ≠ g ∧ b ≠ w.heap.size) s) := fun s hs => by
    have h8 : ∀ t ∈ sl2, SmAt (((((w2.setCell ⟨w.heap.size, 0, none⟩ (Value.int .i64 primary)).setCell ⟨w.heap.size, 1, none⟩ (Value.int .i64 view)).setCell ⟨w.heap.size, 2, none⟩ (Value.int .i64 commit)).setCell ⟨w.heap.size, 3, none⟩ (Value.slice (some ⟨g, 0, none⟩) n cap)).setCell ⟨g, j * 3, none⟩ (Value.bool false)) (fun b => ((Q b ∧ b < w.heap.size) ∨ w.heap.size + 2 ≤ b) ∧ b ≠ g ∧ b ≠ w.heap.size) t := fun t ht => (hs3.out t ht).st hg4.out (fun b hb e => by injection e with e; exact hb.2.1 e)
    rcases List.mem_or_eq_of_mem_set hs with hs | rfl
    · exact h8 s hs
    · exact h8 ⟨true, xv, xA2, xn2, xc2, xl2⟩ (List.mem_of_getElem? hx2.out)
  replace hx2j := Lib.hid hx2j
  obtain ⟨q0, q1, q2, q3⟩ := cells4 (((((w2.setCell ⟨w.heap.size, 0, none⟩ (Value.int .i64 primary)).setCell ⟨w.heap.size, 1, none⟩ (Value.int .i64 view)).setCell ⟨w.heap.size, 2, none⟩ (Value.int .i64 commit)).setCell ⟨w.heap.size, 3, none⟩ (Value.slice (some ⟨g, 0, none⟩) n cap))) (w.heap.size) (Value.int .i64 primary) (Value.int .i64 view) (Value.int .i64 commit) (Value.slice (some ⟨g, 0, none⟩) n cap) (hB3.out)
  obtain ⟨p0, p1, p2, p3, r0, r1, r2, r3⟩ := cells4z ((((((w2.setCell ⟨w.heap.size, 0, none⟩ (Value.int .i64 primary)).setCell ⟨w.heap.size, 1, none⟩ (Value.int .i64 view)).setCell ⟨w.heap.size, 2, none⟩ (Value.int .i64 commit)).setCell ⟨w.heap.size, 3, none⟩ (Value.slice (some ⟨g, 0, none⟩) n cap)).setCell ⟨g, j * 3, none⟩ (Value.bool false))) (w.heap.size) (Value.int .i64 primary) (Value.int .i64 view) (Value.int .i64 commit) (Value.slice (some ⟨g, 0, none⟩) n cap) (hB4.out)
  by_cases q9 : primary = (j : Int)
  · have q9d : (primary == (j : Int)) = true := by simpa using q9
    have hF : Hid (r = (⟨-1, view, commit, setUp (sl.map Sm.val) j false⟩, 0)) := by show _ = _; rw [hFF.out, if_pos q9]
    replace q9 := Lib.hid q9
    have hg5 : Hid ((((((w2.setCell ⟨w.heap.size, 0, none⟩ (Value.int .i64 primary)).setCell ⟨w.heap.size, 1, none⟩ (Value.int .i64 view)).setCell ⟨w.heap.size, 2, none⟩ (Value.int .i64 commit)).setCell ⟨w.heap.size, 3, none⟩ (Value.slice (some ⟨g, 0, none⟩) n cap)).setCell ⟨g, j * 3, none⟩ (Value.bool false)).grownBy ((((((w2.setCell ⟨w.heap.size, 0, none⟩ (Value.int .i64 primary)).setCell ⟨w.heap.size, 1, none⟩ (Value.int .i64 view)).setCell ⟨w.heap.size, 2, none⟩ (Value.int .i64 commit)).setCell ⟨w.heap.size, 3, none⟩ (Value.slice (some ⟨g, 0, none⟩) n cap)).setCell ⟨g, j * 3, none⟩ (Value.bool false)).setCell ⟨w.heap.size, 0, none⟩ (Value.int .i64 (-1))) (some w.heap.size)) := only_set (World.grownBy.refl _ _) _ _
    have hB5 := Lib.hid (hB4.out.set_ 0 (Value.int .i64 (-1)))
    have hZ5 := Lib.hid (hZ4.out.grown hg5.out (by intro e; injection e with e; first | exact hbx.out.2.1 e | exact hbx.out.2.1 e.symm))
    have hrow5 := Lib.hid (hrow4.out.grownO hg5.out (.inr (by intro e; simp [Value.ownBlock] at e; first | exact hbx.out.1 e | exact hbx.out.1 e.symm)))
    have hb5 := Lib.hid (below_set hb4.out hbx.out.2.2 0 (Value.int .i64 (-1)))
    have hs5 : Hid (∀ s ∈ sl2.set j (⟨false, xv, xA2, xn2, xc2, xl2⟩ : Sm), SmAt ((((((w2.setCell ⟨w.heap.size, 0, none⟩ (Value.int .i64 primary)).setCell ⟨w.heap.size, 1, none⟩ (Value.int .i64 view)).setCell ⟨w.heap.size, 2, none⟩ (Value.int .i64 commit)).setCell ⟨w.heap.size, 3, none⟩ (Value.slice (some ⟨g, 0, none⟩) n cap)).setCell ⟨g, j * 3, none⟩ (Value.bool false)).setCell ⟨w.heap.size, 0, none⟩ (Value.int .i64 (-1))) (fun b => ((Q b ∧ b < w.heap.size) ∨ w.heap.size + 2 ≤ b) ∧ b ≠ g ∧ b ≠ w.heap.size) s) := fun s hs => (hs4.out s hs).st hg5.out (fun b hb e => by injection e with e; have := hb.2.2; omega)
    obtain ⟨n0, n1, n2, n3⟩ := cells4 (((((((w2.setCell ⟨w.heap.size, 0, none⟩ (Value.int .i64 primary)).setCell ⟨w.heap.size, 1, none⟩ (Value.int .i64 view)).setCell ⟨w.heap.size, 2, none⟩ (Value.int .i64 commit)).setCell ⟨w.heap.size, 3, none⟩ (Value.slice (some ⟨g, 0, none⟩) n cap)).setCell ⟨g, j * 3, none⟩ (Value.bool false)).setCell ⟨w.heap.size, 0, none⟩ (Value.int .i64 (-1)))) (w.heap.size) (Value.int .i64 (-1)) (Value.int .i64 view) (Value.int .i64 commit) (Value.slice (some ⟨g, 0, none⟩) n cap) (hB5.out)
    obtain ⟨u0, u1, u2, u3, y0, y1, y2, y3⟩ := cells4z (((((((w2.setCell ⟨w.heap.size, 0, none⟩ (Value.int .i64 primary)).setCell ⟨w.heap.size, 1, none⟩ (Value.int .i64 view)).setCell ⟨w.heap.size, 2, none⟩ (Value.int .i64 commit)).setCell ⟨w.heap.size, 3, none⟩ (Value.slice (some ⟨g, 0, none⟩) n cap)).setCell ⟨g, j * 3, none⟩ (Value.bool false)).setCell ⟨w.heap.size, 0, none⟩ (Value.int .i64 (-1)))) ((w.heap.size + 1)) (Value.int .i64 0) (Value.int .i64 0) (Value.int .i64 0) (Value.slice none 0 0) (hZ5.out)
    go_wp2_with fail
    (try simp only [Exit.inBlock, Exit.then])
    have hBF := cl_set4 hZ5.out (Value.int .i64 (-1)) (Value.int .i64 view) (Value.int .i64 commit) (Value.slice (some ⟨g, 0, none⟩) n cap)
    have hbF := below_set4 hb5.out (Nat.le_succ _) (Value.int .i64 (-1)) (Value.int .i64 view) (Value.int .i64 commit) (Value.slice (some ⟨g, 0, none⟩) n cap)
    have hgF := grown_set4 (((((((w2.setCell ⟨w.heap.size, 0, none⟩ (Value.int .i64 primary)).setCell ⟨w.heap.size, 1, none⟩ (Value.int .i64 view)).setCell ⟨w.heap.size, 2, none⟩ (Value.int .i64 commit)).setCell ⟨w.heap.size, 3, none⟩ (Value.slice (some ⟨g, 0, none⟩) n cap)).setCell ⟨g, j * 3, none⟩ (Value.bool false)).setCell ⟨w.heap.size, 0, none⟩ (Value.int .i64 (-1)))) (w.heap.size + 1) (Value.int .i64 (-1)) (Value.int .i64 view) (Value.int .i64 commit) (Value.slice (some ⟨g, 0, none⟩) n cap)
    refine bodyPost_ret (v := .tuple #[.agg #[Value.int .i64 (-1), Value.int .i64 view, Value.int .i64 commit, Value.slice (some ⟨g, 0, none⟩) n cap], .int .i64 0]) ?_ rfl ?_
    · refine (res2 (fn := Try.f27) (p := 4) (u := 5) (ty := 24) rfl _ _ (w.heap.size + 1) 24 _ (0, 0) _ ?_ hBF Try.underlying24 rfl (by kernel_rfl)).trans ?_
      · rfl
      · rfl
    clear hBF
    generalize ((((((((((w2.setCell ⟨w.heap.size, 0, none⟩ (Value.int .i64 primary)).setCell ⟨w.heap.size, 1, none⟩ (Value.int .i64 view)).setCell ⟨w.heap.size, 2, none⟩ (Value.int .i64 commit)).setCell ⟨w.heap.size, 3, none⟩ (Value.slice (some ⟨g, 0, none⟩) n cap)).setCell ⟨g, j * 3, none⟩ (Value.bool false)).setCell ⟨w.heap.size, 0, none⟩ (Value.int .i64 (-1))).setCell ⟨(w.heap.size + 1), 0, none⟩ (Value.int .i64 (-1))).setCell ⟨(w.heap.size + 1), 1, none⟩ (Value.int .i64 view)).setCell ⟨(w.heap.size + 1), 2, none⟩ (Value.int .i64 commit)).setCell ⟨(w.heap.size + 1), 3, none⟩ (Value.slice (some ⟨g, 0, none⟩) n cap)) = wF at *
    have hsF : ∀ s ∈ sl2.set j (⟨false, xv, xA2, xn2, xc2, xl2⟩ : Sm), SmAt wF (fun b => ((Q b ∧ b < w.heap.size) ∨ w.heap.size + 2 ≤ b)) s := fun s hs => ((hs5.out s hs).st hgF (fun b hb e => by injection e with e; have := hb.1; omega)).imp (fun b hb => hb.1)
    have hrF := hrow5.out.grownO hgF (.inr (by intro e; simp [Value.ownBlock] at e; have := hgw.out; omega))
    have hCF := CmAt.of_own (p := (-1)) (v := view) (m := commit) hrF (by simp [hl2.out]) hsF (Or.inr hgw.out)
    exact ⟨⟨_, by rw [hF.out]; rfl, hCF.imp (fun b hb => hb.elim (fun h => Or.inl h.1) (fun h => Or.inr (by omega))), by rw [hF.out]; exact congrArg (fun l => Cv.mk (-1) view commit l) (set_val sl2 _ j false (⟨false, xv, xA2, xn2, xc2, xl2⟩ : Sm) ⟨true, xv, xA2, xn2, xc2, xl2⟩ hv2.out hx2.out rfl)⟩, hbF⟩
  · have q9d : (primary == (j : Int)) = false := by simpa using q9
    have hF : Hid (r = (⟨primary, view, commit, setUp (sl.map Sm.val) j false⟩, 0)) := by show _ = _; rw [hFF.out, if_neg q9]
    obtain ⟨n0, n1, n2, n3⟩ := cells4 ((((((w2.setCell ⟨w.heap.size, 0, none⟩ (Value.int .i64 primary)).setCell ⟨w.heap.size, 1, none⟩ (Value.int .i64 view)).setCell ⟨w.heap.size, 2, none⟩ (Value.int .i64 commit)).setCell ⟨w.heap.size, 3, none⟩ (Value.slice (some ⟨g, 0, none⟩) n cap)).setCell ⟨g, j * 3, none⟩ (Value.bool false))) (w.heap.size) (Value.int .i64 primary) (Value.int .i64 view) (Value.int .i64 commit) (Value.slice (some ⟨g, 0, none⟩) n cap) (hB4.out)
    obtain ⟨u0, u1, u2, u3, y0, y1, y2, y3⟩ := cells4z ((((((w2.setCell ⟨w.heap.size, 0, none⟩ (Value.int .i64 primary)).setCell ⟨w.heap.size, 1, none⟩ (Value.int .i64 view)).setCell ⟨w.heap.size, 2, none⟩ (Value.int .i64 commit)).setCell ⟨w.heap.size, 3, none⟩ (Value.slice (some ⟨g, 0, none⟩) n cap)).setCell ⟨g, j * 3, none⟩ (Value.bool false))) ((w.heap.size + 1)) (Value.int .i64 0) (Value.int .i64 0) (Value.int .i64 0) (Value.slice none 0 0) (hZ4.out)
    go_wp2_with fail
    (try simp only [Exit.inBlock, Exit.then])
    have hBF := cl_set4 hZ4.out (Value.int .i64 primary) (Value.int .i64 view) (Value.int .i64 commit) (Value.slice (some ⟨g, 0, none⟩) n cap)
    have hbF := below_set4 hb4.out (Nat.le_succ _) (Value.int .i64 primary) (Value.int .i64 view) (Value.int .i64 commit) (Value.slice (some ⟨g, 0, none⟩) n cap)
    have hgF := grown_set4 ((((((w2.setCell ⟨w.heap.size, 0, none⟩ (Value.int .i64 primary)).setCell ⟨w.heap.size, 1, none⟩ (Value.int .i64 view)).setCell ⟨w.heap.size, 2, none⟩ (Value.int .i64 commit)).setCell ⟨w.heap.size, 3, none⟩ (Value.slice (some ⟨g, 0, none⟩) n cap)).setCell ⟨g, j * 3, none⟩ (Value.bool false))) (w.heap.size + 1) (Value.int .i64 primary) (Value.int .i64 view) (Value.int .i64 commit) (Value.slice (some ⟨g, 0, none⟩) n cap)
    refine bodyPost_ret (v := .tuple #[.agg #[Value.int .i64 primary, Value.int .i64 view, Value.int .i64 commit, Value.slice (some ⟨g, 0, none⟩) n cap], .int .i64 0]) ?_ rfl ?_
    · refine (res2 (fn := Try.f27) (p := 4) (u := 5) (ty := 24) rfl _ _ (w.heap.size + 1) 24 _ (0, 0) _ ?_ hBF Try.underlying24 rfl (by kernel_rfl)).trans ?_
      · rfl
      · rfl
    clear hBF
    generalize (((((((((w2.setCell ⟨w.heap.size, 0, none⟩ (Value.int .i64 primary)).setCell ⟨w.heap.size, 1, none⟩ (Value.int .i64 view)).setCell ⟨w.heap.size, 2, none⟩ (Value.int .i64 commit)).setCell ⟨w.heap.size, 3, none⟩ (Value.slice (some ⟨g, 0, none⟩) n cap)).setCell ⟨g, j * 3, none⟩ (Value.bool false)).setCell ⟨(w.heap.size + 1), 0, none⟩ (Value.int .i64 primary)).setCell ⟨(w.heap.size + 1), 1, none⟩ (Value.int .i64 view)).setCell ⟨(w.heap.size + 1), 2, none⟩ (Value.int .i64 commit)).setCell ⟨(w.heap.size + 1), 3, none⟩ (Value.slice (some ⟨g, 0, none⟩) n cap)) = wF at *
    have hsF : ∀ s ∈ sl2.set j (⟨false, xv, xA2, xn2, xc2, xl2⟩ : Sm), SmAt wF (fun b => ((Q b ∧ b < w.heap.size) ∨ w.heap.size + 2 ≤ b)) s := fun s hs => ((hs4.out s hs).st hgF (fun b hb e => by injection e with e; have := hb.1; omega)).imp (fun b hb => hb.1)
    have hrF := hrow4.out.grownO hgF (.inr (by intro e; simp [Value.ownBlock] at e; have := hgw.out; omega))
    have hCF := CmAt.of_own (p := primary) (v := view) (m := commit) hrF (by simp [hl2.out]) hsF (Or.inr hgw.out)
    exact ⟨⟨_, by rw [hF.out]; rfl, hCF.imp (fun b hb => hb.elim (fun h => Or.inl h.1) (fun h => Or.inr (by omega))), by rw [hF.out]; exact congrArg (fun l => Cv.mk primary view commit l) (set_val sl2 _ j false (⟨false, xv, xA2, xn2, xc2, xl2⟩ : Sm) ⟨true, xv, xA2, xn2, xc2, xl2⟩ hv2.out hx2.out rfl)⟩, hbF⟩
set_option maxRecDepth 100000 in
set_option maxHeartbeats 8000000 in
theorem restart_any (k : Cm) (i : Int) (w : World) {Q : Nat → Prop} (h : CmAt w Q k) (hs : CmSm k) :
    Calls Try.prog 28 #[clV k, .int .i64 i] w fun e w' => ResC Q w w' (restartC k.val i) e ∧ Below w.heap.size w w' := by
  obtain ⟨r, hr⟩ : ∃ r, r = restartC k.val i := ⟨_, rfl⟩
  rw [← hr]
  replace hr := Lib.hid hr
  have hl := Lib.hid h.len
  have hcm := Lib.hid h.lt
  have hsm := Lib.hid hs
  clear h
  obtain ⟨hn1, hn7, -⟩ := hs
  obtain ⟨primary, view, commit, A, n, c, sl⟩ := k
  simp only [clV] at *
  have hx0 := Lib.hid ((Blk.new w 24 #[Value.int .i64 primary, Value.int .i64 view, Value.int .i64 commit, Value.slice A n c]).alloc (.cells #[Value.int .i64 0, Value.int .i64 0, Value.int .i64 0, Value.slice none 0 0] 24))
  have hz0 := Blk.new (w.alloc (.cells #[Value.int .i64 primary, Value.int .i64 view, Value.int .i64 commit, Value.slice A n c] 24)) 24 #[Value.int .i64 0, Value.int .i64 0, Value.int .i64 0, Value.slice none 0 0]
  rw [show (w.alloc (.cells #[Value.int .i64 primary, Value.int .i64 view, Value.int .i64 commit, Value.slice A n c] 24)).heap.size = w.heap.size + 1 by simp] at hz0
  replace hz0 := Lib.hid hz0
  have hb0 : Hid (Below w.heap.size w ((w.alloc (.cells #[Value.int .i64 primary, Value.int .i64 view, Value.int .i64 commit, Value.slice A n c] 24)).alloc (.cells #[Value.int .i64 0, Value.int .i64 0, Value.int .i64 0, Value.slice none 0 0] 24))) := (a1 w _).alloc (by simp) _
  have hsz0 : Hid (((w.alloc (.cells #[Value.int .i64 primary, Value.int .i64 view, Value.int .i64 commit, Value.slice A n c] 24)).alloc (.cells #[Value.int .i64 0, Value.int .i64 0, Value.int .i64 0, Value.slice none 0 0] 24)).heap.size = w.heap.size + 2) := by show _ = _; simp
  have hc0 := Lib.hid (hcm.out.more hb0.out)
  obtain ⟨k0, k1, k2, k3⟩ := cells4 (((w.alloc (.cells #[Value.int .i64 primary, Value.int .i64 view, Value.int .i64 commit, Value.slice A n c] 24)).alloc (.cells #[Value.int .i64 0, Value.int .i64 0, Value.int .i64 0, Value.slice none 0 0] 24))) (w.heap.size) (Value.int .i64 primary) (Value.int .i64 view) (Value.int .i64 commit) (Value.slice A n c) (hx0.out)
  obtain ⟨u0, u1, u2, u3, y0, y1, y2, y3⟩ := cells4z (((w.alloc (.cells #[Value.int .i64 primary, Value.int .i64 view, Value.int .i64 commit, Value.slice A n c] 24)).alloc (.cells #[Value.int .i64 0, Value.int .i64 0, Value.int .i64 0, Value.slice none 0 0] 24))) ((w.heap.size + 1)) (Value.int .i64 0) (Value.int .i64 0) (Value.int .i64 0) (Value.slice none 0 0) (hz0.out)
  by_cases q1 : i < 0
  · have q1d : decide (i < 0) = true := by simpa using q1
    have hF : Hid (r = (⟨primary, view, commit, sl.map Sm.val⟩, 2)) := by show _ = _; rw [hr.out]; show restartC ⟨primary, view, commit, sl.map Sm.val⟩ i = _; unfold restartC; rw [if_pos (.inl q1)]
    go_enter Try.func28, Try.ntmps28
    go_wp2_with fail
    (try simp only [Exit.inBlock, Exit.then])
    have hBF := Blk.new (w.alloc (.cells #[Value.int .i64 primary, Value.int .i64 view, Value.int .i64 commit, Value.slice A n c] 24)) 24 #[Value.int .i64 primary, Value.int .i64 view, Value.int .i64 commit, Value.slice A n c]
    rw [show (w.alloc (.cells #[Value.int .i64 primary, Value.int .i64 view, Value.int .i64 commit, Value.slice A n c] 24)).heap.size = w.heap.size + 1 by simp] at hBF
    have hbF : Below w.heap.size w ((w.alloc (.cells #[Value.int .i64 primary, Value.int .i64 view, Value.int .i64 commit, Value.slice A n c] 24)).alloc (.cells #[Value.int .i64 primary, Value.int .i64 view, Value.int .i64 commit, Value.slice A n c] 24)) := ((a1 w _).alloc (by simp) _)
    refine bodyPost_ret (v := .tuple #[.agg #[Value.int .i64 primary, Value.int .i64 view, Value.int .i64 commit, Value.slice A n c], .int .i64 2]) ?_ rfl ?_
    · refine (res2 (fn := Try.f28) (p := 4) (u := 5) (ty := 24) rfl _ _ (w.heap.size + 1) 24 _ (0, 0) _ ?_ hBF Try.underlying24 rfl (by kernel_rfl)).trans ?_
      · rfl
      · rfl
    clear hBF
    exact ⟨⟨⟨primary, view, commit, A, n, c, sl⟩, by rw [hF.out]; rfl, (hcm.out.more hbF).imp (fun b hb => Or.inl hb.1), by rw [hF.out]; rfl⟩, hbF⟩
  have q1d : decide (i < 0) = false := by simpa using q1
  by_cases q2 : (n : Int) ≤ i
  · have q2d : decide ((n : Int) ≤ i) = true := by simpa using q2
    have hF : Hid (r = (⟨primary, view, commit, sl.map Sm.val⟩, 2)) := by show _ = _; rw [hr.out]; show restartC ⟨primary, view, commit, sl.map Sm.val⟩ i = _; unfold restartC; rw [if_pos (.inr (by show ((sl.map Sm.val).length : Int) ≤ i; rw [List.length_map, hl.out]; exact q2))]
    go_enter Try.func28, Try.ntmps28
    go_wp2_with fail
    (try simp only [Exit.inBlock, Exit.then])
    have hBF := Blk.new (w.alloc (.cells #[Value.int .i64 primary, Value.int .i64 view, Value.int .i64 commit, Value.slice A n c] 24)) 24 #[Value.int .i64 primary, Value.int .i64 view, Value.int .i64 commit, Value.slice A n c]
    rw [show (w.alloc (.cells #[Value.int .i64 primary, Value.int .i64 view, Value.int .i64 commit, Value.slice A n c] 24)).heap.size = w.heap.size + 1 by simp] at hBF
    have hbF : Below w.heap.size w ((w.alloc (.cells #[Value.int .i64 primary, Value.int .i64 view, Value.int .i64 commit, Value.slice A n c] 24)).alloc (.cells #[Value.int .i64 primary, Value.int .i64 view, Value.int .i64 commit, Value.slice A n c] 24)) := ((a1 w _).alloc (by simp) _)
    refine bodyPost_ret (v := .tuple #[.agg #[Value.int .i64 primary, Value.int .i64 view, Value.int .i64 commit, Value.slice A n c], .int .i64 2]) ?_ rfl ?_
    · refine (res2 (fn := Try.f28) (p := 4) (u := 5) (ty := 24) rfl _ _ (w.heap.size + 1) 24 _ (0, 0) _ ?_ hBF Try.underlying24 rfl (by kernel_rfl)).trans ?_
      · rfl
      · rfl
    clear hBF
    exact ⟨⟨⟨primary, view, commit, A, n, c, sl⟩, by rw [hF.out]; rfl, (hcm.out.more hbF).imp (fun b hb => Or.inl hb.1), by rw [hF.out]; rfl⟩, hbF⟩
  have q2d : decide ((n : Int) ≤ i) = false := by simpa using q2
  obtain ⟨j, rfl⟩ : ∃ j : Nat, i = (j : Int) := ⟨i.toNat, by omega⟩
  have hjn : j < n := by omega
  have hjl : j < sl.length := by have := hl.out; (try simp only at this); omega
  have hj0 : (0 : Int) ≤ j := by omega
  have hj1 : (j : Int) < n := by omega
  obtain ⟨ad, hA, -, e0, -, -⟩ := sv_cells hc0.out.at_ hjn
  (try simp only at hA)
  obtain ⟨x, hx⟩ : ∃ x, x = sl[j] := ⟨_, rfl⟩
  rw [← hx] at e0
  have hxo : Hid (sl[j]? = some x) := by show _ = _; rw [List.getElem?_eq_getElem hjl, hx]
  have hP : Hid (r = if x.up = true then (⟨primary, view, commit, sl.map Sm.val⟩, 10) else (⟨primary, view, commit, setUp (sl.map Sm.val) j true⟩, 0)) := by
    show _ = _
    rw [hr.out]; show restartC ⟨primary, view, commit, sl.map Sm.val⟩ (j : Int) = _; unfold restartC
    rw [if_neg (fun h => h.elim q1 (fun h => q2 (by rw [← hl.out, ← List.length_map (f := Sm.val)]; exact h)))]
    show (match (sl.map Sm.val)[j]? with | none => _ | some s => _) = _
    rw [List.getElem?_map, hxo.out]
    rfl
  clear hx
  subst hA
  by_cases q3 : x.up = true
  · have hF : Hid (r = (⟨primary, view, commit, sl.map Sm.val⟩, 10)) := by show _ = _; rw [hP.out, if_pos q3]
    rw [q3] at e0
    replace q3 := Lib.hid q3
    go_enter Try.func28, Try.ntmps28
    go_wp2_with fail
    (try simp only [Exit.inBlock, Exit.then])
    have hBF := Blk.new (w.alloc (.cells #[Value.int .i64 primary, Value.int .i64 view, Value.int .i64 commit, Value.slice (some ad) n c] 24)) 24 #[Value.int .i64 primary, Value.int .i64 view, Value.int .i64 commit, Value.slice (some ad) n c]
    rw [show (w.alloc (.cells #[Value.int .i64 primary, Value.int .i64 view, Value.int .i64 commit, Value.slice (some ad) n c] 24)).heap.size = w.heap.size + 1 by simp] at hBF
    have hbF : Below w.heap.size w ((w.alloc (.cells #[Value.int .i64 primary, Value.int .i64 view, Value.int .i64 commit, Value.slice (some ad) n c] 24)).alloc (.cells #[Value.int .i64 primary, Value.int .i64 view, Value.int .i64 commit, Value.slice (some ad) n c] 24)) := ((a1 w _).alloc (by simp) _)
    refine bodyPost_ret (v := .tuple #[.agg #[Value.int .i64 primary, Value.int .i64 view, Value.int .i64 commit, Value.slice (some ad) n c], .int .i64 10]) ?_ rfl ?_
    · refine (res2 (fn := Try.f28) (p := 4) (u := 5) (ty := 24) rfl _ _ (w.heap.size + 1) 24 _ (0, 0) _ ?_ hBF Try.underlying24 rfl (by kernel_rfl)).trans ?_
      · rfl
      · rfl
    clear hBF
    exact ⟨⟨⟨primary, view, commit, (some ad), n, c, sl⟩, by rw [hF.out]; rfl, (hcm.out.more hbF).imp (fun b hb => Or.inl hb.1), by rw [hF.out]; rfl⟩, hbF⟩
  have hFF : Hid (r = (⟨primary, view, commit, setUp (sl.map Sm.val) j true⟩, 0)) := by show _ = _; rw [hP.out, if_neg q3]
  have hxu : x.up = false := by simpa using q3
  rw [hxu] at e0
  replace hxu := Lib.hid hxu
  clear hP q3
  have hcp := Lib.hid (copyCluster_any ⟨primary, view, commit, some ad, n, c, sl⟩ ((w.alloc (.cells #[Value.int .i64 primary, Value.int .i64 view, Value.int .i64 commit, Value.slice (some ad) n c] 24)).alloc (.cells #[Value.int .i64 0, Value.int .i64 0, Value.int .i64 0, Value.slice none 0 0] 24)) hc0.out hsm.out)
  simp only [clV] at hcp
  go_enter Try.func28, Try.ntmps28
  go_wp2_with fail
  refine hcp.out.mono ?_; rintro e w2 ⟨⟨g, cap, sl2, rfl, hrow, hs, hv⟩, hq⟩
  (try simp only at hrow hs hv)
  have hl2 : Hid (sl2.length = n) := by
    show _ = _
    have := congrArg List.length hv
    rw [List.length_map, List.length_map, hl.out] at this
    exact this
  have hB2 := Lib.hid (hx0.out.below hq hx0.out.lt)
  have hZ2 := Lib.hid (hz0.out.below hq hz0.out.lt)
  have hb2 := Lib.hid (hb0.out.trans (hq.mono hb0.out.size))
  rw [hsz0.out] at hrow hs
  have hgw : Hid (w.heap.size + 2 ≤ g) := (hrow.grown_base hl2.out.symm).1
  have hrow2 := Lib.hid hrow
  have hs2 : Hid (∀ s ∈ sl2, SmAt w2 (fun b => ((Q b ∧ b < w.heap.size) ∨ w.heap.size + 2 ≤ b) ∧ b ≠ g) s) := hs
  have hv2 := Lib.hid hv
  clear hq hrow hs hv hcp hx0 hz0 hb0 hc0 k0 k1 k2 k3 u0 u1 u2 u3 y0 y1 y2 y3 e0
  obtain ⟨x2, hx2⟩ : ∃ x2, sl2[j]? = some x2 := ⟨_, List.getElem?_eq_getElem (by have := hl2.out; omega)⟩
  have hxv : x2.val = x.val := by
    have h8 : (sl2.map Sm.val)[j]? = (sl.map Sm.val)[j]? := by rw [hv2.out]
    rw [List.getElem?_map, List.getElem?_map, hx2, hxo.out] at h8
    injection h8
  have hxu2 : x2.up = false := (congrArg Sv.up hxv).trans hxu.out
  clear hxv
  obtain ⟨xu, xv, xA2, xn2, xc2, xl2⟩ := x2
  simp only at hxu2
  subst hxu2
  have hx2j : sl2[j]'(by have := hl2.out; omega) = ⟨false, xv, xA2, xn2, xc2, xl2⟩ := (List.getElem?_eq_some_iff.1 hx2).2
  replace hx2 := Lib.hid hx2
  have hB3 := Lib.hid (cl_set4 hB2.out (Value.int .i64 primary) (Value.int .i64 view) (Value.int .i64 commit) (Value.slice (some ⟨g, 0, none⟩) n cap))
  have hg3 := Lib.hid (grown_set4 w2 w.heap.size (Value.int .i64 primary) (Value.int .i64 view) (Value.int .i64 commit) (Value.slice (some ⟨g, 0, none⟩) n cap))
  have hb3 := Lib.hid (below_set4 hb2.out (Nat.le_refl _) (Value.int .i64 primary) (Value.int .i64 view) (Value.int .i64 commit) (Value.slice (some ⟨g, 0, none⟩) n cap))
  have hbx : Hid (w.heap.size ≠ g ∧ w.heap.size ≠ w.heap.size + 1 ∧ w.heap.size ≤ w.heap.size) := ⟨by have := hgw.out; omega, by omega, Nat.le_refl _⟩
  have hs3 : Hid (∀ s ∈ sl2, SmAt ((((w2.setCell ⟨w.heap.size, 0, none⟩ (Value.int .i64 primary)).setCell ⟨w.heap.size, 1, none⟩ (Value.int .i64 view)).setCell ⟨w.heap.size, 2, none⟩ (Value.int .i64 commit)).setCell ⟨w.heap.size, 3, none⟩ (Value.slice (some ⟨g, 0, none⟩) n cap)) (fun b => ((Q b ∧ b < w.heap.size) ∨ w.heap.size + 2 ≤ b) ∧ b ≠ g ∧ b ≠ w.heap.size) s) := fun s hs => ((hs2.out s hs).st hg3.out (fun b hb e => by injection e with e; have := hb.1; omega)).imp (fun b hb => ⟨hb.1, hb.2, by have := hb.1; omega⟩)
  obtain ⟨k0, k1, k2, k3, z0, z1, z2, z3⟩ := cells4z (w2) (w.heap.size) (Value.int .i64 primary) (Value.int .i64 view) (Value.int .i64 commit) (Value.slice (some ad) n c) (hB2.out)
  have hZ3 := Lib.hid (hZ2.out.grown hg3.out (by intro e; injection e with e; omega))
  have hrow3 := Lib.hid (hrow2.out.grownO hg3.out (.inr (by intro e; simp [Value.ownBlock] at e; have := hgw.out; omega)))
  have c3 : ((((w2.setCell ⟨w.heap.size, 0, none⟩ (Value.int .i64 primary)).setCell ⟨w.heap.size, 1, none⟩ (Value.int .i64 view)).setCell ⟨w.heap.size, 2, none⟩ (Value.int .i64 commit)).setCell ⟨w.heap.size, 3, none⟩ (Value.slice (some ⟨g, 0, none⟩) n cap)).cell? ⟨g, j * 3, none⟩ = some (Value.bool false) := by
    rw [show (⟨g, j * 3, none⟩ : Addr) = ⟨g, j * 3 + 0, none⟩ from rfl, hrow3.out.cellAt hl2.out.symm (k := j) (by have := hl2.out; omega) (j := 0) (by decide), hx2j]; rfl
  have z3 : ((((w2.setCell ⟨w.heap.size, 0, none⟩ (Value.int .i64 primary)).setCell ⟨w.heap.size, 1, none⟩ (Value.int .i64 view)).setCell ⟨w.heap.size, 2, none⟩ (Value.int .i64 commit)).setCell ⟨w.heap.size, 3, none⟩ (Value.slice (some ⟨g, 0, none⟩) n cap)).frozen? ⟨g, j * 3, none⟩ = false := hrow3.out.frozenAt hl2.out.symm _
  have hrow4 : Hid (LOwn svC 3 47 (((((w2.setCell ⟨w.heap.size, 0, none⟩ (Value.int .i64 primary)).setCell ⟨w.heap.size, 1, none⟩ (Value.int .i64 view)).setCell ⟨w.heap.size, 2, none⟩ (Value.int .i64 commit)).setCell ⟨w.heap.size, 3, none⟩ (Value.slice (some ⟨g, 0, none⟩) n cap)).setCell ⟨g, j * 3, none⟩ (Value.bool true)) (w.heap.size + 2) (.slice (some ⟨g, 0, none⟩) n cap) (sl2.set j (⟨true, xv, xA2, xn2, xc2, xl2⟩ : Sm))) := (hrow3.out.storep hl2.out.symm (k := j) (by have := hl2.out; omega) (⟨true, xv, xA2, xn2, xc2, xl2⟩ : Sm) 0 [Value.bool true] (by simp) (row_set _ ⟨false, xv, xA2, xn2, xc2, xl2⟩ _ 0 _ (by decide) hx2j (by
    intro j hj h1
    have : j = 1 ∨ j = 2 := by omega
    rcases this with rfl | rfl <;> rfl) rfl)).1
  have hg4 : Hid (((((w2.setCell ⟨w.heap.size, 0, none⟩ (Value.int .i64 primary)).setCell ⟨w.heap.size, 1, none⟩ (Value.int .i64 view)).setCell ⟨w.heap.size, 2, none⟩ (Value.int .i64 commit)).setCell ⟨w.heap.size, 3, none⟩ (Value.slice (some ⟨g, 0, none⟩) n cap)).grownBy (((((w2.setCell ⟨w.heap.size, 0, none⟩ (Value.int .i64 primary)).setCell ⟨w.heap.size, 1, none⟩ (Value.int .i64 view)).setCell ⟨w.heap.size, 2, none⟩ (Value.int .i64 commit)).setCell ⟨w.heap.size, 3, none⟩ (Value.slice (some ⟨g, 0, none⟩) n cap)).setCell ⟨g, j * 3, none⟩ (Value.bool true)) (some g)) := only_set (World.grownBy.refl _ _) _ _
  have hB4 := Lib.hid (hB3.out.grown hg4.out (by intro e; injection e with e; first | exact hbx.out.1 e | exact hbx.out.1 e.symm))
  have hZ4 := Lib.hid (hZ3.out.grown hg4.out (by intro e; injection e with e; have := hgw.out; omega))
  have hb4 := Lib.hid (hb3.out.grown hg4.out hb3.out.size (fun g8 e8 => by injection e8 with e8; have := hgw.out; omega))
  have hs4 : Hid (∀ s ∈ sl2.set j (⟨true, xv, xA2, xn2, xc2, xl2⟩ : Sm), SmAt (((((w2.setCell ⟨w.heap.size, 0, none⟩ (Value.int .i64 primary)).setCell ⟨w.heap.size, 1, none⟩ (Value.int .i64 view)).setCell ⟨w.heap.size, 2, none⟩ (Value.int .i64 commit)).setCell ⟨w.heap.size, 3, none⟩ (Value.slice (some ⟨g, 0, none⟩) n cap)).setCell ⟨g, j * 3, none⟩ (Value.bool true)) (fun b => ((Q b ∧ b < w.heap.size) ∨ w.heap.size + 2 ≤ b) ∧ b ≠ g ∧ b ≠ w.heap.size) s) := fun s hs => by
    have h8 : ∀ t ∈ sl2, SmAt (((((w2.setCell ⟨w.heap.size, 0, none⟩ (Value.int .i64 primary)).setCell ⟨w.heap.size, 1, none⟩ (Value.int .i64 view)).setCell ⟨w.heap.size, 2, none⟩ (Value.int .i64 commit)).setCell ⟨w.heap.size, 3, none⟩ (Value.slice (some ⟨g, 0, none⟩) n cap)).setCell ⟨g, j * 3, none⟩ (Value.bool true)) (fun b => ((Q b ∧ b < w.heap.size) ∨ w.heap.size + 2 ≤ b) ∧ b ≠ g ∧ b ≠ w.heap.size) t := fun t ht => (hs3.out t ht).st hg4.out (fun b hb e => by injection e with e; exact hb.2.1 e)
    rcases List.mem_or_eq_of_mem_set hs with hs | rfl
    · exact h8 s hs
    · exact h8 ⟨false, xv, xA2, xn2, xc2, xl2⟩ (List.mem_of_getElem? hx2.out)
  replace hx2j := Lib.hid hx2j
  obtain ⟨q0, q1, q2, q3⟩ := cells4 (((((w2.setCell ⟨w.heap.size, 0, none⟩ (Value.int .i64 primary)).setCell ⟨w.heap.size, 1, none⟩ (Value.int .i64 view)).setCell ⟨w.heap.size, 2, none⟩ (Value.int .i64 commit)).setCell ⟨w.heap.size, 3, none⟩ (Value.slice (some ⟨g, 0, none⟩) n cap))) (w.heap.size) (Value.int .i64 primary) (Value.int .i64 view) (Value.int .i64 commit) (Value.slice (some ⟨g, 0, none⟩) n cap) (hB3.out)
  obtain ⟨p0, p1, p2, p3, r0, r1, r2, r3⟩ := cells4z ((((((w2.setCell ⟨w.heap.size, 0, none⟩ (Value.int .i64 primary)).setCell ⟨w.heap.size, 1, none⟩ (Value.int .i64 view)).setCell ⟨w.heap.size, 2, none⟩ (Value.int .i64 commit)).setCell ⟨w.heap.size, 3, none⟩ (Value.slice (some ⟨g, 0, none⟩) n cap)).setCell ⟨g, j * 3, none⟩ (Value.bool true))) (w.heap.size) (Value.int .i64 primary) (Value.int .i64 view) (Value.int .i64 commit) (Value.slice (some ⟨g, 0, none⟩) n cap) (hB4.out)
  have hF := hFF
  obtain ⟨n0, n1, n2, n3⟩ := cells4 ((((((w2.setCell ⟨w.heap.size, 0, none⟩ (Value.int .i64 primary)).setCell ⟨w.heap.size, 1, none⟩ (Value.int .i64 view)).setCell ⟨w.heap.size, 2, none⟩ (Value.int .i64 commit)).setCell ⟨w.heap.size, 3, none⟩ (Value.slice (some ⟨g, 0, none⟩) n cap)).setCell ⟨g, j * 3, none⟩ (Value.bool true))) (w.heap.size) (Value.int .i64 primary) (Value.int .i64 view) (Value.int .i64 commit) (Value.slice (some ⟨g, 0, none⟩) n cap) (hB4.out)
  obtain ⟨u0, u1, u2, u3, y0, y1, y2, y3⟩ := cells4z ((((((w2.setCell ⟨w.heap.size, 0, none⟩ (Value.int .i64 primary)).setCell ⟨w.heap.size, 1, none⟩ (Value.int .i64 view)).setCell ⟨w.heap.size, 2, none⟩ (Value.int .i64 commit)).setCell ⟨w.heap.size, 3, none⟩ (Value.slice (some ⟨g, 0, none⟩) n cap)).setCell ⟨g, j * 3, none⟩ (Value.bool true))) ((w.heap.size + 1)) (Value.int .i64 0) (Value.int .i64 0) (Value.int .i64 0) (Value.slice none 0 0) (hZ4.out)
  go_wp2_with fail
  (try simp only [Exit.inBlock, Exit.then])
  have hBF := cl_set4 hZ4.out (Value.int .i64 primary) (Value.int .i64 view) (Value.int .i64 commit) (Value.slice (some ⟨g, 0, none⟩) n cap)
  have hbF := below_set4 hb4.out (Nat.le_succ _) (Value.int .i64 primary) (Value.int .i64 view) (Value.int .i64 commit) (Value.slice (some ⟨g, 0, none⟩) n cap)
  have hgF := grown_set4 ((((((w2.setCell ⟨w.heap.size, 0, none⟩ (Value.int .i64 primary)).setCell ⟨w.heap.size, 1, none⟩ (Value.int .i64 view)).setCell ⟨w.heap.size, 2, none⟩ (Value.int .i64 commit)).setCell ⟨w.heap.size, 3, none⟩ (Value.slice (some ⟨g, 0, none⟩) n cap)).setCell ⟨g, j * 3, none⟩ (Value.bool true))) (w.heap.size + 1) (Value.int .i64 primary) (Value.int .i64 view) (Value.int .i64 commit) (Value.slice (some ⟨g, 0, none⟩) n cap)
  refine bodyPost_ret (v := .tuple #[.agg #[Value.int .i64 primary, Value.int .i64 view, Value.int .i64 commit, Value.slice (some ⟨g, 0, none⟩) n cap], .int .i64 0]) ?_ rfl ?_
  · refine (res2 (fn := Try.f28) (p := 4) (u := 5) (ty := 24) rfl _ _ (w.heap.size + 1) 24 _ (0, 0) _ ?_ hBF Try.underlying24 rfl (by kernel_rfl)).trans ?_
    · rfl
    · rfl
  clear hBF
  generalize (((((((((w2.setCell ⟨w.heap.size, 0, none⟩ (Value.int .i64 primary)).setCell ⟨w.heap.size, 1, none⟩ (Value.int .i64 view)).setCell ⟨w.heap.size, 2, none⟩ (Value.int .i64 commit)).setCell ⟨w.heap.size, 3, none⟩ (Value.slice (some ⟨g, 0, none⟩) n cap)).setCell ⟨g, j * 3, none⟩ (Value.bool true)).setCell ⟨(w.heap.size + 1), 0, none⟩ (Value.int .i64 primary)).setCell ⟨(w.heap.size + 1), 1, none⟩ (Value.int .i64 view)).setCell ⟨(w.heap.size + 1), 2, none⟩ (Value.int .i64 commit)).setCell ⟨(w.heap.size + 1), 3, none⟩ (Value.slice (some ⟨g, 0, none⟩) n cap)) = wF at *
  have hsF : ∀ s ∈ sl2.set j (⟨true, xv, xA2, xn2, xc2, xl2⟩ : Sm), SmAt wF (fun b => ((Q b ∧ b < w.heap.size) ∨ w.heap.size + 2 ≤ b)) s := fun s hs => ((hs4.out s hs).st hgF (fun b hb e => by injection e with e; have := hb.1; omega)).imp (fun b hb => hb.1)
  have hrF := hrow4.out.grownO hgF (.inr (by intro e; simp [Value.ownBlock] at e; have := hgw.out; omega))
  have hCF := CmAt.of_own (p := primary) (v := view) (m := commit) hrF (by simp [hl2.out]) hsF (Or.inr hgw.out)
  exact ⟨⟨_, by rw [hF.out]; rfl, hCF.imp (fun b hb => hb.elim (fun h => Or.inl h.1) (fun h => Or.inr (by omega))), by rw [hF.out]; exact congrArg (fun l => Cv.mk primary view commit l) (set_val sl2 _ j true (⟨true, xv, xA2, xn2, xc2, xl2⟩ : Sm) ⟨false, xv, xA2, xn2, xc2, xl2⟩ hv2.out hx2.out rfl)⟩, hbF⟩
set_option maxRecDepth 100000 in
set_option maxHeartbeats 8000000 in
theorem rcrash_any (k : Cm) (i : Int) (w : World) {Q : Nat → Prop} (h : CmAt w Q k) (hs : CmSm k) :
    Calls Try.prog 32 #[clV k, .int .i64 i] w fun e w' => ResC Q w w' (crashC k.val i) e ∧ Below w.heap.size w w' := by
  obtain ⟨r, hr⟩ : ∃ r, r = crashC k.val i := ⟨_, rfl⟩
  rw [← hr]
  replace hr := Lib.hid hr
  have hl := Lib.hid h.len
  have hcm := Lib.hid h.lt
  have hsm := Lib.hid hs
  clear h
  obtain ⟨hn1, hn7, -⟩ := hs
  obtain ⟨primary, view, commit, A, n, c, sl⟩ := k
  simp only [clV] at *
  have hx0 := Lib.hid ((Blk.new w 24 #[Value.int .i64 primary, Value.int .i64 view, Value.int .i64 commit, Value.slice A n c]).alloc (.cells #[Value.int .i64 0, Value.int .i64 0, Value.int .i64 0, Value.slice none 0 0] 24))
  have hz0 := Blk.new (w.alloc (.cells #[Value.int .i64 primary, Value.int .i64 view, Value.int .i64 commit, Value.slice A n c] 24)) 24 #[Value.int .i64 0, Value.int .i64 0, Value.int .i64 0, Value.slice none 0 0]
  rw [show (w.alloc (.cells #[Value.int .i64 primary, Value.int .i64 view, Value.int .i64 commit, Value.slice A n c] 24)).heap.size = w.heap.size + 1 by simp] at hz0
  replace hz0 := Lib.hid hz0
  have hb0 : Hid (Below w.heap.size w ((w.alloc (.cells #[Value.int .i64 primary, Value.int .i64 view, Value.int .i64 commit, Value.slice A n c] 24)).alloc (.cells #[Value.int .i64 0, Value.int .i64 0, Value.int .i64 0, Value.slice none 0 0] 24))) := (a1 w _).alloc (by simp) _
  have hsz0 : Hid (((w.alloc (.cells #[Value.int .i64 primary, Value.int .i64 view, Value.int .i64 commit, Value.slice A n c] 24)).alloc (.cells #[Value.int .i64 0, Value.int .i64 0, Value.int .i64 0, Value.slice none 0 0] 24)).heap.size = w.heap.size + 2) := by show _ = _; simp
  have hc0 := Lib.hid (hcm.out.more hb0.out)
  obtain ⟨k0, k1, k2, k3⟩ := cells4 (((w.alloc (.cells #[Value.int .i64 primary, Value.int .i64 view, Value.int .i64 commit, Value.slice A n c] 24)).alloc (.cells #[Value.int .i64 0, Value.int .i64 0, Value.int .i64 0, Value.slice none 0 0] 24))) (w.heap.size) (Value.int .i64 primary) (Value.int .i64 view) (Value.int .i64 commit) (Value.slice A n c) (hx0.out)
  obtain ⟨u0, u1, u2, u3, y0, y1, y2, y3⟩ := cells4z (((w.alloc (.cells #[Value.int .i64 primary, Value.int .i64 view, Value.int .i64 commit, Value.slice A n c] 24)).alloc (.cells #[Value.int .i64 0, Value.int .i64 0, Value.int .i64 0, Value.slice none 0 0] 24))) ((w.heap.size + 1)) (Value.int .i64 0) (Value.int .i64 0) (Value.int .i64 0) (Value.slice none 0 0) (hz0.out)
  by_cases q1 : i < 0
  · have q1d : decide (i < 0) = true := by simpa using q1
    have hF : Hid (r = (⟨primary, view, commit, sl.map Sm.val⟩, 2)) := by show _ = _; rw [hr.out]; show crashC ⟨primary, view, commit, sl.map Sm.val⟩ i = _; unfold crashC; rw [if_pos (.inl q1)]
    go_enter Try.func32, Try.ntmps32
    go_wp2_with fail
    (try simp only [Exit.inBlock, Exit.then])
    have hBF := Blk.new (w.alloc (.cells #[Value.int .i64 primary, Value.int .i64 view, Value.int .i64 commit, Value.slice A n c] 24)) 24 #[Value.int .i64 primary, Value.int .i64 view, Value.int .i64 commit, Value.slice A n c]
    rw [show (w.alloc (.cells #[Value.int .i64 primary, Value.int .i64 view, Value.int .i64 commit, Value.slice A n c] 24)).heap.size = w.heap.size + 1 by simp] at hBF
    have hbF : Below w.heap.size w ((w.alloc (.cells #[Value.int .i64 primary, Value.int .i64 view, Value.int .i64 commit, Value.slice A n c] 24)).alloc (.cells #[Value.int .i64 primary, Value.int .i64 view, Value.int .i64 commit, Value.slice A n c] 24)) := ((a1 w _).alloc (by simp) _)
    refine bodyPost_ret (v := .tuple #[.agg #[Value.int .i64 primary, Value.int .i64 view, Value.int .i64 commit, Value.slice A n c], .int .i64 2]) ?_ rfl ?_
    · refine (res2 (fn := Try.f32) (p := 4) (u := 5) (ty := 24) rfl _ _ (w.heap.size + 1) 24 _ (0, 0) _ ?_ hBF Try.underlying24 rfl (by kernel_rfl)).trans ?_
      · rfl
      · rfl
    clear hBF
    exact ⟨⟨⟨primary, view, commit, A, n, c, sl⟩, by rw [hF.out]; rfl, (hcm.out.more hbF).imp (fun b hb => Or.inl hb.1), by rw [hF.out]; rfl⟩, hbF⟩
  have q1d : decide (i < 0) = false := by simpa using q1
  by_cases q2 : (n : Int) ≤ i
  · have q2d : decide ((n : Int) ≤ i) = true := by simpa using q2
    have hF : Hid (r = (⟨primary, view, commit, sl.map Sm.val⟩, 2)) := by show _ = _; rw [hr.out]; show crashC ⟨primary, view, commit, sl.map Sm.val⟩ i = _; unfold crashC; rw [if_pos (.inr (by show ((sl.map Sm.val).length : Int) ≤ i; rw [List.length_map, hl.out]; exact q2))]
    go_enter Try.func32, Try.ntmps32
    go_wp2_with fail
    (try simp only [Exit.inBlock, Exit.then])
    have hBF := Blk.new (w.alloc (.cells #[Value.int .i64 primary, Value.int .i64 view, Value.int .i64 commit, Value.slice A n c] 24)) 24 #[Value.int .i64 primary, Value.int .i64 view, Value.int .i64 commit, Value.slice A n c]
    rw [show (w.alloc (.cells #[Value.int .i64 primary, Value.int .i64 view, Value.int .i64 commit, Value.slice A n c] 24)).heap.size = w.heap.size + 1 by simp] at hBF
    have hbF : Below w.heap.size w ((w.alloc (.cells #[Value.int .i64 primary, Value.int .i64 view, Value.int .i64 commit, Value.slice A n c] 24)).alloc (.cells #[Value.int .i64 primary, Value.int .i64 view, Value.int .i64 commit, Value.slice A n c] 24)) := ((a1 w _).alloc (by simp) _)
    refine bodyPost_ret (v := .tuple #[.agg #[Value.int .i64 primary, Value.int .i64 view, Value.int .i64 commit, Value.slice A n c], .int .i64 2]) ?_ rfl ?_
    · refine (res2 (fn := Try.f32) (p := 4) (u := 5) (ty := 24) rfl _ _ (w.heap.size + 1) 24 _ (0, 0) _ ?_ hBF Try.underlying24 rfl (by kernel_rfl)).trans ?_
      · rfl
      · rfl
    clear hBF
    exact ⟨⟨⟨primary, view, commit, A, n, c, sl⟩, by rw [hF.out]; rfl, (hcm.out.more hbF).imp (fun b hb => Or.inl hb.1), by rw [hF.out]; rfl⟩, hbF⟩
  have q2d : decide ((n : Int) ≤ i) = false := by simpa using q2
  obtain ⟨j, rfl⟩ : ∃ j : Nat, i = (j : Int) := ⟨i.toNat, by omega⟩
  have hjn : j < n := by omega
  have hjl : j < sl.length := by have := hl.out; (try simp only at this); omega
  have hj0 : (0 : Int) ≤ j := by omega
  have hj1 : (j : Int) < n := by omega
  obtain ⟨ad, hA, -, e0, -, -⟩ := sv_cells hc0.out.at_ hjn
  (try simp only at hA)
  obtain ⟨x, hx⟩ : ∃ x, x = sl[j] := ⟨_, rfl⟩
  rw [← hx] at e0
  have hxo : Hid (sl[j]? = some x) := by show _ = _; rw [List.getElem?_eq_getElem hjl, hx]
  have hP : Hid (r = if x.up = false then (⟨primary, view, commit, sl.map Sm.val⟩, 25) else (⟨if primary = (j : Int) then -1 else primary, view, commit, setUp (sl.map Sm.val) j false⟩, 0)) := by
    show _ = _
    rw [hr.out]; show crashC ⟨primary, view, commit, sl.map Sm.val⟩ (j : Int) = _; unfold crashC
    rw [if_neg (fun h => h.elim q1 (fun h => q2 (by rw [← hl.out, ← List.length_map (f := Sm.val)]; exact h)))]
    show (match (sl.map Sm.val)[j]? with | none => _ | some s => _) = _
    rw [List.getElem?_map, hxo.out]
    rfl
  clear hx
  subst hA
  by_cases q3 : x.up = false
  · have hF : Hid (r = (⟨primary, view, commit, sl.map Sm.val⟩, 25)) := by show _ = _; rw [hP.out, if_pos q3]
    rw [q3] at e0
    replace q3 := Lib.hid q3
    go_enter Try.func32, Try.ntmps32
    go_wp2_with fail
    (try simp only [Exit.inBlock, Exit.then])
    have hBF := Blk.new (w.alloc (.cells #[Value.int .i64 primary, Value.int .i64 view, Value.int .i64 commit, Value.slice (some ad) n c] 24)) 24 #[Value.int .i64 primary, Value.int .i64 view, Value.int .i64 commit, Value.slice (some ad) n c]
    rw [show (w.alloc (.cells #[Value.int .i64 primary, Value.int .i64 view, Value.int .i64 commit, Value.slice (some ad) n c] 24)).heap.size = w.heap.size + 1 by simp] at hBF
    have hbF : Below w.heap.size w ((w.alloc (.cells #[Value.int .i64 primary, Value.int .i64 view, Value.int .i64 commit, Value.slice (some ad) n c] 24)).alloc (.cells #[Value.int .i64 primary, Value.int .i64 view, Value.int .i64 commit, Value.slice (some ad) n c] 24)) := ((a1 w _).alloc (by simp) _)
    refine bodyPost_ret (v := .tuple #[.agg #[Value.int .i64 primary, Value.int .i64 view, Value.int .i64 commit, Value.slice (some ad) n c], .int .i64 25]) ?_ rfl ?_
    · refine (res2 (fn := Try.f32) (p := 4) (u := 5) (ty := 24) rfl _ _ (w.heap.size + 1) 24 _ (0, 0) _ ?_ hBF Try.underlying24 rfl (by kernel_rfl)).trans ?_
      · rfl
      · rfl
    clear hBF
    exact ⟨⟨⟨primary, view, commit, (some ad), n, c, sl⟩, by rw [hF.out]; rfl, (hcm.out.more hbF).imp (fun b hb => Or.inl hb.1), by rw [hF.out]; rfl⟩, hbF⟩
  have hFF : Hid (r = (⟨if primary = (j : Int) then -1 else primary, view, commit, setUp (sl.map Sm.val) j false⟩, 0)) := by show _ = _; rw [hP.out, if_neg q3]
  have hxu : x.up = true := by simpa using q3
  rw [hxu] at e0
  replace hxu := Lib.hid hxu
  clear hP q3
  have hcp := Lib.hid (own_any ⟨primary, view, commit, some ad, n, c, sl⟩ ((w.alloc (.cells #[Value.int .i64 primary, Value.int .i64 view, Value.int .i64 commit, Value.slice (some ad) n c] 24)).alloc (.cells #[Value.int .i64 0, Value.int .i64 0, Value.int .i64 0, Value.slice none 0 0] 24)) hc0.out hsm.out)
  simp only [clV] at hcp
  go_enter Try.func32, Try.ntmps32
  go_wp2_with fail
  refine hcp.out.mono ?_; rintro e w2 ⟨⟨g, cap, sl2, rfl, hrow, hs, hv⟩, hq⟩
  (try simp only at hrow hs hv)
  have hl2 : Hid (sl2.length = n) := by
    show _ = _
    have := congrArg List.length hv
    rw [List.length_map, List.length_map, hl.out] at this
    exact this
  have hB2 := Lib.hid (hx0.out.below hq hx0.out.lt)
  have hZ2 := Lib.hid (hz0.out.below hq hz0.out.lt)
  have hb2 := Lib.hid (hb0.out.trans (hq.mono hb0.out.size))
  rw [hsz0.out] at hrow hs
  have hgw : Hid (w.heap.size + 2 ≤ g) := (hrow.grown_base hl2.out.symm).1
  have hrow2 := Lib.hid hrow
  have hs2 : Hid (∀ s ∈ sl2, SmAt w2 (fun b => ((Q b ∧ b < w.heap.size) ∨ w.heap.size + 2 ≤ b) ∧ b ≠ g) s) := hs
  have hv2 := Lib.hid hv
  clear hq hrow hs hv hcp hx0 hz0 hb0 hc0 k0 k1 k2 k3 u0 u1 u2 u3 y0 y1 y2 y3 e0
  obtain ⟨x2, hx2⟩ : ∃ x2, sl2[j]? = some x2 := ⟨_, List.getElem?_eq_getElem (by have := hl2.out; omega)⟩
  have hxv : x2.val = x.val := by
    have h8 : (sl2.map Sm.val)[j]? = (sl.map Sm.val)[j]? := by rw [hv2.out]
    rw [List.getElem?_map, List.getElem?_map, hx2, hxo.out] at h8
    injection h8
  have hxu2 : x2.up = true := (congrArg Sv.up hxv).trans hxu.out
  clear hxv
  obtain ⟨xu, xv, xA2, xn2, xc2, xl2⟩ := x2
  simp only at hxu2
  subst hxu2
  have hx2j : sl2[j]'(by have := hl2.out; omega) = ⟨true, xv, xA2, xn2, xc2, xl2⟩ := (List.getElem?_eq_some_iff.1 hx2).2
  replace hx2 := Lib.hid hx2
  have hB3 := Lib.hid (Blk.new w2 24 #[Value.int .i64 primary, Value.int .i64 view, Value.int .i64 commit, Value.slice (some ⟨g, 0, none⟩) n cap])
  have hb3 : Hid (Below w.heap.size w (w2.alloc (.cells #[Value.int .i64 primary, Value.int .i64 view, Value.int .i64 commit, Value.slice (some ⟨g, 0, none⟩) n cap] 24))) := hb2.out.alloc hb2.out.size _
  have hbx : Hid (w2.heap.size ≠ g ∧ w2.heap.size ≠ w.heap.size + 1 ∧ w.heap.size ≤ w2.heap.size) := ⟨by have := (hrow2.out.grown_base hl2.out.symm).2; omega, by have := hZ2.out.lt; omega, hb2.out.size⟩
  have hs3 : Hid (∀ s ∈ sl2, SmAt (w2.alloc (.cells #[Value.int .i64 primary, Value.int .i64 view, Value.int .i64 commit, Value.slice (some ⟨g, 0, none⟩) n cap] 24)) (fun b => ((Q b ∧ b < w.heap.size) ∨ w.heap.size + 2 ≤ b) ∧ b ≠ g ∧ b < w2.heap.size) s) := fun s hs => ((hs2.out s hs).lt.more (a1 w2 _)).imp (fun b hb => ⟨hb.1.1, hb.1.2, hb.2⟩)
  have hZ3 := Lib.hid (hZ2.out.alloc (.cells #[Value.int .i64 primary, Value.int .i64 view, Value.int .i64 commit, Value.slice (some ⟨g, 0, none⟩) n cap] 24))
  have hrow3 := Lib.hid (hrow2.out.alloc (.cells #[Value.int .i64 primary, Value.int .i64 view, Value.int .i64 commit, Value.slice (some ⟨g, 0, none⟩) n cap] 24))
  have c3 : (w2.alloc (.cells #[Value.int .i64 primary, Value.int .i64 view, Value.int .i64 commit, Value.slice (some ⟨g, 0, none⟩) n cap] 24)).cell? ⟨g, j * 3, none⟩ = some (Value.bool true) := by
    rw [show (⟨g, j * 3, none⟩ : Addr) = ⟨g, j * 3 + 0, none⟩ from rfl, hrow3.out.cellAt hl2.out.symm (k := j) (by have := hl2.out; omega) (j := 0) (by decide), hx2j]; rfl
  have z3 : (w2.alloc (.cells #[Value.int .i64 primary, Value.int .i64 view, Value.int .i64 commit, Value.slice (some ⟨g, 0, none⟩) n cap] 24)).frozen? ⟨g, j * 3, none⟩ = false := hrow3.out.frozenAt hl2.out.symm _
  have hrow4 : Hid (LOwn svC 3 47 ((w2.alloc (.cells #[Value.int .i64 primary, Value.int .i64 view, Value.int .i64 commit, Value.slice (some ⟨g, 0, none⟩) n cap] 24)).setCell ⟨g, j * 3, none⟩ (Value.bool false)) (w.heap.size + 2) (.slice (some ⟨g, 0, none⟩) n cap) (sl2.set j (⟨false, xv, xA2, xn2, xc2, xl2⟩ : Sm))) := (hrow3.out.storep hl2.out.symm (k := j) (by have := hl2.out; omega) (⟨false, xv, xA2, xn2, xc2, xl2⟩ : Sm) 0 [Value.bool false] (by simp) (row_set _ ⟨true, xv, xA2, xn2, xc2, xl2⟩ _ 0 _ (by decide) hx2j (by
    intro j hj h1
    have : j = 1 ∨ j = 2 := by omega
    rcases this with rfl | rfl <;> rfl) rfl)).1
  have hg4 : Hid ((w2.alloc (.cells #[Value.int .i64 primary, Value.int .i64 view, Value.int .i64 commit, Value.slice (some ⟨g, 0, none⟩) n cap] 24)).grownBy ((w2.alloc (.cells #[Value.int .i64 primary, Value.int .i64 view, Value.int .i64 commit, Value.slice (some ⟨g, 0, none⟩) n cap] 24)).setCell ⟨g, j * 3, none⟩ (Value.bool false)) (some g)) := only_set (World.grownBy.refl _ _) _ _
  have hB4 := Lib.hid (hB3.out.grown hg4.out (by intro e; injection e with e; first | exact hbx.out.1 e | exact hbx.out.1 e.symm))
  have hZ4 := Lib.hid (hZ3.out.grown hg4.out (by intro e; injection e with e; have := hgw.out; omega))
  have hb4 := Lib.hid (hb3.out.grown hg4.out hb3.out.size (fun g8 e8 => by injection e8 with e8; have := hgw.out; omega))
  have hs4 : Hid (∀ s ∈ sl2.set j (⟨false, xv, xA2, xn2, xc2, xl2⟩ : Sm), SmAt ((w2.alloc (.cells #[Value.int .i64 primary, Value.int .i64 view, Value.int .i64 commit, Value.slice (some ⟨g, 0, none⟩) n cap] 24)).setCell ⟨g, j * 3, none⟩ (Value.bool false)) (fun b => ((Q b ∧ b < w.heap.size) ∨ w.heap.size + 2 ≤ b) ∧ b ≠ g ∧ b < w2.heap.size) s) := fun s hs => by
    have h8 : ∀ t ∈ sl2, SmAt ((w2.alloc (.cells #[Value.int .i64 primary, Value.int .i64 view, Value.int .i64 commit, Value.slice (some ⟨g, 0, none⟩) n cap] 24)).setCell ⟨g, j * 3, none⟩ (Value.bool false)) (fun b => ((Q b ∧ b < w.heap.size) ∨ w.heap.size + 2 ≤ b) ∧ b ≠ g ∧ b < w2.heap.size) t := fun t ht => (hs3.out t ht).st hg4.out (fun b hb e => by injection e with e; exact hb.2.1 e)
    rcases List.mem_or_eq_of_mem_set hs with hs | rfl
    · exact h8 s hs
    · exact h8 ⟨true, xv, xA2, xn2, xc2, xl2⟩ (List.mem_of_getElem? hx2.out)
  replace hx2j := Lib.hid hx2j
  obtain ⟨q0, q1, q2, q3⟩ := cells4 ((w2.alloc (.cells #[Value.int .i64 primary, Value.int .i64 view, Value.int .i64 commit, Value.slice (some ⟨g, 0, none⟩) n cap] 24))) (w2.heap.size) (Value.int .i64 primary) (Value.int .i64 view) (Value.int .i64 commit) (Value.slice (some ⟨g, 0, none⟩) n cap) (hB3.out)
  obtain ⟨p0, p1, p2, p3, r0, r1, r2, r3⟩ := cells4z (((w2.alloc (.cells #[Value.int .i64 primary, Value.int .i64 view, Value.int .i64 commit, Value.slice (some ⟨g, 0, none⟩) n cap] 24)).setCell ⟨g, j * 3, none⟩ (Value.bool false))) (w2.heap.size) (Value.int .i64 primary) (Value.int .i64 view) (Value.int .i64 commit) (Value.slice (some ⟨g, 0, none⟩) n cap) (hB4.out)
  by_cases q9 : primary = (j : Int)
  · have q9d : (primary == (j : Int)) = true := by simpa using q9
    have hF : Hid (r = (⟨-1, view, commit, setUp (sl.map Sm.val) j false⟩, 0)) := by show _ = _; rw [hFF.out, if_pos q9]
    replace q9 := Lib.hid q9
    have hg5 : Hid (((w2.alloc (.cells #[Value.int .i64 primary, Value.int .i64 view, Value.int .i64 commit, Value.slice (some ⟨g, 0, none⟩) n cap] 24)).setCell ⟨g, j * 3, none⟩ (Value.bool false)).grownBy (((w2.alloc (.cells #[Value.int .i64 primary, Value.int .i64 view, Value.int .i64 commit, Value.slice (some ⟨g, 0, none⟩) n cap] 24)).setCell ⟨g, j * 3, none⟩ (Value.bool false)).setCell ⟨w2.heap.size, 0, none⟩ (Value.int .i64 (-1))) (some w2.heap.size)) := only_set (World.grownBy.refl _ _) _ _
    have hB5 := Lib.hid (hB4.out.set_ 0 (Value.int .i64 (-1)))
    have hZ5 := Lib.hid (hZ4.out.grown hg5.out (by intro e; injection e with e; first | exact hbx.out.2.1 e | exact hbx.out.2.1 e.symm))
    have hrow5 := Lib.hid (hrow4.out.grownO hg5.out (.inr (by intro e; simp [Value.ownBlock] at e; first | exact hbx.out.1 e | exact hbx.out.1 e.symm)))
    have hb5 := Lib.hid (below_set hb4.out hbx.out.2.2 0 (Value.int .i64 (-1)))
    have hs5 : Hid (∀ s ∈ sl2.set j (⟨false, xv, xA2, xn2, xc2, xl2⟩ : Sm), SmAt (((w2.alloc (.cells #[Value.int .i64 primary, Value.int .i64 view, Value.int .i64 commit, Value.slice (some ⟨g, 0, none⟩) n cap] 24)).setCell ⟨g, j * 3, none⟩ (Value.bool false)).setCell ⟨w2.heap.size, 0, none⟩ (Value.int .i64 (-1))) (fun b => ((Q b ∧ b < w.heap.size) ∨ w.heap.size + 2 ≤ b) ∧ b ≠ g ∧ b < w2.heap.size) s) := fun s hs => (hs4.out s hs).st hg5.out (fun b hb e => by injection e with e; have := hb.2.2; omega)
    obtain ⟨n0, n1, n2, n3⟩ := cells4 ((((w2.alloc (.cells #[Value.int .i64 primary, Value.int .i64 view, Value.int .i64 commit, Value.slice (some ⟨g, 0, none⟩) n cap] 24)).setCell ⟨g, j * 3, none⟩ (Value.bool false)).setCell ⟨w2.heap.size, 0, none⟩ (Value.int .i64 (-1)))) (w2.heap.size) (Value.int .i64 (-1)) (Value.int .i64 view) (Value.int .i64 commit) (Value.slice (some ⟨g, 0, none⟩) n cap) (hB5.out)
    obtain ⟨u0, u1, u2, u3, y0, y1, y2, y3⟩ := cells4z ((((w2.alloc (.cells #[Value.int .i64 primary, Value.int .i64 view, Value.int .i64 commit, Value.slice (some ⟨g, 0, none⟩) n cap] 24)).setCell ⟨g, j * 3, none⟩ (Value.bool false)).setCell ⟨w2.heap.size, 0, none⟩ (Value.int .i64 (-1)))) ((w.heap.size + 1)) (Value.int .i64 0) (Value.int .i64 0) (Value.int .i64 0) (Value.slice none 0 0) (hZ5.out)
    go_wp2_with fail
    (try simp only [Exit.inBlock, Exit.then])
    have hBF := cl_set4 hZ5.out (Value.int .i64 (-1)) (Value.int .i64 view) (Value.int .i64 commit) (Value.slice (some ⟨g, 0, none⟩) n cap)
    have hbF := below_set4 hb5.out (Nat.le_succ _) (Value.int .i64 (-1)) (Value.int .i64 view) (Value.int .i64 commit) (Value.slice (some ⟨g, 0, none⟩) n cap)
    have hgF := grown_set4 ((((w2.alloc (.cells #[Value.int .i64 primary, Value.int .i64 view, Value.int .i64 commit, Value.slice (some ⟨g, 0, none⟩) n cap] 24)).setCell ⟨g, j * 3, none⟩ (Value.bool false)).setCell ⟨w2.heap.size, 0, none⟩ (Value.int .i64 (-1)))) (w.heap.size + 1) (Value.int .i64 (-1)) (Value.int .i64 view) (Value.int .i64 commit) (Value.slice (some ⟨g, 0, none⟩) n cap)
    refine bodyPost_ret (v := .tuple #[.agg #[Value.int .i64 (-1), Value.int .i64 view, Value.int .i64 commit, Value.slice (some ⟨g, 0, none⟩) n cap], .int .i64 0]) ?_ rfl ?_
    · refine (res2 (fn := Try.f32) (p := 4) (u := 5) (ty := 24) rfl _ _ (w.heap.size + 1) 24 _ (0, 0) _ ?_ hBF Try.underlying24 rfl (by kernel_rfl)).trans ?_
      · rfl
      · rfl
    clear hBF
    generalize (((((((w2.alloc (.cells #[Value.int .i64 primary, Value.int .i64 view, Value.int .i64 commit, Value.slice (some ⟨g, 0, none⟩) n cap] 24)).setCell ⟨g, j * 3, none⟩ (Value.bool false)).setCell ⟨w2.heap.size, 0, none⟩ (Value.int .i64 (-1))).setCell ⟨(w.heap.size + 1), 0, none⟩ (Value.int .i64 (-1))).setCell ⟨(w.heap.size + 1), 1, none⟩ (Value.int .i64 view)).setCell ⟨(w.heap.size + 1), 2, none⟩ (Value.int .i64 commit)).setCell ⟨(w.heap.size + 1), 3, none⟩ (Value.slice (some ⟨g, 0, none⟩) n cap)) = wF at *
    have hsF : ∀ s ∈ sl2.set j (⟨false, xv, xA2, xn2, xc2, xl2⟩ : Sm), SmAt wF (fun b => ((Q b ∧ b < w.heap.size) ∨ w.heap.size + 2 ≤ b)) s := fun s hs => ((hs5.out s hs).st hgF (fun b hb e => by injection e with e; have := hb.1; omega)).imp (fun b hb => hb.1)
    have hrF := hrow5.out.grownO hgF (.inr (by intro e; simp [Value.ownBlock] at e; have := hgw.out; omega))
    have hCF := CmAt.of_own (p := (-1)) (v := view) (m := commit) hrF (by simp [hl2.out]) hsF (Or.inr hgw.out)
    exact ⟨⟨_, by rw [hF.out]; rfl, hCF.imp (fun b hb => hb.elim (fun h => Or.inl h.1) (fun h => Or.inr (by omega))), by rw [hF.out]; exact congrArg (fun l => Cv.mk (-1) view commit l) (set_val sl2 _ j false (⟨false, xv, xA2, xn2, xc2, xl2⟩ : Sm) ⟨true, xv, xA2, xn2, xc2, xl2⟩ hv2.out hx2.out rfl)⟩, hbF⟩
  · have q9d : (primary == (j : Int)) = false := by simpa using q9
    have hF : Hid (r = (⟨primary, view, commit, setUp (sl.map Sm.val) j false⟩, 0)) := by show _ = _; rw [hFF.out, if_neg q9]
    obtain ⟨n0, n1, n2, n3⟩ := cells4 (((w2.alloc (.cells #[Value.int .i64 primary, Value.int .i64 view, Value.int .i64 commit, Value.slice (some ⟨g, 0, none⟩) n cap] 24)).setCell ⟨g, j * 3, none⟩ (Value.bool false))) (w2.heap.size) (Value.int .i64 primary) (Value.int .i64 view) (Value.int .i64 commit) (Value.slice (some ⟨g, 0, none⟩) n cap) (hB4.out)
    obtain ⟨u0, u1, u2, u3, y0, y1, y2, y3⟩ := cells4z (((w2.alloc (.cells #[Value.int .i64 primary, Value.int .i64 view, Value.int .i64 commit, Value.slice (some ⟨g, 0, none⟩) n cap] 24)).setCell ⟨g, j * 3, none⟩ (Value.bool false))) ((w.heap.size + 1)) (Value.int .i64 0) (Value.int .i64 0) (Value.int .i64 0) (Value.slice none 0 0) (hZ4.out)
    go_wp2_with fail
    (try simp only [Exit.inBlock, Exit.then])
    have hBF := cl_set4 hZ4.out (Value.int .i64 primary) (Value.int .i64 view) (Value.int .i64 commit) (Value.slice (some ⟨g, 0, none⟩) n cap)
    have hbF := below_set4 hb4.out (Nat.le_succ _) (Value.int .i64 primary) (Value.int .i64 view) (Value.int .i64 commit) (Value.slice (some ⟨g, 0, none⟩) n cap)
    have hgF := grown_set4 (((w2.alloc (.cells #[Value.int .i64 primary, Value.int .i64 view, Value.int .i64 commit, Value.slice (some ⟨g, 0, none⟩) n cap] 24)).setCell ⟨g, j * 3, none⟩ (Value.bool false))) (w.heap.size + 1) (Value.int .i64 primary) (Value.int .i64 view) (Value.int .i64 commit) (Value.slice (some ⟨g, 0, none⟩) n cap)
    refine bodyPost_ret (v := .tuple #[.agg #[Value.int .i64 primary, Value.int .i64 view, Value.int .i64 commit, Value.slice (some ⟨g, 0, none⟩) n cap], .int .i64 0]) ?_ rfl ?_
    · refine (res2 (fn := Try.f32) (p := 4) (u := 5) (ty := 24) rfl _ _ (w.heap.size + 1) 24 _ (0, 0) _ ?_ hBF Try.underlying24 rfl (by kernel_rfl)).trans ?_
      · rfl
      · rfl
    clear hBF
    generalize ((((((w2.alloc (.cells #[Value.int .i64 primary, Value.int .i64 view, Value.int .i64 commit, Value.slice (some ⟨g, 0, none⟩) n cap] 24)).setCell ⟨g, j * 3, none⟩ (Value.bool false)).setCell ⟨(w.heap.size + 1), 0, none⟩ (Value.int .i64 primary)).setCell ⟨(w.heap.size + 1), 1, none⟩ (Value.int .i64 view)).setCell ⟨(w.heap.size + 1), 2, none⟩ (Value.int .i64 commit)).setCell ⟨(w.heap.size + 1), 3, none⟩ (Value.slice (some ⟨g, 0, none⟩) n cap)) = wF at *
    have hsF : ∀ s ∈ sl2.set j (⟨false, xv, xA2, xn2, xc2, xl2⟩ : Sm), SmAt wF (fun b => ((Q b ∧ b < w.heap.size) ∨ w.heap.size + 2 ≤ b)) s := fun s hs => ((hs4.out s hs).st hgF (fun b hb e => by injection e with e; have := hb.1; omega)).imp (fun b hb => hb.1)
    have hrF := hrow4.out.grownO hgF (.inr (by intro e; simp [Value.ownBlock] at e; have := hgw.out; omega))
    have hCF := CmAt.of_own (p := primary) (v := view) (m := commit) hrF (by simp [hl2.out]) hsF (Or.inr hgw.out)
    exact ⟨⟨_, by rw [hF.out]; rfl, hCF.imp (fun b hb => hb.elim (fun h => Or.inl h.1) (fun h => Or.inr (by omega))), by rw [hF.out]; exact congrArg (fun l => Cv.mk primary view commit l) (set_val sl2 _ j false (⟨false, xv, xA2, xn2, xc2, xl2⟩ : Sm) ⟨true, xv, xA2, xn2, xc2, xl2⟩ hv2.out hx2.out rfl)⟩, hbF⟩
set_option maxRecDepth 100000 in
set_option maxHeartbeats 8000000 in
theorem rrestart_any (k : Cm) (i : Int) (w : World) {Q : Nat → Prop} (h : CmAt w Q k) (hs : CmSm k) :
    Calls Try.prog 33 #[clV k, .int .i64 i] w fun e w' => ResC Q w w' (restartC k.val i) e ∧ Below w.heap.size w w' := by
  obtain ⟨r, hr⟩ : ∃ r, r = restartC k.val i := ⟨_, rfl⟩
  rw [← hr]
  replace hr := Lib.hid hr
  have hl := Lib.hid h.len
  have hcm := Lib.hid h.lt
  have hsm := Lib.hid hs
  clear h
  obtain ⟨hn1, hn7, -⟩ := hs
  obtain ⟨primary, view, commit, A, n, c, sl⟩ := k
  simp only [clV] at *
  have hx0 := Lib.hid ((Blk.new w 24 #[Value.int .i64 primary, Value.int .i64 view, Value.int .i64 commit, Value.slice A n c]).alloc (.cells #[Value.int .i64 0, Value.int .i64 0, Value.int .i64 0, Value.slice none 0 0] 24))
  have hz0 := Blk.new (w.alloc (.cells #[Value.int .i64 primary, Value.int .i64 view, Value.int .i64 commit, Value.slice A n c] 24)) 24 #[Value.int .i64 0, Value.int .i64 0, Value.int .i64 0, Value.slice none 0 0]
  rw [show (w.alloc (.cells #[Value.int .i64 primary, Value.int .i64 view, Value.int .i64 commit, Value.slice A n c] 24)).heap.size = w.heap.size + 1 by simp] at hz0
  replace hz0 := Lib.hid hz0
  have hb0 : Hid (Below w.heap.size w ((w.alloc (.cells #[Value.int .i64 primary, Value.int .i64 view, Value.int .i64 commit, Value.slice A n c] 24)).alloc (.cells #[Value.int .i64 0, Value.int .i64 0, Value.int .i64 0, Value.slice none 0 0] 24))) := (a1 w _).alloc (by simp) _
  have hsz0 : Hid (((w.alloc (.cells #[Value.int .i64 primary, Value.int .i64 view, Value.int .i64 commit, Value.slice A n c] 24)).alloc (.cells #[Value.int .i64 0, Value.int .i64 0, Value.int .i64 0, Value.slice none 0 0] 24)).heap.size = w.heap.size + 2) := by show _ = _; simp
  have hc0 := Lib.hid (hcm.out.more hb0.out)
  obtain ⟨k0, k1, k2, k3⟩ := cells4 (((w.alloc (.cells #[Value.int .i64 primary, Value.int .i64 view, Value.int .i64 commit, Value.slice A n c] 24)).alloc (.cells #[Value.int .i64 0, Value.int .i64 0, Value.int .i64 0, Value.slice none 0 0] 24))) (w.heap.size) (Value.int .i64 primary) (Value.int .i64 view) (Value.int .i64 commit) (Value.slice A n c) (hx0.out)
  obtain ⟨u0, u1, u2, u3, y0, y1, y2, y3⟩ := cells4z (((w.alloc (.cells #[Value.int .i64 primary, Value.int .i64 view, Value.int .i64 commit, Value.slice A n c] 24)).alloc (.cells #[Value.int .i64 0, Value.int .i64 0, Value.int .i64 0, Value.slice none 0 0] 24))) ((w.heap.size + 1)) (Value.int .i64 0) (Value.int .i64 0) (Value.int .i64 0) (Value.slice none 0 0) (hz0.out)
  by_cases q1 : i < 0
  · have q1d : decide (i < 0) = true := by simpa using q1
    have hF : Hid (r = (⟨primary, view, commit, sl.map Sm.val⟩, 2)) := by show _ = _; rw [hr.out]; show restartC ⟨primary, view, commit, sl.map Sm.val⟩ i = _; unfold restartC; rw [if_pos (.inl q1)]
    go_enter Try.func33, Try.ntmps33
    go_wp2_with fail
    (try simp only [Exit.inBlock, Exit.then])
    have hBF := Blk.new (w.alloc (.cells #[Value.int .i64 primary, Value.int .i64 view, Value.int .i64 commit, Value.slice A n c] 24)) 24 #[Value.int .i64 primary, Value.int .i64 view, Value.int .i64 commit, Value.slice A n c]
    rw [show (w.alloc (.cells #[Value.int .i64 primary, Value.int .i64 view, Value.int .i64 commit, Value.slice A n c] 24)).heap.size = w.heap.size + 1 by simp] at hBF
    have hbF : Below w.heap.size w ((w.alloc (.cells #[Value.int .i64 primary, Value.int .i64 view, Value.int .i64 commit, Value.slice A n c] 24)).alloc (.cells #[Value.int .i64 primary, Value.int .i64 view, Value.int .i64 commit, Value.slice A n c] 24)) := ((a1 w _).alloc (by simp) _)
    refine bodyPost_ret (v := .tuple #[.agg #[Value.int .i64 primary, Value.int .i64 view, Value.int .i64 commit, Value.slice A n c], .int .i64 2]) ?_ rfl ?_
    · refine (res2 (fn := Try.f33) (p := 4) (u := 5) (ty := 24) rfl _ _ (w.heap.size + 1) 24 _ (0, 0) _ ?_ hBF Try.underlying24 rfl (by kernel_rfl)).trans ?_
      · rfl
      · rfl
    clear hBF
    exact ⟨⟨⟨primary, view, commit, A, n, c, sl⟩, by rw [hF.out]; rfl, (hcm.out.more hbF).imp (fun b hb => Or.inl hb.1), by rw [hF.out]; rfl⟩, hbF⟩
  have q1d : decide (i < 0) = false := by simpa using q1
  by_cases q2 : (n : Int) ≤ i
  · have q2d : decide ((n : Int) ≤ i) = true := by simpa using q2
    have hF : Hid (r = (⟨primary, view, commit, sl.map Sm.val⟩, 2)) := by show _ = _; rw [hr.out]; show restartC ⟨primary, view, commit, sl.map Sm.val⟩ i = _; unfold restartC; rw [if_pos (.inr (by show ((sl.map Sm.val).length : Int) ≤ i; rw [List.length_map, hl.out]; exact q2))]
    go_enter Try.func33, Try.ntmps33
    go_wp2_with fail
    (try simp only [Exit.inBlock, Exit.then])
    have hBF := Blk.new (w.alloc (.cells #[Value.int .i64 primary, Value.int .i64 view, Value.int .i64 commit, Value.slice A n c] 24)) 24 #[Value.int .i64 primary, Value.int .i64 view, Value.int .i64 commit, Value.slice A n c]
    rw [show (w.alloc (.cells #[Value.int .i64 primary, Value.int .i64 view, Value.int .i64 commit, Value.slice A n c] 24)).heap.size = w.heap.size + 1 by simp] at hBF
    have hbF : Below w.heap.size w ((w.alloc (.cells #[Value.int .i64 primary, Value.int .i64 view, Value.int .i64 commit, Value.slice A n c] 24)).alloc (.cells #[Value.int .i64 primary, Value.int .i64 view, Value.int .i64 commit, Value.slice A n c] 24)) := ((a1 w _).alloc (by simp) _)
    refine bodyPost_ret (v := .tuple #[.agg #[Value.int .i64 primary, Value.int .i64 view, Value.int .i64 commit, Value.slice A n c], .int .i64 2]) ?_ rfl ?_
    · refine (res2 (fn := Try.f33) (p := 4) (u := 5) (ty := 24) rfl _ _ (w.heap.size + 1) 24 _ (0, 0) _ ?_ hBF Try.underlying24 rfl (by kernel_rfl)).trans ?_
      · rfl
      · rfl
    clear hBF
    exact ⟨⟨⟨primary, view, commit, A, n, c, sl⟩, by rw [hF.out]; rfl, (hcm.out.more hbF).imp (fun b hb => Or.inl hb.1), by rw [hF.out]; rfl⟩, hbF⟩
  have q2d : decide ((n : Int) ≤ i) = false := by simpa using q2
  obtain ⟨j, rfl⟩ : ∃ j : Nat, i = (j : Int) := ⟨i.toNat, by omega⟩
  have hjn : j < n := by omega
  have hjl : j < sl.length := by have := hl.out; (try simp only at this); omega
  have hj0 : (0 : Int) ≤ j := by omega
  have hj1 : (j : Int) < n := by omega
  obtain ⟨ad, hA, -, e0, -, -⟩ := sv_cells hc0.out.at_ hjn
  (try simp only at hA)
  obtain ⟨x, hx⟩ : ∃ x, x = sl[j] := ⟨_, rfl⟩
  rw [← hx] at e0
  have hxo : Hid (sl[j]? = some x) := by show _ = _; rw [List.getElem?_eq_getElem hjl, hx]
  have hP : Hid (r = if x.up = true then (⟨primary, view, commit, sl.map Sm.val⟩, 10) else (⟨primary, view, commit, setUp (sl.map Sm.val) j true⟩, 0)) := by
    show _ = _
    rw [hr.out]; show restartC ⟨primary, view, commit, sl.map Sm.val⟩ (j : Int) = _; unfold restartC
    rw [if_neg (fun h => h.elim q1 (fun h => q2 (by rw [← hl.out, ← List.length_map (f := Sm.val)]; exact h)))]
    show (match (sl.map Sm.val)[j]? with | none => _ | some s => _) = _
    rw [List.getElem?_map, hxo.out]
    rfl
  clear hx
  subst hA
  by_cases q3 : x.up = true
  · have hF : Hid (r = (⟨primary, view, commit, sl.map Sm.val⟩, 10)) := by show _ = _; rw [hP.out, if_pos q3]
    rw [q3] at e0
    replace q3 := Lib.hid q3
    go_enter Try.func33, Try.ntmps33
    go_wp2_with fail
    (try simp only [Exit.inBlock, Exit.then])
    have hBF := Blk.new (w.alloc (.cells #[Value.int .i64 primary, Value.int .i64 view, Value.int .i64 commit, Value.slice (some ad) n c] 24)) 24 #[Value.int .i64 primary, Value.int .i64 view, Value.int .i64 commit, Value.slice (some ad) n c]
    rw [show (w.alloc (.cells #[Value.int .i64 primary, Value.int .i64 view, Value.int .i64 commit, Value.slice (some ad) n c] 24)).heap.size = w.heap.size + 1 by simp] at hBF
    have hbF : Below w.heap.size w ((w.alloc (.cells #[Value.int .i64 primary, Value.int .i64 view, Value.int .i64 commit, Value.slice (some ad) n c] 24)).alloc (.cells #[Value.int .i64 primary, Value.int .i64 view, Value.int .i64 commit, Value.slice (some ad) n c] 24)) := ((a1 w _).alloc (by simp) _)
    refine bodyPost_ret (v := .tuple #[.agg #[Value.int .i64 primary, Value.int .i64 view, Value.int .i64 commit, Value.slice (some ad) n c], .int .i64 10]) ?_ rfl ?_
    · refine (res2 (fn := Try.f33) (p := 4) (u := 5) (ty := 24) rfl _ _ (w.heap.size + 1) 24 _ (0, 0) _ ?_ hBF Try.underlying24 rfl (by kernel_rfl)).trans ?_
      · rfl
      · rfl
    clear hBF
    exact ⟨⟨⟨primary, view, commit, (some ad), n, c, sl⟩, by rw [hF.out]; rfl, (hcm.out.more hbF).imp (fun b hb => Or.inl hb.1), by rw [hF.out]; rfl⟩, hbF⟩
  have hFF : Hid (r = (⟨primary, view, commit, setUp (sl.map Sm.val) j true⟩, 0)) := by show _ = _; rw [hP.out, if_neg q3]
  have hxu : x.up = false := by simpa using q3
  rw [hxu] at e0
  replace hxu := Lib.hid hxu
  clear hP q3
  have hcp := Lib.hid (own_any ⟨primary, view, commit, some ad, n, c, sl⟩ ((w.alloc (.cells #[Value.int .i64 primary, Value.int .i64 view, Value.int .i64 commit, Value.slice (some ad) n c] 24)).alloc (.cells #[Value.int .i64 0, Value.int .i64 0, Value.int .i64 0, Value.slice none 0 0] 24)) hc0.out hsm.out)
  simp only [clV] at hcp
  go_enter Try.func33, Try.ntmps33
  go_wp2_with fail
  refine hcp.out.mono ?_; rintro e w2 ⟨⟨g, cap, sl2, rfl, hrow, hs, hv⟩, hq⟩
  (try simp only at hrow hs hv)
  have hl2 : Hid (sl2.length = n) := by
    show _ = _
    have := congrArg List.length hv
    rw [List.length_map, List.length_map, hl.out] at this
    exact this
  have hB2 := Lib.hid (hx0.out.below hq hx0.out.lt)
  have hZ2 := Lib.hid (hz0.out.below hq hz0.out.lt)
  have hb2 := Lib.hid (hb0.out.trans (hq.mono hb0.out.size))
  rw [hsz0.out] at hrow hs
  have hgw : Hid (w.heap.size + 2 ≤ g) := (hrow.grown_base hl2.out.symm).1
  have hrow2 := Lib.hid hrow
  have hs2 : Hid (∀ s ∈ sl2, SmAt w2 (fun b => ((Q b ∧ b < w.heap.size) ∨ w.heap.size + 2 ≤ b) ∧ b ≠ g) s) := hs
  have hv2 := Lib.hid hv
  clear hq hrow hs hv hcp hx0 hz0 hb0 hc0 k0 k1 k2 k3 u0 u1 u2 u3 y0 y1 y2 y3 e0
  obtain ⟨x2, hx2⟩ : ∃ x2, sl2[j]? = some x2 := ⟨_, List.getElem?_eq_getElem (by have := hl2.out; omega)⟩
  have hxv : x2.val = x.val := by
    have h8 : (sl2.map Sm.val)[j]? = (sl.map Sm.val)[j]? := by rw [hv2.out]
    rw [List.getElem?_map, List.getElem?_map, hx2, hxo.out] at h8
    injection h8
  have hxu2 : x2.up = false := (congrArg Sv.up hxv).trans hxu.out
  clear hxv
  obtain ⟨xu, xv, xA2, xn2, xc2, xl2⟩ := x2
  simp only at hxu2
  subst hxu2
  have hx2j : sl2[j]'(by have := hl2.out; omega) = ⟨false, xv, xA2, xn2, xc2, xl2⟩ := (List.getElem?_eq_some_iff.1 hx2).2
  replace hx2 := Lib.hid hx2
  have hB3 := Lib.hid (Blk.new w2 24 #[Value.int .i64 primary, Value.int .i64 view, Value.int .i64 commit, Value.slice (some ⟨g, 0, none⟩) n cap])
  have hb3 : Hid (Below w.heap.size w (w2.alloc (.cells #[Value.int .i64 primary, Value.int .i64 view, Value.int .i64 commit, Value.slice (some ⟨g, 0, none⟩) n cap] 24))) := hb2.out.alloc hb2.out.size _
  have hbx : Hid (w2.heap.size ≠ g ∧ w2.heap.size ≠ w.heap.size + 1 ∧ w.heap.size ≤ w2.heap.size) := ⟨by have := (hrow2.out.grown_base hl2.out.symm).2; omega, by have := hZ2.out.lt; omega, hb2.out.size⟩
  have hs3 : Hid (∀ s ∈ sl2, SmAt (w2.alloc (.cells #[Value.int .i64 primary, Value.int .i64 view, Value.int .i64 commit, Value.slice (some ⟨g, 0, none⟩) n cap] 24)) (fun b => ((Q b ∧ b < w.heap.size) ∨ w.heap.size + 2 ≤ b) ∧ b ≠ g ∧ b < w2.heap.size) s) := fun s hs => ((hs2.out s hs).lt.more (a1 w2 _)).imp (fun b hb => ⟨hb.1.1, hb.1.2, hb.2⟩)
  have hZ3 := Lib.hid (hZ2.out.alloc (.cells #[Value.int .i64 primary, Value.int .i64 view, Value.int .i64 commit, Value.slice (some ⟨g, 0, none⟩) n cap] 24))
  have hrow3 := Lib.hid (hrow2.out.alloc (.cells #[Value.int .i64 primary, Value.int .i64 view, Value.int .i64 commit, Value.slice (some ⟨g, 0, none⟩) n cap] 24))
  have c3 : (w2.alloc (.cells #[Value.int .i64 primary, Value.int .i64 view, Value.int .i64 commit, Value.slice (some ⟨g, 0, none⟩) n cap] 24)).cell? ⟨g, j * 3, none⟩ = some (Value.bool false) := by
    rw [show (⟨g, j * 3, none⟩ : Addr) = ⟨g, j * 3 + 0, none⟩ from rfl, hrow3.out.cellAt hl2.out.symm (k := j) (by have := hl2.out; omega) (j := 0) (by decide), hx2j]; rfl
  have z3 : (w2.alloc (.cells #[Value.int .i64 primary, Value.int .i64 view, Value.int .i64 commit, Value.slice (some ⟨g, 0, none⟩) n cap] 24)).frozen? ⟨g, j * 3, none⟩ = false := hrow3.out.frozenAt hl2.out.symm _
  have hrow4 : Hid (LOwn svC 3 47 ((w2.alloc (.cells #[Value.int .i64 primary, Value.int .i64 view, Value.int .i64 commit, Value.slice (some ⟨g, 0, none⟩) n cap] 24)).setCell ⟨g, j * 3, none⟩ (Value.bool true)) (w.heap.size + 2) (.slice (some ⟨g, 0, none⟩) n cap) (sl2.set j (⟨true, xv, xA2, xn2, xc2, xl2⟩ : Sm))) := (hrow3.out.storep hl2.out.symm (k := j) (by have := hl2.out; omega) (⟨true, xv, xA2, xn2, xc2, xl2⟩ : Sm) 0 [Value.bool true] (by simp) (row_set _ ⟨false, xv, xA2, xn2, xc2, xl2⟩ _ 0 _ (by decide) hx2j (by
    intro j hj h1
    have : j = 1 ∨ j = 2 := by omega
    rcases this with rfl | rfl <;> rfl) rfl)).1
  have hg4 : Hid ((w2.alloc (.cells #[Value.int .i64 primary, Value.int .i64 view, Value.int .i64 commit, Value.slice (some ⟨g, 0, none⟩) n cap] 24)).grownBy ((w2.alloc (.cells #[Value.int .i64 primary, Value.int .i64 view, Value.int .i64 commit, Value.slice (some ⟨g, 0, none⟩) n cap] 24)).setCell ⟨g, j * 3, none⟩ (Value.bool true)) (some g)) := only_set (World.grownBy.refl _ _) _ _
  have hB4 := Lib.hid (hB3.out.grown hg4.out (by intro e; injection e with e; first | exact hbx.out.1 e | exact hbx.out.1 e.symm))
  have hZ4 := Lib.hid (hZ3.out.grown hg4.out (by intro e; injection e with e; have := hgw.out; omega))
  have hb4 := Lib.hid (hb3.out.grown hg4.out hb3.out.size (fun g8 e8 => by injection e8 with e8; have := hgw.out; omega))
  have hs4 : Hid (∀ s ∈ sl2.set j (⟨true, xv, xA2, xn2, xc2, xl2⟩ : Sm), SmAt ((w2.alloc (.cells #[Value.int .i64 primary, Value.int .i64 view, Value.int .i64 commit, Value.slice (some ⟨g, 0, none⟩) n cap] 24)).setCell ⟨g, j * 3, none⟩ (Value.bool true)) (fun b => ((Q b ∧ b < w.heap.size) ∨ w.heap.size + 2 ≤ b) ∧ b ≠ g ∧ b < w2.heap.size) s) := fun s hs => by
    have h8 : ∀ t ∈ sl2, SmAt ((w2.alloc (.cells #[Value.int .i64 primary, Value.int .i64 view, Value.int .i64 commit, Value.slice (some ⟨g, 0, none⟩) n cap] 24)).setCell ⟨g, j * 3, none⟩ (Value.bool true)) (fun b => ((Q b ∧ b < w.heap.size) ∨ w.heap.size + 2 ≤ b) ∧ b ≠ g ∧ b < w2.heap.size) t := fun t ht => (hs3.out t ht).st hg4.out (fun b hb e => by injection e with e; exact hb.2.1 e)
    rcases List.mem_or_eq_of_mem_set hs with hs | rfl
    · exact h8 s hs
    · exact h8 ⟨false, xv, xA2, xn2, xc2, xl2⟩ (List.mem_of_getElem? hx2.out)
  replace hx2j := Lib.hid hx2j
  obtain ⟨q0, q1, q2, q3⟩ := cells4 ((w2.alloc (.cells #[Value.int .i64 primary, Value.int .i64 view, Value.int .i64 commit, Value.slice (some ⟨g, 0, none⟩) n cap] 24))) (w2.heap.size) (Value.int .i64 primary) (Value.int .i64 view) (Value.int .i64 commit) (Value.slice (some ⟨g, 0, none⟩) n cap) (hB3.out)
  obtain ⟨p0, p1, p2, p3, r0, r1, r2, r3⟩ := cells4z (((w2.alloc (.cells #[Value.int .i64 primary, Value.int .i64 view, Value.int .i64 commit, Value.slice (some ⟨g, 0, none⟩) n cap] 24)).setCell ⟨g, j * 3, none⟩ (Value.bool true))) (w2.heap.size) (Value.int .i64 primary) (Value.int .i64 view) (Value.int .i64 commit) (Value.slice (some ⟨g, 0, none⟩) n cap) (hB4.out)
  have hF := hFF
  obtain ⟨n0, n1, n2, n3⟩ := cells4 (((w2.alloc (.cells #[Value.int .i64 primary, Value.int .i64 view, Value.int .i64 commit, Value.slice (some ⟨g, 0, none⟩) n cap] 24)).setCell ⟨g, j * 3, none⟩ (Value.bool true))) (w2.heap.size) (Value.int .i64 primary) (Value.int .i64 view) (Value.int .i64 commit) (Value.slice (some ⟨g, 0, none⟩) n cap) (hB4.out)
  obtain ⟨u0, u1, u2, u3, y0, y1, y2, y3⟩ := cells4z (((w2.alloc (.cells #[Value.int .i64 primary, Value.int .i64 view, Value.int .i64 commit, Value.slice (some ⟨g, 0, none⟩) n cap] 24)).setCell ⟨g, j * 3, none⟩ (Value.bool true))) ((w.heap.size + 1)) (Value.int .i64 0) (Value.int .i64 0) (Value.int .i64 0) (Value.slice none 0 0) (hZ4.out)
  go_wp2_with fail
  (try simp only [Exit.inBlock, Exit.then])
  have hBF := cl_set4 hZ4.out (Value.int .i64 primary) (Value.int .i64 view) (Value.int .i64 commit) (Value.slice (some ⟨g, 0, none⟩) n cap)
  have hbF := below_set4 hb4.out (Nat.le_succ _) (Value.int .i64 primary) (Value.int .i64 view) (Value.int .i64 commit) (Value.slice (some ⟨g, 0, none⟩) n cap)
  have hgF := grown_set4 (((w2.alloc (.cells #[Value.int .i64 primary, Value.int .i64 view, Value.int .i64 commit, Value.slice (some ⟨g, 0, none⟩) n cap] 24)).setCell ⟨g, j * 3, none⟩ (Value.bool true))) (w.heap.size + 1) (Value.int .i64 primary) (Value.int .i64 view) (Value.int .i64 commit) (Value.slice (some ⟨g, 0, none⟩) n cap)
  refine bodyPost_ret (v := .tuple #[.agg #[Value.int .i64 primary, Value.int .i64 view, Value.int .i64 commit, Value.slice (some ⟨g, 0, none⟩) n cap], .int .i64 0]) ?_ rfl ?_
  · refine (res2 (fn := Try.f33) (p := 4) (u := 5) (ty := 24) rfl _ _ (w.heap.size + 1) 24 _ (0, 0) _ ?_ hBF Try.underlying24 rfl (by kernel_rfl)).trans ?_
    · rfl
    · rfl
  clear hBF
  generalize ((((((w2.alloc (.cells #[Value.int .i64 primary, Value.int .i64 view, Value.int .i64 commit, Value.slice (some ⟨g, 0, none⟩) n cap] 24)).setCell ⟨g, j * 3, none⟩ (Value.bool true)).setCell ⟨(w.heap.size + 1), 0, none⟩ (Value.int .i64 primary)).setCell ⟨(w.heap.size + 1), 1, none⟩ (Value.int .i64 view)).setCell ⟨(w.heap.size + 1), 2, none⟩ (Value.int .i64 commit)).setCell ⟨(w.heap.size + 1), 3, none⟩ (Value.slice (some ⟨g, 0, none⟩) n cap)) = wF at *
  have hsF : ∀ s ∈ sl2.set j (⟨true, xv, xA2, xn2, xc2, xl2⟩ : Sm), SmAt wF (fun b => ((Q b ∧ b < w.heap.size) ∨ w.heap.size + 2 ≤ b)) s := fun s hs => ((hs4.out s hs).st hgF (fun b hb e => by injection e with e; have := hb.1; omega)).imp (fun b hb => hb.1)
  have hrF := hrow4.out.grownO hgF (.inr (by intro e; simp [Value.ownBlock] at e; have := hgw.out; omega))
  have hCF := CmAt.of_own (p := primary) (v := view) (m := commit) hrF (by simp [hl2.out]) hsF (Or.inr hgw.out)
  exact ⟨⟨_, by rw [hF.out]; rfl, hCF.imp (fun b hb => hb.elim (fun h => Or.inl h.1) (fun h => Or.inr (by omega))), by rw [hF.out]; exact congrArg (fun l => Cv.mk primary view commit l) (set_val sl2 _ j true (⟨true, xv, xA2, xn2, xc2, xl2⟩ : Sm) ⟨false, xv, xA2, xn2, xc2, xl2⟩ hv2.out hx2.out rfl)⟩, hbF⟩
end Go.Proofs.Ytiapeenfggjpnaa
