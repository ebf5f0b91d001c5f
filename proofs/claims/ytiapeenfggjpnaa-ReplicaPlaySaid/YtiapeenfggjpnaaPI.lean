/- Replicated servers: update and copyCluster, walked. -/
import Derived.Test.YtiapeenfggjpnaaPH
set_option linter.unusedVariables false
set_option linter.unusedSimpArgs false
namespace Go.Proofs.Ytiapeenfggjpnaa
open Go.RowKit
theorem only_trans {a b c : World} {o : Option Nat} (h1 : a.grownBy b o) (h2 : b.grownBy c o) : a.grownBy c o :=
  ⟨h2.os.trans h1.os, h2.tape.trans h1.tape, h2.output.trans h1.output, Nat.le_trans h1.size h2.size, fun k hk hne => (h2.block k (Nat.lt_of_lt_of_le hk h1.size) hne).trans (h1.block k hk hne)⟩
theorem row_set {L : List Sm} {i : Nat} (hi : i < L.length) (x y : Sm) (o : Nat) (v : Value) (ho : o < 3) (hL : L[i] = x) (hx : ∀ j, j < 3 → j ≠ o → (svC y)[j]? = (svC x)[j]?) (hv : (svC y)[o]? = some v) :
    ∀ j, j < 3 → (svC y)[j]? = if o ≤ j ∧ j < o + [v].length then [v][j - o]? else (svC L[i])[j]? := by
  intro j hj
  rw [hL]
  by_cases h : j = o
  · subst h
    rw [if_pos ⟨Nat.le_refl _, by simp⟩, hv]
    simp
  · rw [if_neg (by simp only [List.length_singleton]; omega)]
    exact hx j hj h
set_option maxRecDepth 100000 in
set_option maxHeartbeats 8000000 in
theorem update_any (pj : Nat) (view commit : Int) (g n cap base i : Nat) (L : List Sm) (x p : Sm) (w : World) {Q : Nat → Prop}
    (hrow : LOwn svC 3 47 w base (.slice (some ⟨g, 0, none⟩) n cap) L) (hn : L.length = n) (hn7 : n ≤ 1000) (hx : L[i]? = some x) (hp : L[pj]? = some p) (hxs : SmAt w Q x) (hps : SmAt w Q p) (hQ : ∀ b, Q b → b ≠ g) (hpn : p.n ≤ 5000 ∧ sumD p.log ≤ 1000000) :
    Calls Try.prog 49 #[.agg #[Value.int .i64 (pj : Int), Value.int .i64 view, Value.int .i64 commit, Value.slice (some ⟨g, 0, none⟩) n cap], .int .i64 i] w fun e w' => e = .returned (.tuple #[]) ∧ (∃ s', LOwn svC 3 47 w' base (.slice (some ⟨g, 0, none⟩) n cap) (L.set i s') ∧ SmAt w' (fun b => Q b ∨ w.heap.size ≤ b) s' ∧ s'.val = ⟨x.up, view, p.log.map Em.val⟩) ∧ w.grownBy w' (some g) := by
  obtain ⟨hil, hx⟩ := List.getElem?_eq_some_iff.1 hx
  obtain ⟨hpl, hp⟩ := List.getElem?_eq_some_iff.1 hp
  have hgw : g < w.heap.size := (hrow.grown_base hn.symm).2
  have hbg : Hid (base ≤ g) := (hrow.grown_base hn.symm).1
  have hi0 : (0 : Int) ≤ i := by omega
  have hi1 : (i : Int) < n := by omega
  have hp0 : (0 : Int) ≤ pj := by omega
  have hp1 : (pj : Int) < n := by omega
  replace hx := Lib.hid hx
  replace hp := Lib.hid hp
  replace hQ := Lib.hid hQ
  replace hxs := Lib.hid hxs
  replace hps := Lib.hid hps
  have hn' := Lib.hid hn
  have hb0 := Lib.hid (Blk.new w 24 #[Value.int .i64 (pj : Int), Value.int .i64 view, Value.int .i64 commit, Value.slice (some ⟨g, 0, none⟩) n cap])
  have hrow0 := Lib.hid (hrow.alloc (.cells #[Value.int .i64 (pj : Int), Value.int .i64 view, Value.int .i64 commit, Value.slice (some ⟨g, 0, none⟩) n cap] 24))
  obtain ⟨xu, xv, xA, xn, xc, xl⟩ := x
  obtain ⟨pu, pv, pA, pn, pc, pl⟩ := p
  have c1 : (w.alloc (.cells #[Value.int .i64 (pj : Int), Value.int .i64 view, Value.int .i64 commit, Value.slice (some ⟨g, 0, none⟩) n cap] 24)).cell? ⟨g, i * 3 + 1, none⟩ = some (Value.int .i64 xv) := by
    rw [hrow0.out.cellAt hn.symm (k := i) hil (j := 1) (by decide), hx.out]; rfl
  have z1 : (w.alloc (.cells #[Value.int .i64 (pj : Int), Value.int .i64 view, Value.int .i64 commit, Value.slice (some ⟨g, 0, none⟩) n cap] 24)).frozen? ⟨g, i * 3 + 1, none⟩ = false := hrow0.out.frozenAt hn.symm _
  have hrowA := (hrow.storep hn.symm hil (⟨xu, view, xA, xn, xc, xl⟩ : Sm) 1 [Value.int .i64 view] (by simp) (row_set hil _ _ 1 _ (by decide) hx.out (by
    intro j hj h1
    have : j = 0 ∨ j = 2 := by omega
    rcases this with rfl | rfl <;> rfl) rfl)).1
  have hrowA : LOwn svC 3 47 (w.setCell ⟨g, i * 3 + 1, none⟩ (Value.int .i64 view)) base (.slice (some ⟨g, 0, none⟩) n cap) (L.set i (⟨xu, view, xA, xn, xc, xl⟩ : Sm)) := hrowA
  have hrow1 := Lib.hid (hrowA.alloc (.cells #[Value.int .i64 (pj : Int), Value.int .i64 view, Value.int .i64 commit, Value.slice (some ⟨g, 0, none⟩) n cap] 24))
  have hb1 := Blk.new (w.setCell ⟨g, i * 3 + 1, none⟩ (Value.int .i64 view)) 24 #[Value.int .i64 (pj : Int), Value.int .i64 view, Value.int .i64 commit, Value.slice (some ⟨g, 0, none⟩) n cap]
  rw [show (w.setCell ⟨g, i * 3 + 1, none⟩ (Value.int .i64 view)).heap.size = w.heap.size by simp] at hb1
  replace hb1 := Lib.hid hb1
  have hgA : Hid (w.grownBy ((w.setCell ⟨g, i * 3 + 1, none⟩ (Value.int .i64 view)).alloc (.cells #[Value.int .i64 (pj : Int), Value.int .i64 view, Value.int .i64 commit, Value.slice (some ⟨g, 0, none⟩) n cap] 24)) (some g)) := only_alloc (only_set (World.grownBy.refl _ _) _ _) _
  obtain ⟨k0, k1, k2, k3⟩ := cells4 ((w.alloc (.cells #[Value.int .i64 (pj : Int), Value.int .i64 view, Value.int .i64 commit, Value.slice (some ⟨g, 0, none⟩) n cap] 24))) (w.heap.size) (Value.int .i64 (pj : Int)) (Value.int .i64 view) (Value.int .i64 commit) (Value.slice (some ⟨g, 0, none⟩) n cap) (hb0.out)
  obtain ⟨m0, m1, m2, m3⟩ := cells4 (((w.setCell ⟨g, i * 3 + 1, none⟩ (Value.int .i64 view)).alloc (.cells #[Value.int .i64 (pj : Int), Value.int .i64 view, Value.int .i64 commit, Value.slice (some ⟨g, 0, none⟩) n cap] 24))) (w.heap.size) (Value.int .i64 (pj : Int)) (Value.int .i64 view) (Value.int .i64 commit) (Value.slice (some ⟨g, 0, none⟩) n cap) (hb1.out)
  by_cases q : i = pj
  · subst q
    have qd : ((i : Int) != (i : Int)) = false := by simp
    have hxp : Hid ((⟨xu, xv, xA, xn, xc, xl⟩ : Sm) = ⟨pu, pv, pA, pn, pc, pl⟩) := hx.out.symm.trans hp.out
    clear hrow hn hx hp hil hpl hrowA
    go_enter Try.func49, Try.ntmps49
    go_wp2_with fail
    (try simp only [Exit.inBlock, Exit.then])
    refine bodyPost_end (results_none (fn := Try.f49) rfl _ _ _) rfl ?_
    refine ⟨rfl, ⟨(⟨xu, view, xA, xn, xc, xl⟩ : Sm), hrow1.out, ?_, ?_⟩, hgA.out⟩
    · show SmAt _ (fun b => Q b ∨ w.heap.size ≤ b) (⟨xu, view, xA, xn, xc, xl⟩ : Sm)
      exact LogAt.imp (SmAt.st hxs.out hgA.out (fun b hb e => by injection e with e; exact hQ.out b hb e)) (fun b hb => Or.inl hb)
    · have := hxp.out
      injection this with _ _ _ _ _ e6
      rw [e6]; rfl
  · have qd : ((i : Int) != (pj : Int)) = true := by simp; omega
    have c2 : ((w.setCell ⟨g, i * 3 + 1, none⟩ (Value.int .i64 view)).alloc (.cells #[Value.int .i64 (pj : Int), Value.int .i64 view, Value.int .i64 commit, Value.slice (some ⟨g, 0, none⟩) n cap] 24)).cell? ⟨g, pj * 3 + 2, none⟩ = some (Value.slice pA pn pc) := by
      rw [hrow1.out.cellAt (by simp [hn]) (k := pj) (by simpa using hpl) (j := 2) (by decide), List.getElem_set_ne q, hp.out]; rfl
    have c3 : (w.setCell ⟨g, i * 3 + 1, none⟩ (Value.int .i64 view)).cell? ⟨g, pj * 3 + 2, none⟩ = some (Value.slice pA pn pc) := by
      rw [hrowA.cellAt (by simp [hn]) (k := pj) (by simpa using hpl) (j := 2) (by decide), List.getElem_set_ne q, hp.out]; rfl
    have hcp := Lib.hid (copyLog_any pA pn pc pl ((w.setCell ⟨g, i * 3 + 1, none⟩ (Value.int .i64 view)).alloc (.cells #[Value.int .i64 (pj : Int), Value.int .i64 view, Value.int .i64 commit, Value.slice (some ⟨g, 0, none⟩) n cap] 24)) (SmAt.st hps.out hgA.out (fun b hb e => by injection e with e; exact hQ.out b hb e)) hpn.1 hpn.2)
    clear hrow hn hrowA
    go_enter Try.func49, Try.ntmps49
    go_wp2_with fail
    refine hcp.out.mono ?_; rintro e w2 ⟨⟨g5, l5, rfl, ho5, he5, hv5⟩, hq⟩
    have hrow2 := Lib.hid (hrow1.out.kept hq)
    have hb2 := Lib.hid (hb1.out.below hq hb1.out.lt)
    have hlog5 := Lib.hid (LogAt.of_own ho5 (by have := congrArg List.length hv5; rw [List.length_map, List.length_map] at this; rw [this]; exact hps.out.len) (fun e he => (he5 e he).imp (fun b hb => hb.1)))
    have hg2 : Hid (w.grownBy w2 (some g)) := only_trans hgA.out (only_of_below hq _)
    have hsz2 : Hid (w.heap.size ≤ ((w.setCell ⟨g, i * 3 + 1, none⟩ (Value.int .i64 view)).alloc (.cells #[Value.int .i64 (pj : Int), Value.int .i64 view, Value.int .i64 commit, Value.slice (some ⟨g, 0, none⟩) n cap] 24)).heap.size) := hgA.out.size
    replace hv5 := Lib.hid hv5
    clear hq ho5 he5 hcp hb0 hb1 hrow0 hrow1 c1 z1 c2 c3 k0 k1 k2 k3 m0 m1 m2 m3
    have c5 : w2.cell? ⟨g, i * 3 + 2, none⟩ = some (Value.slice xA xn xc) := by
      rw [hrow2.out.cellAt (by simp [hn'.out]) (k := i) (by simpa using hil) (j := 2) (by decide)]
      simp [svC]
    have z5 : w2.frozen? ⟨g, i * 3 + 2, none⟩ = false := hrow2.out.frozenAt (by simp [hn'.out]) _
    have hrow3 := (hrow2.out.storep (by simp [hn'.out]) (k := i) (by simpa using hil) (⟨xu, view, (some ⟨g5, 0, none⟩), pn, pn + 1, l5⟩ : Sm) 2 [Value.slice (some ⟨g5, 0, none⟩) pn (pn + 1)] (by simp) (row_set (by simpa using hil) (⟨xu, view, xA, xn, xc, xl⟩ : Sm) _ 2 _ (by decide) (by simp) (by
      intro j hj h1
      have : j = 0 ∨ j = 1 := by omega
      rcases this with rfl | rfl <;> rfl) rfl)).1
    rw [List.set_set] at hrow3
    replace hrow3 := Lib.hid hrow3
    have hg3 : Hid (w2.grownBy (w2.setCell ⟨g, i * 3 + 2, none⟩ (Value.slice (some ⟨g5, 0, none⟩) pn (pn + 1))) (some g)) := only_set (World.grownBy.refl _ _) _ _
    go_wp2_with fail
    (try simp only [Exit.inBlock, Exit.then])
    refine bodyPost_end (results_none (fn := Try.f49) rfl _ _ _) rfl ?_
    refine ⟨rfl, ⟨(⟨xu, view, (some ⟨g5, 0, none⟩), pn, pn + 1, l5⟩ : Sm), hrow3.out, ?_, ?_⟩, only_trans hg2.out hg3.out⟩
    · show SmAt _ (fun b => Q b ∨ w.heap.size ≤ b) (⟨xu, view, (some ⟨g5, 0, none⟩), pn, pn + 1, l5⟩ : Sm)
      refine LogAt.imp (LogAt.st hlog5.out hg3.out (fun b hb e => ?_)) (fun b hb => Or.inr (Nat.le_trans hsz2.out hb))
      injection e with e
      subst e
      have := hsz2.out
      omega
    · show Sv.mk xu view (l5.map Em.val) = _
      rw [hv5.out]
theorem cl_set4 {w : World} {g : Nat} {a0 a1 a2 a3 : Value} (h : Blk w g 24 #[a0, a1, a2, a3]) (v0 v1 v2 v3 : Value) : Blk ((((w.setCell ⟨g, 0, none⟩ v0).setCell ⟨g, 1, none⟩ v1).setCell ⟨g, 2, none⟩ v2).setCell ⟨g, 3, none⟩ v3) g 24 #[v0, v1, v2, v3] :=
  (((h.set_ 0 v0).set_ 1 v1).set_ 2 v2).set_ 3 v3
theorem grown_set4 (w : World) (g : Nat) (v0 v1 v2 v3 : Value) : w.grownBy ((((w.setCell ⟨g, 0, none⟩ v0).setCell ⟨g, 1, none⟩ v1).setCell ⟨g, 2, none⟩ v2).setCell ⟨g, 3, none⟩ v3) (some g) :=
  only_set (only_set (only_set (only_set (World.grownBy.refl _ _) 0 _) 1 _) 2 _) 3 _
theorem below_set4 {B g : Nat} {a w : World} (h : Below B a w) (hg : B ≤ g) (v0 v1 v2 v3 : Value) : Below B a ((((w.setCell ⟨g, 0, none⟩ v0).setCell ⟨g, 1, none⟩ v1).setCell ⟨g, 2, none⟩ v2).setCell ⟨g, 3, none⟩ v3) :=
  below_set (below_set (below_set (below_set h hg 0 _) hg 1 _) hg 2 _) hg 3 _
/-- a copy of a log, as a value -/
def LogV (base n : Nat) (lv : List En) (v : Value) (w : World) : Prop := ∃ A c l, v = .slice A n c ∧ LogAt w (fun b => base ≤ b) A n c l ∧ l.map Em.val = lv
theorem LogV.more {base n : Nat} {lv : List En} {v : Value} {w w' : World} (h : LogV base n lv v w) (hb : Below w.heap.size w w') : LogV base n lv v w' := by
  obtain ⟨A, c, l, h1, h2, h3⟩ := h
  exact ⟨A, c, l, h1, h2.more hb, h3⟩
theorem LOwn.some_ {α : Type} {f : α → List Value} {s base : Nat} {e : TypeId} {w : World} {v : Value} {l : List α} (h : LOwn f s e w base v l) (hl : 1 ≤ l.length) : ∃ g cap, v = .slice (some ⟨g, 0, none⟩) l.length cap := by
  rcases h.2.2 with ⟨_, h0⟩ | ⟨g, cap, cur, hv, _⟩
  · omega
  · exact ⟨g, cap, hv⟩
/-- small enough to be copied -/
def CmSm (k : Cm) : Prop := 1 ≤ k.n ∧ k.n ≤ 1000 ∧ ∀ s ∈ k.servers, s.n ≤ 5000 ∧ sumD s.log ≤ 1000000
def F54 (g0 gp g n cap k xn xc base : Nat) (xA : Option Addr) (lv : List En) : Tmp → Value → World → Prop
  | 1, v, _ => v = .pointer (some ⟨g0, 0, none⟩)
  | 3, v, _ => v = .int .i64 (k : Int)
  | 4, v, _ => v = .pointer (some ⟨gp, 0, none⟩)
  | 17, v, _ => v = .pointer (some ⟨g0, 3, none⟩)
  | 18, v, _ => v = .slice (some ⟨g, 0, none⟩) n cap
  | 19, v, _ => v = .int .i64 (k : Int)
  | 20, v, _ => v = .pointer (some ⟨gp, 2, none⟩)
  | 21, v, _ => v = .slice xA xn xc
  | 22, v, w => LogV base xn lv v w
  | 23, v, _ => v = .pointer (some ⟨g, k * 3, none⟩)
  | 24, v, _ => v = .pointer (some ⟨g, k * 3 + 2, none⟩)
  | _, _, _ => True
theorem F54_more {g0 gp g n cap k xn xc base : Nat} {xA : Option Addr} {lv : List En} (d t : Tmp) (v : Value) (w w' : World) (hR : Rb w w') (hne : t ≠ d) (hc : ([] : List (Tmp × Tmp)).contains (d, t) = false) (h : F54 g0 gp g n cap k xn xc base xA lv t v w) : F54 g0 gp g n cap k xn xc base xA lv t v w' := by
  unfold F54 at *
  split at h <;> first | exact h | exact LogV.more h hR | exact fun hg => LogV.more (h hg) hR
theorem F54_lit (tm : Array Value) (hs : tm.size = 27) : tm = #[tm[0]?.getD undef, tm[1]?.getD undef, tm[2]?.getD undef, tm[3]?.getD undef, tm[4]?.getD undef, tm[5]?.getD undef, tm[6]?.getD undef, tm[7]?.getD undef, tm[8]?.getD undef, tm[9]?.getD undef, tm[10]?.getD undef, tm[11]?.getD undef, tm[12]?.getD undef, tm[13]?.getD undef, tm[14]?.getD undef, tm[15]?.getD undef, tm[16]?.getD undef, tm[17]?.getD undef, tm[18]?.getD undef, tm[19]?.getD undef, tm[20]?.getD undef, tm[21]?.getD undef, tm[22]?.getD undef, tm[23]?.getD undef, tm[24]?.getD undef, tm[25]?.getD undef, tm[26]?.getD undef] := lit_arr tm 27 hs
/-- a cluster of the call's own: its row of servers, and all else apart from the row -/
def OwnC (Q : Nat → Prop) (w w' : World) (k : Cm) (e : Ending) : Prop := ∃ (g cap : Nat) (sl : List Sm), e = .returned (.agg #[.int .i64 k.primary, .int .i64 k.view, .int .i64 k.commit, .slice (some ⟨g, 0, none⟩) k.n cap]) ∧ LOwn svC 3 47 w' w.heap.size (.slice (some ⟨g, 0, none⟩) k.n cap) sl ∧ (∀ s ∈ sl, SmAt w' (fun b => (Q b ∨ w.heap.size ≤ b) ∧ b ≠ g) s) ∧ sl.map Sm.val = k.servers.map Sm.val
set_option maxRecDepth 100000 in
set_option maxHeartbeats 8000000 in
theorem copyCluster_any (k : Cm) (w : World) {Q : Nat → Prop} (h : CmAt w Q k) (hs : CmSm k) :
    Calls Try.prog 54 #[clV k] w fun e w' => OwnC Q w w' k e ∧ Below w.heap.size w w' := by
  have hl := Lib.hid h.len
  have hcm := Lib.hid h
  obtain ⟨hn1, hn7, hsm⟩ := hs
  replace hsm := Lib.hid hsm
  clear h
  obtain ⟨primary, view, commit, A, n, c, sl⟩ := k
  simp only [clV] at *
  have hx0 := Lib.hid ((Blk.new w 24 #[Value.int .i64 primary, Value.int .i64 view, Value.int .i64 commit, Value.slice A n c]).alloc (.cells #[Value.int .i64 0, Value.int .i64 0, Value.int .i64 0, Value.slice none 0 0] 24))
  have hz0 := Blk.new (w.alloc (.cells #[Value.int .i64 primary, Value.int .i64 view, Value.int .i64 commit, Value.slice A n c] 24)) 24 #[Value.int .i64 0, Value.int .i64 0, Value.int .i64 0, Value.slice none 0 0]
  rw [show (w.alloc (.cells #[Value.int .i64 primary, Value.int .i64 view, Value.int .i64 commit, Value.slice A n c] 24)).heap.size = w.heap.size + 1 by simp] at hz0
  replace hz0 := Lib.hid hz0
  have hb0 : Hid (Below w.heap.size w ((w.alloc (.cells #[Value.int .i64 primary, Value.int .i64 view, Value.int .i64 commit, Value.slice A n c] 24)).alloc (.cells #[Value.int .i64 0, Value.int .i64 0, Value.int .i64 0, Value.slice none 0 0] 24))) := (a1 w _).alloc (by simp) _
  obtain ⟨k0, k1, k2, k3⟩ := cells4 (((w.alloc (.cells #[Value.int .i64 primary, Value.int .i64 view, Value.int .i64 commit, Value.slice A n c] 24)).alloc (.cells #[Value.int .i64 0, Value.int .i64 0, Value.int .i64 0, Value.slice none 0 0] 24))) (w.heap.size) (Value.int .i64 primary) (Value.int .i64 view) (Value.int .i64 commit) (Value.slice A n c) (hx0.out)
  have hcl := Lib.hid (cloneS_any A n c sl ((w.alloc (.cells #[Value.int .i64 primary, Value.int .i64 view, Value.int .i64 commit, Value.slice A n c] 24)).alloc (.cells #[Value.int .i64 0, Value.int .i64 0, Value.int .i64 0, Value.slice none 0 0] 24)) (hcm.out.at_.more hb0.out) (by omega))
  go_enter Try.func54, Try.ntmps54
  go_wp2_with fail
  refine hcl.out.mono ?_; rintro e w2 ⟨v, rfl, hown, hq⟩
  obtain ⟨g, cap, rfl⟩ := hown.some_ (by have := hl.out; (try simp only at this); omega)
  rw [hl.out] at hown ⊢
  have hB2 := Lib.hid (hx0.out.below hq hx0.out.lt)
  have hZ2 := Lib.hid (hz0.out.below hq hz0.out.lt)
  have hb2 := Lib.hid (hb0.out.trans (hq.mono hb0.out.size))
  have hgw : Hid (w.heap.size + 1 < g) := by show w.heap.size + 1 < g; have := (hown.grown_base hl.out.symm).1; simp at this; omega
  have hrow2 := Lib.hid (hown.mono hb0.out.size)
  clear hq hown hcl hx0 hz0 hb0 k0 k1 k2 k3
  obtain ⟨k0, k1, k2, k3, z0, z1, z2, z3⟩ := cells4z (w2) (w.heap.size) (Value.int .i64 primary) (Value.int .i64 view) (Value.int .i64 commit) (Value.slice A n c) (hB2.out)
  have hg2 : Hid (w2.grownBy (w2.setCell ⟨w.heap.size, 3, none⟩ (Value.slice (some ⟨g, 0, none⟩) n cap)) (some w.heap.size)) := only_set (World.grownBy.refl _ _) _ _
  have hB3 := Lib.hid (hB2.out.set_ 3 (Value.slice (some ⟨g, 0, none⟩) n cap))
  have hZ3 := Lib.hid (hZ2.out.grown hg2.out (by intro e; injection e with e; omega))
  have hrow3 := Lib.hid (hrow2.out.grownO hg2.out (.inr (by intro e; simp [Value.ownBlock] at e; have := hgw.out; omega)))
  have hb3 := Lib.hid (below_set hb2.out (Nat.le_refl _) 3 (Value.slice (some ⟨g, 0, none⟩) n cap))
  obtain ⟨m0, m1, m2, m3⟩ := cells4 ((w2.setCell ⟨w.heap.size, 3, none⟩ (Value.slice (some ⟨g, 0, none⟩) n cap))) (w.heap.size) (Value.int .i64 primary) (Value.int .i64 view) (Value.int .i64 commit) (Value.slice (some ⟨g, 0, none⟩) n cap) (hB3.out)
  clear hg2 hB2 hZ2 hrow2 hb2
  go_wp2_with fail
  clear k0 k1 k2 k3 z0 z1 z2 z3 m0 m1 m2 m3
  generalize w2.setCell ⟨w.heap.size, 3, none⟩ (Value.slice (some ⟨g, 0, none⟩) n cap) = w3 at *
  go_loopw [12] (fun i wr => ∃ (k : Nat) (D : List Sm), k ≤ n ∧ i = .int .i64 k ∧ Hid (LOwn svC 3 47 wr w.heap.size (.slice (some ⟨g, 0, none⟩) n cap) (D ++ sl.drop k)) ∧ Hid (∀ s ∈ D, SmAt wr (fun b => w.heap.size + 2 ≤ b ∧ b ≠ g) s) ∧ Hid (D.map Sm.val = (sl.take k).map Sm.val) ∧ Hid (D.length = k) ∧ Hid (Blk wr w.heap.size 24 #[Value.int .i64 primary, Value.int .i64 view, Value.int .i64 commit, Value.slice (some ⟨g, 0, none⟩) n cap]) ∧ Hid (Blk wr (w.heap.size + 1) 24 #[Value.int .i64 0, Value.int .i64 0, Value.int .i64 0, Value.slice none 0 0]) ∧ Hid (Below w.heap.size w wr)) (fun i _ => n - (intOf i).toNat)
  case atStart => exact ⟨0, [], Nat.zero_le _, rfl, hrow3.out, fun s hs => by simp at hs, rfl, rfl, hB3.out, hZ3.out, hb3.out⟩
  case round =>
    clear hB3 hZ3 hrow3 hb3
    obtain ⟨k, D, hkn, rfl, hrow, hD, hDv, hDl, hB, hZ, hb⟩ := hrel
    by_cases hlt : k < n
    · have hkl : k < sl.length := by have := hl.out; omega
      have hk0 : (0 : Int) ≤ k := by omega
      have hk1 : (k : Int) < n := by omega
      have hLn : Hid ((D ++ sl.drop k).length = n) := by show _ = _; rw [List.length_append, List.length_drop, hDl.out, hl.out]; omega
      have hkL : Hid (k < (D ++ sl.drop k).length) := by show _ < _; rw [hLn.out]; exact hlt
      obtain ⟨x, hx⟩ : ∃ x, x = sl[k] := ⟨_, rfl⟩
      have hLk : Hid ((D ++ sl.drop k)[k]'hkL.out = x) := by
        show _ = _
        rw [List.getElem_append_right (by rw [hDl.out]; exact Nat.le_refl _)]
        simp [hDl.out, hx]
      have hset : Hid (∀ y : Sm, (D ++ sl.drop k).set k y = (D ++ [y]) ++ sl.drop (k + 1)) := fun y => by
        rw [List.set_append_right _ _ (by rw [hDl.out]; exact Nat.le_refl _), hDl.out, Nat.sub_self, List.drop_eq_getElem_cons hkl, List.set_cons_zero, List.append_assoc]
        rfl
      have hDk : Hid ((sl.take (k + 1)).map Sm.val = (sl.take k).map Sm.val ++ [x.val]) := by show _ = _; rw [List.take_succ_eq_append_getElem hkl, List.map_append, hx]; rfl
      have hxs := Lib.hid ((hcm.out.els x (by rw [hx]; exact List.getElem_mem hkl)).more hb.out)
      have hxm := Lib.hid (hsm.out x (by rw [hx]; exact List.getElem_mem hkl))
      clear hx
      obtain ⟨xu, xv, xA, xn, xc, xl⟩ := x
      obtain ⟨e0, e1, e2⟩ := (show wr.cell? ⟨g, k * 3, none⟩ = some (Value.bool xu) ∧ wr.cell? ⟨g, k * 3 + 1, none⟩ = some (Value.int .i64 xv) ∧ wr.cell? ⟨g, k * 3 + 2, none⟩ = some (Value.slice xA xn xc) from by
        refine ⟨?_, ?_, ?_⟩
        · have := hrow.out.cellAt hLn.out.symm (k := k) hkL.out (j := 0) (by decide); rw [hLk.out] at this; exact this
        · have := hrow.out.cellAt hLn.out.symm (k := k) hkL.out (j := 1) (by decide); rw [hLk.out] at this; exact this
        · have := hrow.out.cellAt hLn.out.symm (k := k) hkL.out (j := 2) (by decide); rw [hLk.out] at this; exact this)
      have hbx : Hid (Below wr.heap.size wr (wr.alloc (.cells #[Value.bool xu, Value.int .i64 xv, Value.slice xA xn xc] 47))) := a1 wr _
      have hrowX := Lib.hid (hrow.out.kept hbx.out)
      have hBX := Lib.hid (hB.out.below hbx.out hB.out.lt)
      have hZX := Lib.hid (hZ.out.below hbx.out hZ.out.lt)
      have hbX := Lib.hid (hb.out.trans (hbx.out.mono hb.out.size))
      have hDX : Hid (∀ s ∈ D, SmAt (wr.alloc (.cells #[Value.bool xu, Value.int .i64 xv, Value.slice xA xn xc] 47)) (fun b => w.heap.size + 2 ≤ b ∧ b ≠ g) s) := fun s hs => (hD.out s hs).more hbx.out
      have hgX : Hid (g < (wr.alloc (.cells #[Value.bool xu, Value.int .i64 xv, Value.slice xA xn xc] 47)).heap.size) := (hrowX.out.grown_base hLn.out.symm).2
      have hy := Lib.hid (Blk.new wr 47 #[Value.bool xu, Value.int .i64 xv, Value.slice xA xn xc])
      have hcell : Hid (∀ wz, Below (wr.alloc (.cells #[Value.bool xu, Value.int .i64 xv, Value.slice xA xn xc] 47)).heap.size (wr.alloc (.cells #[Value.bool xu, Value.int .i64 xv, Value.slice xA xn xc] 47)) wz → wz.cell? ⟨w.heap.size, 3, none⟩ = some (Value.slice (some ⟨g, 0, none⟩) n cap) ∧ wz.cell? ⟨wr.heap.size, 2, none⟩ = some (Value.slice xA xn xc)) := fun wz hz => ⟨(hBX.out.below hz hBX.out.lt).cell 3, (hy.out.below hz hy.out.lt).cell 2⟩
      have hcl : Hid (∀ wz, Below (wr.alloc (.cells #[Value.bool xu, Value.int .i64 xv, Value.slice xA xn xc] 47)).heap.size (wr.alloc (.cells #[Value.bool xu, Value.int .i64 xv, Value.slice xA xn xc] 47)) wz → Calls Try.prog 42 #[.slice xA xn xc] wz fun e w' => CopyRes wz w' xn xl e ∧ Below wz.heap.size wz w') := fun wz hz => copyLog_any xA xn xc xl wz (SmAt.more (SmAt.more hxs.out hbx.out) hz) hxm.out.1 hxm.out.2
      obtain ⟨lv, hlv⟩ : ∃ lv, xl.map Em.val = lv := ⟨_, rfl⟩
      have hxl : Hid (xl.length = xn) := hxs.out.len
      replace hlv := Lib.hid hlv
      replace hset := Lib.hid hset.out
      clear hrow hB hZ hb hD hbx hxs hxm hy
      go_wp2_with fail
      clear e0 e1 e2
      refine RUZ.region [] [] 8 (F := F54 w.heap.size wr.heap.size g n cap k xn xc (wr.alloc (.cells #[Value.bool xu, Value.int .i64 xv, Value.slice xA xn xc] 47)).heap.size xA lv) (W := fun wz => Below (wr.alloc (.cells #[Value.bool xu, Value.int .i64 xv, Value.slice xA xn xc] 47)).heap.size (wr.alloc (.cells #[Value.bool xu, Value.int .i64 xv, Value.slice xA xn xc] 47)) wz) (R := fun _ => Rb) rfl F54_more (by kernel_rfl) (by kernel_rfl) (by kernel_rfl) (by kernel_rfl) (by kernel_rfl) (by kernel_rfl) ?_ ?_ ?_ ?_
      · exact (Below.refl _ _).drew
      · intro t ht
        unfold F54
        split <;> first | trivial | exact rfl | (exact absurd ht (by decide))
      · intro i o hi ho
        have hcs : i = 0 ∨ i = 1 ∨ i = 2 ∨ i = 3 ∨ i = 4 ∨ i = 5 ∨ i = 6 ∨ i = 7 := by omega
        rcases hcs with rfl | rfl | rfl | rfl | rfl | rfl | rfl | rfl <;> (injection ho with ho; subst ho)
        · intro a w2 hw _ hf K hK
          have f0 := hf 1 rfl
          simp only [F54] at f0
          clear hf
          go_simp
          exact hK _ _ _ rfl rfl hw (Below.refl _ _) (fun h => absurd h (by decide))
        · intro a w2 hw _ hf K hK
          have f0 := hf 17 rfl
          simp only [F54] at f0
          clear hf
          have e := (hcell.out w2 hw).1
          go_simp
          exact hK _ _ _ rfl rfl hw (Below.refl _ _) (fun h => absurd h (by decide))
        · intro a w2 hw _ hf K hK
          have f0 := hf 3 rfl
          simp only [F54] at f0
          clear hf
          go_simp
          exact hK _ _ _ rfl rfl hw (Below.refl _ _) (fun h => absurd h (by decide))
        · intro a w2 hw _ hf K hK
          have f0 := hf 4 rfl
          simp only [F54] at f0
          clear hf
          go_simp
          exact hK _ _ _ rfl rfl hw (Below.refl _ _) (fun h => absurd h (by decide))
        · intro a w2 hw _ hf K hK
          have f0 := hf 20 rfl
          simp only [F54] at f0
          clear hf
          have e := (hcell.out w2 hw).2
          go_simp
          exact hK _ _ _ rfl rfl hw (Below.refl _ _) (fun h => absurd h (by decide))
        · intro a w2 hw _ hf K hK
          have f0 := hf 21 rfl
          simp only [F54] at f0
          clear hf
          go_simp
          refine (hcl.out w2 hw).mono ?_; rintro e w5 ⟨⟨g5, l5, rfl, ho5, he5, hv5⟩, hbq⟩
          exact hK _ _ _ rfl ⟨some ⟨g5, 0, none⟩, xn + 1, l5, rfl, (LogAt.of_own ho5 (by have := congrArg List.length hv5; rw [List.length_map, List.length_map] at this; rw [this]; exact hxl.out) (fun e he => (he5 e he).imp (fun b hb => hb.1))).imp (fun b hb => Nat.le_trans hw.size hb), hv5.trans hlv.out⟩ (hw.trans (hbq.mono hw.size)) hbq (fun h => absurd h (by decide))
        · intro a w2 hw _ hf K hK
          have f0 := hf 18 rfl
          have f1 := hf 19 rfl
          simp only [F54] at f0 f1
          clear hf
          go_simp
          exact hK _ _ _ rfl (by show _ = _; first | rfl | rw [add_row]) hw (Below.refl _ _) (fun h => absurd h (by decide))
        · intro a w2 hw _ hf K hK
          have f0 := hf 23 rfl
          simp only [F54] at f0
          clear hf
          go_simp
          exact hK _ _ _ rfl rfl hw (Below.refl _ _) (fun h => absurd h (by decide))
      · intro a' w9 hd hs hw hout hf
        have h22 := hf 5 22 (by decide) rfl rfl
        simp only [F54] at h22
        have h24 := hf 7 24 (by decide) rfl rfl
        simp only [F54] at h24
        have e0 := hout 0 rfl
        have e1 := hout 1 rfl
        have e2 := hout 2 rfl
        have e3 := hout 3 rfl
        have e4 := hout 4 rfl
        have e5 := hout 5 rfl
        have e6 := hout 6 rfl
        have e7 := hout 7 rfl
        have e8 := hout 8 rfl
        have e9 := hout 9 rfl
        have e10 := hout 10 rfl
        have e11 := hout 11 rfl
        have e12 := hout 12 rfl
        have e26 := hout 26 rfl
        simp only [List.getElem?_toArray, List.getElem?_cons_succ, List.getElem?_cons_zero] at e0 e1 e2 e3 e4 e5 e6 e7 e8 e9 e10 e11 e12 e26
        obtain ⟨tm, df⟩ := a'
        simp only at hd hs h22 h24 e0 e1 e2 e3 e4 e5 e6 e7 e8 e9 e10 e11 e12 e26
        have e := F54_lit tm hs
        simp only [h24, e0, e1, e2, e3, e4, e5, e6, e7, e8, e9, e10, e11, e12, e26, Option.getD_some] at e
        clear hf hout hs
        rw [e, hd]
        clear e hd h24 e0 e1 e2 e3 e4 e5 e6 e7 e8 e9 e10 e11 e12 e26
        generalize tm[22]?.getD undef = u22x at h22 ⊢
        generalize tm[13]?.getD undef = u13x, tm[14]?.getD undef = u14x, tm[15]?.getD undef = u15x, tm[16]?.getD undef = u16x, tm[17]?.getD undef = u17x, tm[18]?.getD undef = u18x, tm[19]?.getD undef = u19x, tm[20]?.getD undef = u20x, tm[21]?.getD undef = u21x, tm[23]?.getD undef = u23x, tm[25]?.getD undef = u25x
        obtain ⟨A9, c9, l9, rfl, hl9, hv9⟩ := h22
        have hrow9 := Lib.hid (hrowX.out.kept hw)
        have hB9 := Lib.hid (hBX.out.below hw hBX.out.lt)
        have hZ9 := Lib.hid (hZX.out.below hw hZX.out.lt)
        have hb9 : Hid (Below w.heap.size w w9) := hbX.out.trans (hw.mono hbX.out.size)
        have hD9 : Hid (∀ s ∈ D, SmAt w9 (fun b => w.heap.size + 2 ≤ b ∧ b ≠ g) s) := fun s hs => (hDX.out s hs).more hw
        replace hl9 := Lib.hid hl9
        replace hv9 := Lib.hid hv9
        clear hw hcell hcl hrowX hBX hZX hbX hDX
        have c5 : w9.cell? ⟨g, k * 3 + 2, none⟩ = some (Value.slice xA xn xc) := by
          rw [hrow9.out.cellAt hLn.out.symm (k := k) hkL.out (j := 2) (by decide), hLk.out]; rfl
        have z5 : w9.frozen? ⟨g, k * 3 + 2, none⟩ = false := hrow9.out.frozenAt hLn.out.symm _
        have hrow3 := (hrow9.out.storep hLn.out.symm (k := k) hkL.out (⟨xu, xv, A9, xn, c9, l9⟩ : Sm) 2 [Value.slice A9 xn c9] (by simp) (row_set hkL.out ⟨xu, xv, xA, xn, xc, xl⟩ _ 2 _ (by decide) hLk.out (by
          intro j hj h1
          have : j = 0 ∨ j = 1 := by omega
          rcases this with rfl | rfl <;> rfl) rfl)).1
        rw [hset.out] at hrow3
        replace hrow3 := Lib.hid hrow3
        have hg3 : Hid (w9.grownBy (w9.setCell ⟨g, k * 3 + 2, none⟩ (Value.slice A9 xn c9)) (some g)) := only_set (World.grownBy.refl _ _) _ _
        go_wp2_with fail
        go_roundw
        case rel =>
          refine ⟨k + 1, D ++ [(⟨xu, xv, A9, xn, c9, l9⟩ : Sm)], by omega, by go_num, hrow3.out, fun s hs => ?_, ?_, by rw [List.length_append, hDl.out]; rfl, hB9.out.grown hg3.out (by intro e; injection e with e; have := hgw.out; omega), hZ9.out.grown hg3.out (by intro e; injection e with e; have := hgw.out; omega), hb9.out.grown hg3.out hb9.out.size (fun g8 e8 => by injection e8 with e8; have := hgw.out; omega)⟩
          · rcases List.mem_append.1 hs with hs | hs
            · exact (hD9.out s hs).st hg3.out (fun b hb e => by injection e with e; exact hb.2 e)
            · simp at hs
              subst hs
              show SmAt _ (fun b => w.heap.size + 2 ≤ b ∧ b ≠ g) (⟨xu, xv, A9, xn, c9, l9⟩ : Sm)
              refine LogAt.imp (LogAt.st hl9.out hg3.out (fun b hb e => ?_)) (fun b hb => ?_)
              · injection e with e; subst e; have := hgX.out; omega
              · have := hgX.out; have := hgw.out; exact ⟨by omega, by omega⟩
          · show _ = _
            rw [hDk.out, List.map_append, hDv.out]
            show _ ++ [Sv.mk xu xv (l9.map Em.val)] = _
            rw [hv9.out, ← hlv.out]
            rfl
        case measure => simp [intOf]; omega
    · have hk : k = n := by omega
      subst hk
      have hdr : sl.drop k = [] := List.drop_eq_nil_of_le (by have := hl.out; omega)
      have htk : sl.take k = sl := List.take_of_length_le (by have := hl.out; omega)
      rw [hdr, List.append_nil] at hrow
      rw [htk] at hDv
      clear hdr htk
      obtain ⟨k0, k1, k2, k3⟩ := cells4 (wr) (w.heap.size) (Value.int .i64 primary) (Value.int .i64 view) (Value.int .i64 commit) (Value.slice (some ⟨g, 0, none⟩) k cap) (hB.out)
      obtain ⟨u0, u1, u2, u3, z0, z1, z2, z3⟩ := cells4z (wr) ((w.heap.size + 1)) (Value.int .i64 0) (Value.int .i64 0) (Value.int .i64 0) (Value.slice none 0 0) (hZ.out)
      go_wp2_with fail
      (try simp only [Exit.inBlock, Exit.then])
      have hBF := cl_set4 hZ.out (Value.int .i64 primary) (Value.int .i64 view) (Value.int .i64 commit) (Value.slice (some ⟨g, 0, none⟩) k cap)
      have hbF := below_set4 hb.out (Nat.le_succ _) (Value.int .i64 primary) (Value.int .i64 view) (Value.int .i64 commit) (Value.slice (some ⟨g, 0, none⟩) k cap)
      have hgF := grown_set4 wr (w.heap.size + 1) (Value.int .i64 primary) (Value.int .i64 view) (Value.int .i64 commit) (Value.slice (some ⟨g, 0, none⟩) k cap)
      refine bodyPost_ret (v := .agg #[Value.int .i64 primary, Value.int .i64 view, Value.int .i64 commit, Value.slice (some ⟨g, 0, none⟩) k cap]) ?_ rfl ?_
      · exact results_cell_row (h := rfl) _ _ (w.heap.size + 1) 24 _ (0, 0) _ rfl hBF Try.underlying24 rfl (by kernel_rfl)
      clear hBF
      exact ⟨⟨g, cap, D, rfl, hrow.out.grownO hgF (.inr (by intro e; simp [Value.ownBlock] at e; have := hgw.out; omega)), fun s hs => ((hD.out s hs).st hgF (fun b hb e => by injection e with e; have := hb.1; omega)).imp (fun b hb => ⟨Or.inr (by have := hb.1; omega), hb.2⟩), hDv.out⟩, hbF⟩
end Go.Proofs.Ytiapeenfggjpnaa
