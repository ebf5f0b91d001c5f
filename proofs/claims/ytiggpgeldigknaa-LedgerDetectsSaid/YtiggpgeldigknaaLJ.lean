/- Ledger: Since. -/
import Derived.Test.YtiggpgeldigknaaLH
import Derived.Test.YtiggpgeldigknaaRMI
set_option linter.unusedVariables false
set_option linter.unusedSimpArgs false
namespace Go.Proofs.Ytiggpgeldigknaa
open Go.RowKit Go.Shelf
attribute [local go_sem] Oper.semAt_some
def stepS (h : Int) (s : List Ln × Bool) (x : Ln) : List Ln × Bool := if s.2 then (s.1 ++ [x], true) else (s.1, x.sum == h)
def stS (h : Int) (l : List Ln) : List Ln × Bool := l.foldl (stepS h) ([], h == 0)
theorem stS_snoc (h : Int) (l : List Ln) (x : Ln) : stS h (l ++ [x]) = stepS h (stS h l) x := by simp [stS]
theorem foldS_true (h : Int) (l : List Ln) : ∀ r, l.foldl (stepS h) (r, true) = (r ++ l, true) := by
  induction l with
  | nil => intro r; simp
  | cons x l ih => intro r; rw [List.foldl_cons, show stepS h (r, true) x = (r ++ [x], true) from rfl, ih]; simp
theorem foldS_false (h : Int) (l : List Ln) : l.foldl (stepS h) ([], false) = (((l.dropWhile fun x => decide (x.sum ≠ h)).drop 1), l.any fun x => decide (x.sum = h)) := by
  induction l with
  | nil => rfl
  | cons x l ih =>
    rw [List.foldl_cons]
    by_cases hx : x.sum = h
    · rw [show stepS h ([], false) x = ([], true) by simp [stepS, hx], foldS_true]
      simp [hx]
    · rw [show stepS h ([], false) x = ([], false) by simp [stepS, hx], ih]
      simp [hx]
theorem stS_since (h : Int) (l : List Ln) : stS h l = sinceL l h := by
  unfold stS sinceL
  by_cases h0 : h = 0
  · rw [if_pos h0, show (h == 0) = true by simpa using h0, foldS_true]; simp
  · rw [if_neg h0, show (h == 0) = false by simpa using h0, foldS_false]
theorem stS_len (h : Int) (l : List Ln) : (stS h l).1.length ≤ l.length := by
  rw [stS_since]
  unfold sinceL
  split
  · simp
  · simp only [List.length_drop]
    have := (List.dropWhile_sublist (fun x : Ln => decide (x.sum ≠ h)) (l := l)).length_le
    omega
def F48 (s : Nat) (vv : Value) (f : Bool) : Tmp → Value → World → Prop
  | 4, v, _ => v = vv
  | 5, v, _ => v = .bool f
  | 6, v, _ => v = .pointer (some ⟨s + 1, 0, none⟩)
  | 7, v, _ => v = .pointer (some ⟨s + 1 + 1, 0, none⟩)
  | 25, v, _ => v = vv
  | 26, v, _ => v = .bool f
  | _, _, _ => True
theorem F48_more {s : Nat} {vv : Value} {f : Bool} (d t : Tmp) (v : Value) (w w' : World) (hR : Rb w w') (hne : t ≠ d) (hc : ([] : List (Tmp × Tmp)).contains (d, t) = false) (h : F48 s vv f t v w) : F48 s vv f t v w' := by
  unfold F48 at *
  split at h <;> first | exact h
theorem LOwn.grownr {α : Type} {f : α → List Value} {sz base : Nat} {e : TypeId} {w w' : World} {v : Value} {l : List α} {row : Option Nat} (h : LOwn f sz e w base v l) (hg : w.grownBy w' row) (hr : ∀ r, row = some r → r < base) : LOwn f sz e w' base v l :=
  ⟨h.1, World.ownsRow.kept h.2 hg (by
    cases e : v.ownBlock with
    | none => exact Or.inl rfl
    | some k => refine Or.inr (fun hk => ?_); have := (World.ownsRow.lt h.2 _ e).1; have := hr k hk.symm; omega)⟩
/-- a log and a bool that are handed back -/
def ResS (n : Nat) (r : List Ln × Bool) (e : Ending) (w' : World) : Prop := ∃ A' n' c', e = .returned (.tuple #[.slice A' n' c', .bool r.2]) ∧ LAt lnC 6 w' w'.heap.size A' n' r.1 ∧ n' ≤ n
/-- what the variables of Since hold between two rounds -/
structure IS (s : Nat) (w : World) (L : List Ln) (hd : Int) (k : Nat) (v : Value) (W : World) : Prop where
  h : Blk W s 50 #[Value.int .u64 hd]
  f : Blk W (s + 1) 4 #[Value.bool (stS hd (L.take k)).2]
  r : Blk W (s + 1 + 1) 62 #[v]
  o : LOwn lnC 6 67 W (s + 1 + 1 + 1 + 1 + 1 + 1 + 1) v (stS hd (L.take k)).1
  b : Below s w W
  z : s + 1 + 1 + 1 + 1 ≤ W.heap.size
theorem IS.step {s k : Nat} {w W W' : World} {L : List Ln} {hd : Int} {v : Value} {row : Option Nat} (i : IS s w L hd k v W) (hg : W.grownBy W' row) (hr : ∀ r, row = some r → s + 1 + 1 + 1 + 1 ≤ r ∧ r ≤ s + 1 + 1 + 1 + 1 + 2) : IS s w L hd k v W' := by
  have hne : ∀ b, b < s + 1 + 1 + 1 + 1 → some b ≠ row := fun b hb e => by have := hr b e.symm; omega
  exact ⟨i.h.grown hg (hne _ (by omega)), i.f.grown hg (hne _ (by omega)), i.r.grown hg (hne _ (by omega)), i.o.grownr hg (fun r e => by have := hr r e; omega), i.b.grown hg (by have := i.z; omega) (fun r e => by have := hr r e; omega), Nat.le_trans i.z hg.size⟩
set_option maxRecDepth 100000 in
set_option maxHeartbeats 8000000 in
theorem since_any (A : Option Addr) (n cp : Nat) (L : List Ln) (hd : Int) (w : World) (h : LAt lnC 6 w w.heap.size A n L) (hmx : n ≤ 1000) :
    Calls Try.prog 48 #[.slice A n cp, .int .u64 hd] w fun e w' => ResS n (sinceL L hd) e w' ∧ Below w.heap.size w w' := by
  rw [← stS_since]
  refine (callsIn_wide (n := 0)).1 ?_
  have hn := Lib.hid h.len
  obtain ⟨i0, hi0, hz0, hz1, hz2⟩ := info_parts ln_info
  replace hi0 := Lib.hid hi0
  replace hz0 := Lib.hid hz0
  replace hz1 := Lib.hid hz1
  replace hz2 := Lib.hid hz2
  obtain ⟨s, hs⟩ : ∃ s, s = w.heap.size := ⟨_, rfl⟩
  refine callsIn_of_wp_marks Try.func48 rfl trivial ?_ rfl
  simp only [Try.ntmps48, List.size_toArray, List.length_cons, List.length_nil, Nat.reduceAdd, Nat.reduceSub, Array.replicate_succ, Array.replicate_zero, List.push_toArray, List.append_toArray, List.nil_append, List.cons_append]
  have q0 := Blk.new w 50 #[Value.int .u64 hd]
  have q1 := Blk.new (w.alloc (.cells #[Value.int .u64 hd] 50)) 4 #[Value.bool (hd == 0)]
  have q2 := Blk.new ((w.alloc (.cells #[Value.int .u64 hd] 50)).alloc (.cells #[Value.bool (hd == 0)] 4)) 62 #[Value.slice none 0 0]
  have q3 := Blk.new (((w.alloc (.cells #[Value.int .u64 hd] 50)).alloc (.cells #[Value.bool (hd == 0)] 4)).alloc (.cells #[Value.slice none 0 0] 62)) 62 #[Value.slice A n cp]
  simp only [World.size_alloc] at q1 q2 q3
  rw [← hs] at q0 q1 q2 q3
  have p0 := Lib.hid (((q0.alloc (.cells #[Value.bool (hd == 0)] 4)).alloc (.cells #[Value.slice none 0 0] 62)).alloc (.cells #[Value.slice A n cp] 62))
  have p1 := Lib.hid ((q1.alloc (.cells #[Value.slice none 0 0] 62)).alloc (.cells #[Value.slice A n cp] 62))
  have p2 := Lib.hid (q2.alloc (.cells #[Value.slice A n cp] 62))
  have p3 := Lib.hid q3
  have hb : Hid (Below w.heap.size w ((((w.alloc (.cells #[Value.int .u64 hd] 50)).alloc (.cells #[Value.bool (hd == 0)] 4)).alloc (.cells #[Value.slice none 0 0] 62)).alloc (.cells #[Value.slice A n cp] 62))) := below_new (below_new (below_new (a1 w _) _) _) _
  clear q0 q1 q2 q3
  replace h := Lib.hid h
  have hs2 := Lib.hid hs
  gi_wp2
  refine ⟨trivial, rfl, (lines_any _ _ _ _).mono ?_⟩
  rintro e w' ⟨rfl, rfl⟩
  gi_wp2
  have hsz : Hid (((((w.alloc (.cells #[Value.int .u64 hd] 50)).alloc (.cells #[Value.bool (hd == 0)] 4)).alloc (.cells #[Value.slice none 0 0] 62)).alloc (.cells #[Value.slice A n cp] 62)).heap.size = s + 1 + 1 + 1 + 1) := by show _ = _; rw [hs]; simp
  rw [← hs]
  rw [← hs] at h hb
  generalize hw4 : (((w.alloc (.cells #[Value.int .u64 hd] 50)).alloc (.cells #[Value.bool (hd == 0)] 4)).alloc (.cells #[Value.slice none 0 0] 62)).alloc (.cells #[Value.slice A n cp] 62) = w4 at *
  clear hs hw4
  refine range_lines (s + 1 + 1 + 1) s n cp A L rfl rfl hmx (p3.out.cell 0) (h.out.below hb.out (Nat.le_refl _)) (by rw [hsz.out]; omega) (fun k W => ∃ v, IS s w L hd k v W) (fun _ => False) ?_ (fun _ _ _ h _ _ => h) ⟨_, p0.out, p1.out, p2.out, LOwn.nil lnC_len _ _, hb.out, by rw [hsz.out]; exact Nat.le_refl _⟩ ?_ ?_ (fun _ h => h.elim)
  · rintro k X Y row ⟨v, i⟩ hg hr
    exact ⟨v, i.step hg (by rw [hsz.out] at hr; exact hr)⟩
  · rintro k Wp ⟨v, hI⟩ hlt hbs
    have hkl : k < L.length := by have := hn.out; omega
    have hx : lnAt L k = L[k] := by unfold lnAt; rw [List.getD_eq_getElem?_getD, List.getElem?_eq_getElem hkl]; rfl
    have hst : stS hd (L.take (k + 1)) = stepS hd (stS hd (L.take k)) L[k] := by rw [List.take_succ_eq_append_getElem hkl, stS_snoc]
    have hlen : (stS hd (L.take k)).1.length ≤ 1000 := by have := stS_len hd (L.take k); rw [List.length_take] at this; omega
    rw [hx]
    rw [hsz.out] at hbs ⊢
    generalize hxk : L[k] = x at *
    generalize hpk : prevL L k = p at *
    obtain ⟨sq, at_, wh, wt, on, sm⟩ := x
    obtain ⟨sqp, at_p, whp, wtp, onp, smp⟩ := p
    unfold rowL
    dsimp only
    replace hst := Lib.hid hst
    replace hxk := Lib.hid hxk
    replace hpk := Lib.hid hpk
    replace hx := Lib.hid hx
    replace hbs := Lib.hid hbs
    have hIo := hI.o
    clear p0 p1 p2 p3 hb hsz h
    refine ⟨{ tmps := #[.slice A n cp, .int .u64 hd, undef, .pointer (some ⟨s, 0, none⟩), .slice none 0 0, .bool false, .pointer (some ⟨s + 1, 0, none⟩), .pointer (some ⟨s + 1 + 1, 0, none⟩), undef, .pointer (some ⟨Wp.heap.size + 1, 0, none⟩), .int .u64 hd, .bool (hd == 0), .slice A n cp, .func (.func 101) #[] #[.pointer (some ⟨s + 1 + 1 + 1, 0, none⟩)], .agg #[Value.int .i64 sqp, Value.int .i64 at_p, Value.string whp, Value.string wtp, Value.string onp, Value.int .u64 smp], .agg #[Value.int .i64 sq, Value.int .i64 at_, Value.string wh, Value.string wt, Value.string on, Value.int .u64 sm], undef, undef, undef, undef, undef, undef, undef, undef, undef, undef, undef], defers := [] }, (Wp.alloc (.cells #[Value.int .i64 sq, Value.int .i64 at_, Value.string wh, Value.string wt, Value.string on, Value.int .u64 sm] 67)).alloc (.cells #[Value.int .i64 sq, Value.int .i64 at_, Value.string wh, Value.string wt, Value.string on, Value.int .u64 sm] 67), fun K hK => ?_, ?_, fun W2 hI2 hg2 => ?_⟩
    · gi_wp2
      exact hK
    · exact a1 _ _
    have g0 : Wp.grownBy ((Wp.alloc (.cells #[Value.int .i64 sq, Value.int .i64 at_, Value.string wh, Value.string wt, Value.string on, Value.int .u64 sm] 67)).alloc (.cells #[Value.int .i64 sq, Value.int .i64 at_, Value.string wh, Value.string wt, Value.string on, Value.int .u64 sm] 67)) none := only_of_below (below_new (a1 Wp _) _) none
    have hJ := (hI.step g0 (fun r e => by cases e)).step hg2 (fun r e => by cases e; omega)
    have hz2 : (Wp.alloc (.cells #[Value.int .i64 sq, Value.int .i64 at_, Value.string wh, Value.string wt, Value.string on, Value.int .u64 sm] 67)).heap.size = Wp.heap.size + 1 := by simp
    have q9 := (Blk.new (Wp.alloc (.cells #[Value.int .i64 sq, Value.int .i64 at_, Value.string wh, Value.string wt, Value.string on, Value.int .u64 sm] 67)) 67 #[Value.int .i64 sq, Value.int .i64 at_, Value.string wh, Value.string wt, Value.string on, Value.int .u64 sm]).grown hg2 (by intro e; injection e with e; have := hbs.out; simp at e; omega)
    rw [hz2] at q9
    have hsW : W2.heap.size ≥ Wp.heap.size + 1 + 1 := by have := hg2.size; simp at this; omega
    have hvb : ∀ g, v.ownBlock = some g → s + 1 + 1 + 1 + 1 + 1 + 1 + 1 ≤ g ∧ g < Wp.heap.size := fun g e => World.ownsRow.lt hI.o.2 g e
    replace hI := Lib.hid hI
    replace hI2 := Lib.hid hI2
    obtain ⟨⟨r, f⟩, hrf⟩ : ∃ p, stS hd (L.take k) = p := ⟨_, rfl⟩
    obtain ⟨j0, j1, j2, j3, j4, j5⟩ := hJ
    rw [hrf] at j1 j3 hst hlen
    obtain ⟨x0, x1, x2, x3, x4, x5, h0, f0, r0, ff, fr⟩ := (show W2.cell? ⟨Wp.heap.size + 1, 0, none⟩ = some (Value.int .i64 sq) ∧ W2.cell? ⟨Wp.heap.size + 1, 1, none⟩ = some (Value.int .i64 at_) ∧ W2.cell? ⟨Wp.heap.size + 1, 2, none⟩ = some (Value.string wh) ∧ W2.cell? ⟨Wp.heap.size + 1, 3, none⟩ = some (Value.string wt) ∧ W2.cell? ⟨Wp.heap.size + 1, 4, none⟩ = some (Value.string on) ∧ W2.cell? ⟨Wp.heap.size + 1, 5, none⟩ = some (Value.int .u64 sm) ∧ W2.cell? ⟨s, 0, none⟩ = some (Value.int .u64 hd) ∧ W2.cell? ⟨s + 1, 0, none⟩ = some (Value.bool f) ∧ W2.cell? ⟨s + 1 + 1, 0, none⟩ = some v ∧ W2.frozen? ⟨s + 1, 0, none⟩ = false ∧ W2.frozen? ⟨s + 1 + 1, 0, none⟩ = false from ⟨q9.cell 0, q9.cell 1, q9.cell 2, q9.cell 3, q9.cell 4, q9.cell 5, j0.cell 0, j1.cell 0, j2.cell 0, j1.frozen 0, j2.frozen 0⟩)
    replace q9 := Lib.hid q9
    replace j0 := Lib.hid j0
    replace j1 := Lib.hid j1
    replace j2 := Lib.hid j2
    replace j3 := Lib.hid j3
    replace j4 := Lib.hid j4
    replace hsW := Lib.hid hsW
    replace hg2 := Lib.hid hg2
    replace hvb := Lib.hid hvb
    replace hrf := Lib.hid hrf
    replace hlen : r.length ≤ 1000 := hlen
    clear hz2 g0 hIo
    cases f with
    | true =>
      have hT : Hid (stS hd (L.take (k + 1)) = (r ++ [⟨sq, at_, wh, wt, on, sm⟩], true)) := by show _ = _; rw [hst.out]; rfl
      have hb6 := hbs.out
      have hsz2 := hsW.out
      have hnew : Hid (∀ (j : Nat) (u : Value), (lnC ⟨sq, at_, wh, wt, on, sm⟩)[j]? = some u → (W2.alloc (.cells #[Value.int .i64 sq, Value.int .i64 at_, Value.string wh, Value.string wt, Value.string on, Value.int .u64 sm] 67)).cell? ((⟨W2.heap.size, 0, none⟩ : Addr).add j) = some u) := by
        obtain ⟨ad, e, -, hc⟩ := (lit_at (e := 67) lnC_len W2 [(⟨sq, at_, wh, wt, on, sm⟩ : Ln)] #[Value.int .i64 sq, Value.int .i64 at_, Value.string wh, Value.string wt, Value.string on, Value.int .u64 sm] (by simp [flat, lnC])).2.2 (Nat.succ_pos _)
        injection e with e
        subst e
        exact fun j u hu => hc j u (by rw [flat_one]; exact hu)
      have honec : Hid (∀ u ∈ lnC ⟨sq, at_, wh, wt, on, sm⟩, u.oneCell' = true) := fun u hu => ln_one [⟨sq, at_, wh, wt, on, sm⟩] u (by rw [flat_one]; exact hu)
      gi_wp2_with (gi_at_builtin
                   refine wpListIn_append_own _ rfl (.tmp 17) (.tmp 19) _ rfl (s + 1 + 1 + 1 + 1 + 1 + 1 + 1) 67 i0 _ 6 72 Try.underlying62 hi0.out hz0.out hz1.out hz2.out rfl (by decide) v r.length (flat lnC r) rfl (j3.out.2.alloc (.cells #[Value.int .i64 sq, Value.int .i64 at_, Value.string wh, Value.string wt, Value.string on, Value.int .u64 sm] 67)) ⟨W2.heap.size, 0, none⟩ 1 1 (lnC ⟨sq, at_, wh, wt, on, sm⟩) rfl rfl hnew.out honec.out (by simp only [maxLen]; omega) (by omega) (by simp; omega) ?_
                   intro v' w1 hown1 hg1 hnil
                   obtain ⟨g', cap', rfl⟩ := ownsRow_succ hown1
                   have hne : ∀ b, b < s + 1 + 1 + 1 + 1 + 1 + 1 + 1 → some b ≠ v.ownBlock := fun b hb e => by have := hvb.out b e.symm; omega
                   have k0 := Lib.hid ((j0.out.alloc (.cells #[Value.int .i64 sq, Value.int .i64 at_, Value.string wh, Value.string wt, Value.string on, Value.int .u64 sm] 67)).grown hg1 (hne _ (by omega)))
                   have k1 := Lib.hid ((j1.out.alloc (.cells #[Value.int .i64 sq, Value.int .i64 at_, Value.string wh, Value.string wt, Value.string on, Value.int .u64 sm] 67)).grown hg1 (hne _ (by omega)))
                   have k2 := (j2.out.alloc (.cells #[Value.int .i64 sq, Value.int .i64 at_, Value.string wh, Value.string wt, Value.string on, Value.int .u64 sm] 67)).grown hg1 (hne _ (by omega))
                   have kc := k2.cell 0
                   have kf := k2.frozen 0
                   replace k2 := Lib.hid k2
                   replace hown1 := Lib.hid hown1
                   replace hg1 := Lib.hid hg1)
      have hL2 : LOwn lnC 6 67 w1 (s + 1 + 1 + 1 + 1 + 1 + 1 + 1) (.slice (some ⟨g', 0, none⟩) (r.length + 1) cap') (r ++ [⟨sq, at_, wh, wt, on, sm⟩]) := ⟨lnC_len, by have := hown1.out; rw [List.length_append, flat_append, flat_one]; exact this⟩
      have hz1' := hg1.out.size
      have hbel : Below s W2 w1 := ((Below.refl s W2).alloc (by have := j5; omega) _).grown hg1.out (by simp at hz1' ⊢; omega) (fun g e => by have := hvb.out g e; omega)
      refine ⟨⟨(Value.slice (some ⟨g', 0, none⟩) (r.length + 1) cap'), ?_⟩, ?_⟩
      · exact ⟨k0.out.far (p := ⟨s + 1 + 1, 0, none⟩) (by simp; try omega) (Value.slice (some ⟨g', 0, none⟩) (r.length + 1) cap'), by rw [hT.out]; exact k1.out.far (p := ⟨s + 1 + 1, 0, none⟩) (by simp) (Value.slice (some ⟨g', 0, none⟩) (r.length + 1) cap'), by have := k2.out.set_ 0 (Value.slice (some ⟨g', 0, none⟩) (r.length + 1) cap'); simpa using this, by rw [hT.out]; exact hL2.grownr (only_set (World.grownBy.refl w1 (some (s + 1 + 1))) 0 (Value.slice (some ⟨g', 0, none⟩) (r.length + 1) cap')) (fun r e => by cases e; omega), below_set (j4.out.trans hbel) (by omega) 0 (Value.slice (some ⟨g', 0, none⟩) (r.length + 1) cap'), by simp at hz1' ⊢; omega⟩
      · refine ⟨by simp at hz1' ⊢; omega, below_set hbel (by omega) 0 (Value.slice (some ⟨g', 0, none⟩) (r.length + 1) cap'), fun b hb => ?_⟩
        have h4 : s + 1 + 1 + 1 ≤ b ∧ b < W2.heap.size ∧ some b ≠ v.ownBlock := ⟨by omega, by omega, hb.elim (fun hb => hne b (by omega)) (fun e2 e => by subst e2; have := hvb.out _ e.symm; omega)⟩
        rw [Below.heap_setCell _ _ _ b (by show b ≠ s + 1 + 1; omega)]
        exact (hg1.out.block b (by simp; omega) h4.2.2).trans ((a1 W2 _).block b h4.2.1)
    | false =>
      have hT : Hid (stS hd (L.take (k + 1)) = (r, sm == hd)) := by show _ = _; rw [hst.out]; rfl
      have hb6 := hbs.out
      have hsz2 := hsW.out
      gi_wp2
      refine ⟨⟨v, ?_⟩, ?_⟩
      · exact ⟨j0.out.far (p := ⟨s + 1, 0, none⟩) (by simp) _, by rw [hT.out]; have := j1.out.set_ 0 (Value.bool (sm == hd)); simpa using this, j2.out.far (p := ⟨s + 1, 0, none⟩) (by simp; try omega) _, by rw [hT.out]; exact j3.out.grownr (only_set (World.grownBy.refl W2 _) 0 _) (fun r e => by cases e; omega), below_set j4.out (by omega) 0 _, by simp; omega⟩
      · refine ⟨by simp, below_set (Below.refl _ _) (by omega) 0 _, fun b hb => ?_⟩
        rw [Below.heap_setCell _ _ _ b (by show b ≠ s + 1; omega)]
  · rintro W ⟨v, hI⟩ hK
    obtain ⟨j0, j1, j2, j3, j4, j5⟩ := hI
    rw [List.take_of_length_le (Nat.le_of_eq hn.out)] at j1 j3
    have hlen := stS_len hd L
    rw [hn.out] at hlen
    obtain ⟨A', c', rfl, -, -, hbk, hL⟩ := j3.form
    generalize hf : (stS hd L).2 = f at *
    have hcell : Hid ((∀ wz, Below W.heap.size W wz → wz.cell? ⟨s + 1 + 1, 0, none⟩ = some (Value.slice A' (stS hd L).1.length c')) ∧ (∀ wz, Below W.heap.size W wz → wz.cell? ⟨s + 1, 0, none⟩ = some (Value.bool f))) := ⟨fun wz h => (j2.below h j2.lt).cell 0, fun wz h => (j1.below h j1.lt).cell 0⟩
    replace j0 := Lib.hid j0
    replace j1 := Lib.hid j1
    replace j2 := Lib.hid j2
    replace j3 := Lib.hid j3
    replace hL := Lib.hid hL
    replace hbk := Lib.hid hbk
    gi_wp2
    refine RMI.region [] [] (F := F48 s (.slice A' (stS hd L).1.length c') f) (W := fun wz => Below W.heap.size W wz) (R := fun _ => Rb) (S := noS) (G := noG) rfl F48_more (fun _ _ _ _ _ _ _ => trivial) (fun _ _ _ _ _ h => h.elim) (fun _ _ _ _ _ h => h.elim) (by kernel_rfl) (by kernel_rfl) (by kernel_rfl) (by kernel_rfl) (by kernel_rfl) ?_ ?_ ?_ (by kernel_rfl) (fun _ => trivial) ?_
    · exact (Below.refl _ _).drew
    · intro t ht
      unfold F48
      split <;> first | trivial | exact rfl | (exact absurd ht (by decide))
    · simp only [List.forall_mem_cons, List.not_mem_nil, false_implies, implies_true, and_true]
      refine ⟨?_, ?_, ?_, ?_⟩
      · intro a w2 hw _ hf K hK
        have f0 := hf 7 rfl
        simp only [F48] at f0
        clear hf
        have ki := hcell.out.1 w2 hw
        go_simp
        exact hK _ _ _ rfl rfl hw (Below.refl _ _) (fun h => absurd h (by decide))
      · intro a w2 hw _ hf K hK
        have f0 := hf 6 rfl
        simp only [F48] at f0
        clear hf
        have ki := hcell.out.2 w2 hw
        go_simp
        exact hK _ _ _ rfl rfl hw (Below.refl _ _) (fun h => absurd h (by decide))
      · intro a w2 hw _ hf K hK
        have f0 := hf 25 rfl
        simp only [F48] at f0
        clear hf
        go_simp
        exact hK _ _ _ rfl rfl hw (Below.refl _ _) (fun h => absurd h (by decide))
      · intro a w2 hw _ hf K hK
        have f0 := hf 26 rfl
        simp only [F48] at f0
        clear hf
        go_simp
        exact hK _ _ _ rfl rfl hw (Below.refl _ _) (fun h => absurd h (by decide))
    · intro a' w9 hd hs hw hout hf _
      have h4 := hf 4 rfl
      simp only [F48] at h4
      have h5 := hf 5 rfl
      simp only [F48] at h5
      obtain ⟨tm, df⟩ := a'
      simp only at hd hs h4 h5
      have e := lit_arr tm 27 hs
      rw [show (List.range 27).map (fun i => tm[i]?.getD undef) = [tm[0]?.getD undef, tm[1]?.getD undef, tm[2]?.getD undef, tm[3]?.getD undef, tm[4]?.getD undef, tm[5]?.getD undef, tm[6]?.getD undef, tm[7]?.getD undef, tm[8]?.getD undef, tm[9]?.getD undef, tm[10]?.getD undef, tm[11]?.getD undef, tm[12]?.getD undef, tm[13]?.getD undef, tm[14]?.getD undef, tm[15]?.getD undef, tm[16]?.getD undef, tm[17]?.getD undef, tm[18]?.getD undef, tm[19]?.getD undef, tm[20]?.getD undef, tm[21]?.getD undef, tm[22]?.getD undef, tm[23]?.getD undef, tm[24]?.getD undef, tm[25]?.getD undef, tm[26]?.getD undef] from rfl] at e
      simp only [h4, h5, Option.getD_some] at e
      clear hf hout hs
      rw [e, hd]
      clear e hd h4 h5
      generalize tm[0]?.getD undef = u0x
      generalize tm[1]?.getD undef = u1x
      generalize tm[2]?.getD undef = u2x
      generalize tm[3]?.getD undef = u3x
      generalize tm[6]?.getD undef = u6x
      generalize tm[7]?.getD undef = u7x
      generalize tm[8]?.getD undef = u8x
      generalize tm[9]?.getD undef = u9x
      generalize tm[10]?.getD undef = u10x
      generalize tm[11]?.getD undef = u11x
      generalize tm[12]?.getD undef = u12x
      generalize tm[13]?.getD undef = u13x
      generalize tm[14]?.getD undef = u14x
      generalize tm[15]?.getD undef = u15x
      generalize tm[16]?.getD undef = u16x
      generalize tm[17]?.getD undef = u17x
      generalize tm[18]?.getD undef = u18x
      generalize tm[19]?.getD undef = u19x
      generalize tm[20]?.getD undef = u20x
      generalize tm[21]?.getD undef = u21x
      generalize tm[22]?.getD undef = u22x
      generalize tm[23]?.getD undef = u23x
      generalize tm[24]?.getD undef = u24x
      generalize tm[25]?.getD undef = u25x
      generalize tm[26]?.getD undef = u26x
      have hkw := hw
      clear hcell hw
      gi_wp2
      have hK2 := (hkw.block _ (lt_of_heap hK)).trans hK
      refine ⟨by simp, .inl ⟨_, _, rfl, run_takeDeferred hK2, ?_⟩⟩
      have hg := grownBy_putObj' w9 w4.heap.size (.deferred none)
      have hF := (j3.out.kept hkw).grownr hg (fun r e => by cases e; have := hsz.out; omega)
      obtain ⟨A2, c2, e2, -, -, -, hL2⟩ := hF.form
      injection e2 with eA eN eC
      subst eA
      subst eC
      refine ⟨.tuple #[.slice A' (stS hd L).1.length c', .bool f], by simp [results, Try.results48, go_sem], ⟨A', _, c', by rw [hf], hL2, hlen⟩, ?_⟩
      · rw [← hs2.out]; exact (j4.trans (hkw.mono (by omega))).grown hg (by have := hkw.size; omega) (fun r e => by cases e; have := hsz.out; omega)
end Go.Proofs.Ytiggpgeldigknaa
