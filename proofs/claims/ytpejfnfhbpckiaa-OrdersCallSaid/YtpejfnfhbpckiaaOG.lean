/- Orders: Close of both, moved, walked. -/
import Derived.Test.YtpejfnfhbpckiaaOD
set_option linter.unusedVariables false
set_option linter.unusedSimpArgs false
namespace Go.Proofs.Ytpejfnfhbpckiaa
open Go.RowKit Go.Proofs.Ytpejfnfhbpckiaa.Ord
/-- the value is a slice that reads as l; nothing that existed has changed -/
def OutV (w w' : World) (l : List O) (v : Value) : Prop := ∃ A n c, v = .slice A n c ∧ OAt w' w'.heap.size A n l ∧ n ≤ c ∧ c ≤ maxLen ∧ Below w.heap.size w w'
theorem OutV.same {w w' : World} {A : Option Addr} {n c : Nat} {l : List O} (h : OAt w w.heap.size A n l) (hc : n ≤ c) (hm : c ≤ maxLen) (hb : Below w.heap.size w w') : OutV w w' l (.slice A n c) := ⟨A, n, c, rfl, h.more hb, hc, hm, hb⟩
theorem OutV.own {w w' : World} {base : Nat} {v : Value} {l : List O} (h : OOwn w' base v l) (hb : Below w.heap.size w w') : OutV w w' l v := by
  obtain ⟨A, c, rfl, h1, h2, _, h3⟩ := h.form
  exact ⟨A, l.length, c, rfl, h3, h1, h2, hb⟩
theorem OutV.from_ {w w1 w' : World} {l : List O} {v : Value} (h : OutV w1 w' l v) (hb : Below w.heap.size w w1) : OutV w w' l v := by
  obtain ⟨A, n, c, rfl, h1, h2, h3, h4⟩ := h
  exact ⟨A, n, c, rfl, h1, h2, h3, hb.trans (h4.mono hb.size)⟩
theorem own_slots {w : World} {base g n c i : Nat} {l : List O} {x : O} (h : OOwn w base (.slice (some ⟨g, 0, none⟩) n c) l) (hn : l.length = n) (hi : i < l.length) (hx : l[i] = x) :
    w.cell? ⟨g, i * 7, none⟩ = some (.int .i64 x.id) ∧ w.cell? ⟨g, i * 7 + 1, none⟩ = some (.int .i64 x.conn) ∧ w.cell? ⟨g, i * 7 + 2, none⟩ = some (.string x.st) ∧ w.cell? ⟨g, i * 7 + 3, none⟩ = some (.int .i64 x.fr) ∧ w.cell? ⟨g, i * 7 + 4, none⟩ = some (.int .i64 x.tt) ∧ w.cell? ⟨g, i * 7 + 5, none⟩ = some (.int .i64 x.state) ∧ w.cell? ⟨g, i * 7 + 6, none⟩ = some (.int .i64 x.notes) ∧ w.frozen? ⟨g, i * 7, none⟩ = false ∧ w.frozen? ⟨g, i * 7 + 1, none⟩ = false ∧ w.frozen? ⟨g, i * 7 + 2, none⟩ = false ∧ w.frozen? ⟨g, i * 7 + 3, none⟩ = false ∧ w.frozen? ⟨g, i * 7 + 4, none⟩ = false ∧ w.frozen? ⟨g, i * 7 + 5, none⟩ = false ∧ w.frozen? ⟨g, i * 7 + 6, none⟩ = false := by
  have hc : ∀ j, j < 7 → w.cell? ⟨g, i * 7 + j, none⟩ = (oC x)[j]? := fun j hj => by rw [← hx]; exact h.cellAt hn.symm hi hj
  have hf : ∀ j, w.frozen? ⟨g, j, none⟩ = false := fun j => h.frozenAt hn.symm j
  exact ⟨hc 0 (by omega), hc 1 (by omega), hc 2 (by omega), hc 3 (by omega), hc 4 (by omega), hc 5 (by omega), hc 6 (by omega), hf _, hf _, hf _, hf _, hf _, hf _, hf _⟩
/-- the cells of the i-th order, in every world that keeps what is -/
theorem OAt.kept {w : World} {A : Option Addr} {n i : Nat} {l : List O} {x : O} (h : OAt w w.heap.size A n l) (hi : i < l.length) (hx : l[i] = x) : ∃ ad, A = some ad ∧ ad.block < w.heap.size ∧ ∀ wz, Below w.heap.size w wz → wz.cell? (ad.add (i * 7)) = some (.int .i64 x.id) ∧ wz.cell? ⟨(ad.add (i * 7)).block, (ad.add (i * 7)).off + 1, none⟩ = some (.int .i64 x.conn) ∧ wz.cell? ⟨(ad.add (i * 7)).block, (ad.add (i * 7)).off + 2, none⟩ = some (.string x.st) ∧ wz.cell? ⟨(ad.add (i * 7)).block, (ad.add (i * 7)).off + 3, none⟩ = some (.int .i64 x.fr) ∧ wz.cell? ⟨(ad.add (i * 7)).block, (ad.add (i * 7)).off + 4, none⟩ = some (.int .i64 x.tt) ∧ wz.cell? ⟨(ad.add (i * 7)).block, (ad.add (i * 7)).off + 5, none⟩ = some (.int .i64 x.state) ∧ wz.cell? ⟨(ad.add (i * 7)).block, (ad.add (i * 7)).off + 6, none⟩ = some (.int .i64 x.notes) := by
  have hin : i < n := by have := h.len; omega
  obtain ⟨ad, hA, hb, _⟩ := OAt.cell h hin
  refine ⟨ad, hA, hb, fun wz hz => ?_⟩
  obtain ⟨ad', hA', _, hc⟩ := OAt.cell (h.below hz (Nat.le_refl _)) hin
  rw [hA] at hA'
  cases hA'
  rw [← hx]
  exact hc
set_option maxRecDepth 100000 in
set_option maxHeartbeats 2000000 in
theorem close_ok (A : Option Addr) (l : List O) (n cap : Nat) (id : Int) (done : Bool) (w : World) (h : OAt w w.heap.size A n l) (hc : n ≤ cap) (hm : cap ≤ maxLen) (h1 : n ≤ 1000) (hno : ∀ o ∈ l, 0 ≤ o.notes)
    (i : Nat) (hi : i < l.length) (hid : idx id 0 l = i) (hs : l[i].state = 3 ∨ (done = false ∧ (l[i].state = 1 ∨ l[i].state = 2))) :
    Calls Try.prog 13 #[.slice A n cap, .int .i64 id, .bool done] w fun e w' => ∃ v, e = .returned (.tuple #[v, .int .i64 0]) ∧ OutV w w' (l.set i (enter l[i] (if done then 4 else 5))) v := by
  have hn := Lib.hid h.len
  have hin : i < n := by have := hn.out; omega
  have hi0 : (0 : Int) ≤ i := by omega
  have hi1 : (i : Int) < n := by omega
  have hno2 := Lib.hid (hno _ (List.getElem_mem hi))
  have hxl : Hid (l[i] = l[i]) := rfl
  obtain ⟨x, hx⟩ : ∃ x, l[i] = x := ⟨_, rfl⟩
  rw [hx] at hno2 hs
  try rw [hx]
  obtain ⟨ad, rfl, hbl, hk⟩ := h.kept hi hx
  replace hx := Lib.hid hx
  replace h := Lib.hid h
  replace hk := Lib.hid hk
  clear hno hxl
  replace hid := Lib.hid hid
  obtain ⟨x0, x1, x2, x3, x4, x5, x6⟩ := x
  simp only at hk hs hno2
  rcases hs with hs | ⟨rfl, hs | hs⟩
  · subst hs
    cases done
    · rw [if_neg (by simp)]
      go_enter Try.func13, Try.ntmps13
      go_wp2_with fail
      refine (indexO_any (some ad) l n cap id _ h.out (Nat.le_trans hc hm)).mono ?_; rintro e w1 ⟨rfl, hb1⟩
      rw [hid.out]
      obtain ⟨e0, e1, e2, e3, e4, e5, e6⟩ := hk.out _ hb1
      replace hb1 := Lib.hid hb1
      go_wp2_with fail
      refine (copied_any (some ad) l n cap _ (h.out.more hb1.out) h1).mono ?_; rintro e w2 ⟨rfl, ho2, hb2⟩
      clear e0 e1 e2 e3 e4 e5 e6
      replace hb2 : Hid (Below w.heap.size w w2) := hb1.out.trans (hb2.mono hb1.out.size)
      obtain ⟨e0, e1, e2, e3, e4, e5, e6⟩ := hk.out _ hb2.out
      replace ho2 := Lib.hid ho2
      go_wp2_with fail
      refine (enter_any ⟨x0, x1, x2, x3, x4, 3, x6⟩ 5 _ hno2.out).mono ?_; rintro e w3 ⟨rfl, hb3⟩
      have ho3 := Lib.hid (ho2.out.kept hb3)
      replace hb3 : Hid (Below w.heap.size w w3) := hb2.out.trans (hb3.mono hb2.out.size)
      clear e0 e1 e2 e3 e4 e5 e6
      generalize hye : enter ⟨x0, x1, x2, x3, x4, 3, x6⟩ 5 = y at *
      replace hye := Lib.hid hye
      have hyV : Hid (oV y = .agg #[.int .i64 y.id, .int .i64 y.conn, .string y.st, .int .i64 y.fr, .int .i64 y.tt, .int .i64 y.state, .int .i64 y.notes]) := rfl
      obtain ⟨y0, y1, y2, y3, y4, y5, y6⟩ := y
      rw [hyV.out]
      obtain ⟨c0, c1, c2, c3, c4, c5, c6, f0, f1, f2, f3, f4, f5, f6⟩ := own_slots ho3.out hn.out hi hx.out
      simp only at c0 c1 c2 c3 c4 c5 c6
      go_wp2_with fail
      obtain ⟨q1, q2⟩ := ho3.out.store hn.out.symm hi ⟨y0, y1, y2, y3, y4, y5, y6⟩
      have hg := (ho3.out.grown_base hn.out.symm).1
      go_ret2
      exact ⟨_, rfl, by rw [hye.out]; exact OutV.own q1 (below_grown hb3.out q2 (Nat.le_trans hb1.out.size hg))⟩
    · rw [if_pos rfl]
      go_enter Try.func13, Try.ntmps13
      go_wp2_with fail
      refine (indexO_any (some ad) l n cap id _ h.out (Nat.le_trans hc hm)).mono ?_; rintro e w1 ⟨rfl, hb1⟩
      rw [hid.out]
      obtain ⟨e0, e1, e2, e3, e4, e5, e6⟩ := hk.out _ hb1
      replace hb1 := Lib.hid hb1
      go_wp2_with fail
      refine (copied_any (some ad) l n cap _ (h.out.more hb1.out) h1).mono ?_; rintro e w2 ⟨rfl, ho2, hb2⟩
      clear e0 e1 e2 e3 e4 e5 e6
      replace hb2 : Hid (Below w.heap.size w w2) := hb1.out.trans (hb2.mono hb1.out.size)
      obtain ⟨e0, e1, e2, e3, e4, e5, e6⟩ := hk.out _ hb2.out
      replace ho2 := Lib.hid ho2
      go_wp2_with fail
      refine (enter_any ⟨x0, x1, x2, x3, x4, 3, x6⟩ 4 _ hno2.out).mono ?_; rintro e w3 ⟨rfl, hb3⟩
      have ho3 := Lib.hid (ho2.out.kept hb3)
      replace hb3 : Hid (Below w.heap.size w w3) := hb2.out.trans (hb3.mono hb2.out.size)
      clear e0 e1 e2 e3 e4 e5 e6
      generalize hye : enter ⟨x0, x1, x2, x3, x4, 3, x6⟩ 4 = y at *
      replace hye := Lib.hid hye
      have hyV : Hid (oV y = .agg #[.int .i64 y.id, .int .i64 y.conn, .string y.st, .int .i64 y.fr, .int .i64 y.tt, .int .i64 y.state, .int .i64 y.notes]) := rfl
      obtain ⟨y0, y1, y2, y3, y4, y5, y6⟩ := y
      rw [hyV.out]
      obtain ⟨c0, c1, c2, c3, c4, c5, c6, f0, f1, f2, f3, f4, f5, f6⟩ := own_slots ho3.out hn.out hi hx.out
      simp only at c0 c1 c2 c3 c4 c5 c6
      go_wp2_with fail
      obtain ⟨q1, q2⟩ := ho3.out.store hn.out.symm hi ⟨y0, y1, y2, y3, y4, y5, y6⟩
      have hg := (ho3.out.grown_base hn.out.symm).1
      go_ret2
      exact ⟨_, rfl, by rw [hye.out]; exact OutV.own q1 (below_grown hb3.out q2 (Nat.le_trans hb1.out.size hg))⟩
  · subst hs
    rw [if_neg (by simp)]
    go_enter Try.func13, Try.ntmps13
    go_wp2_with fail
    refine (indexO_any (some ad) l n cap id _ h.out (Nat.le_trans hc hm)).mono ?_; rintro e w1 ⟨rfl, hb1⟩
    rw [hid.out]
    obtain ⟨e0, e1, e2, e3, e4, e5, e6⟩ := hk.out _ hb1
    replace hb1 := Lib.hid hb1
    go_wp2_with fail
    refine (copied_any (some ad) l n cap _ (h.out.more hb1.out) h1).mono ?_; rintro e w2 ⟨rfl, ho2, hb2⟩
    clear e0 e1 e2 e3 e4 e5 e6
    replace hb2 : Hid (Below w.heap.size w w2) := hb1.out.trans (hb2.mono hb1.out.size)
    obtain ⟨e0, e1, e2, e3, e4, e5, e6⟩ := hk.out _ hb2.out
    replace ho2 := Lib.hid ho2
    go_wp2_with fail
    refine (enter_any ⟨x0, x1, x2, x3, x4, 1, x6⟩ 5 _ hno2.out).mono ?_; rintro e w3 ⟨rfl, hb3⟩
    have ho3 := Lib.hid (ho2.out.kept hb3)
    replace hb3 : Hid (Below w.heap.size w w3) := hb2.out.trans (hb3.mono hb2.out.size)
    clear e0 e1 e2 e3 e4 e5 e6
    generalize hye : enter ⟨x0, x1, x2, x3, x4, 1, x6⟩ 5 = y at *
    replace hye := Lib.hid hye
    have hyV : Hid (oV y = .agg #[.int .i64 y.id, .int .i64 y.conn, .string y.st, .int .i64 y.fr, .int .i64 y.tt, .int .i64 y.state, .int .i64 y.notes]) := rfl
    obtain ⟨y0, y1, y2, y3, y4, y5, y6⟩ := y
    rw [hyV.out]
    obtain ⟨c0, c1, c2, c3, c4, c5, c6, f0, f1, f2, f3, f4, f5, f6⟩ := own_slots ho3.out hn.out hi hx.out
    simp only at c0 c1 c2 c3 c4 c5 c6
    go_wp2_with fail
    obtain ⟨q1, q2⟩ := ho3.out.store hn.out.symm hi ⟨y0, y1, y2, y3, y4, y5, y6⟩
    have hg := (ho3.out.grown_base hn.out.symm).1
    go_ret2
    exact ⟨_, rfl, by rw [hye.out]; exact OutV.own q1 (below_grown hb3.out q2 (Nat.le_trans hb1.out.size hg))⟩
  · subst hs
    rw [if_neg (by simp)]
    go_enter Try.func13, Try.ntmps13
    go_wp2_with fail
    refine (indexO_any (some ad) l n cap id _ h.out (Nat.le_trans hc hm)).mono ?_; rintro e w1 ⟨rfl, hb1⟩
    rw [hid.out]
    obtain ⟨e0, e1, e2, e3, e4, e5, e6⟩ := hk.out _ hb1
    replace hb1 := Lib.hid hb1
    go_wp2_with fail
    refine (copied_any (some ad) l n cap _ (h.out.more hb1.out) h1).mono ?_; rintro e w2 ⟨rfl, ho2, hb2⟩
    clear e0 e1 e2 e3 e4 e5 e6
    replace hb2 : Hid (Below w.heap.size w w2) := hb1.out.trans (hb2.mono hb1.out.size)
    obtain ⟨e0, e1, e2, e3, e4, e5, e6⟩ := hk.out _ hb2.out
    replace ho2 := Lib.hid ho2
    go_wp2_with fail
    refine (enter_any ⟨x0, x1, x2, x3, x4, 2, x6⟩ 5 _ hno2.out).mono ?_; rintro e w3 ⟨rfl, hb3⟩
    have ho3 := Lib.hid (ho2.out.kept hb3)
    replace hb3 : Hid (Below w.heap.size w w3) := hb2.out.trans (hb3.mono hb2.out.size)
    clear e0 e1 e2 e3 e4 e5 e6
    generalize hye : enter ⟨x0, x1, x2, x3, x4, 2, x6⟩ 5 = y at *
    replace hye := Lib.hid hye
    have hyV : Hid (oV y = .agg #[.int .i64 y.id, .int .i64 y.conn, .string y.st, .int .i64 y.fr, .int .i64 y.tt, .int .i64 y.state, .int .i64 y.notes]) := rfl
    obtain ⟨y0, y1, y2, y3, y4, y5, y6⟩ := y
    rw [hyV.out]
    obtain ⟨c0, c1, c2, c3, c4, c5, c6, f0, f1, f2, f3, f4, f5, f6⟩ := own_slots ho3.out hn.out hi hx.out
    simp only at c0 c1 c2 c3 c4 c5 c6
    go_wp2_with fail
    obtain ⟨q1, q2⟩ := ho3.out.store hn.out.symm hi ⟨y0, y1, y2, y3, y4, y5, y6⟩
    have hg := (ho3.out.grown_base hn.out.symm).1
    go_ret2
    exact ⟨_, rfl, by rw [hye.out]; exact OutV.own q1 (below_grown hb3.out q2 (Nat.le_trans hb1.out.size hg))⟩
set_option maxRecDepth 100000 in
set_option maxHeartbeats 2000000 in
theorem close_bad (A : Option Addr) (l : List O) (n cap : Nat) (id : Int) (done : Bool) (w : World) (h : OAt w w.heap.size A n l) (hc : n ≤ cap) (hm : cap ≤ maxLen) (h1 : n ≤ 1000) (hno : ∀ o ∈ l, 0 ≤ o.notes)
    (i : Nat) (hi : i < l.length) (hid : idx id 0 l = i) (hs : l[i].state ≠ 3 ∧ (done = true ∨ (l[i].state ≠ 1 ∧ l[i].state ≠ 2))) :
    Calls Try.prog 13 #[.slice A n cap, .int .i64 id, .bool done] w fun e w' => ∃ v, e = .returned (.tuple #[v, .int .i64 10]) ∧ OutV w w' l v := by
  have hn := Lib.hid h.len
  have hin : i < n := by have := hn.out; omega
  have hi0 : (0 : Int) ≤ i := by omega
  have hi1 : (i : Int) < n := by omega
  have hno2 := Lib.hid (hno _ (List.getElem_mem hi))
  have hxl : Hid (l[i] = l[i]) := rfl
  obtain ⟨x, hx⟩ : ∃ x, l[i] = x := ⟨_, rfl⟩
  rw [hx] at hno2 hs
  try rw [hx]
  obtain ⟨ad, rfl, hbl, hk⟩ := h.kept hi hx
  replace hx := Lib.hid hx
  replace h := Lib.hid h
  replace hk := Lib.hid hk
  clear hno hxl
  replace hid := Lib.hid hid
  obtain ⟨x0, x1, x2, x3, x4, x5, x6⟩ := x
  simp only at hk hs hno2
  obtain ⟨hs3, hs⟩ := hs
  have d3 : (x5 != 3) = true := by simpa using hs3
  replace hs3 := Lib.hid hs3
  cases done
  · have hs' : x5 ≠ 1 ∧ x5 ≠ 2 := by simpa using hs
    have d1 : (x5 != 1) = true := by simpa using hs'.1
    have d2 : (x5 != 2) = true := by simpa using hs'.2
    clear hs hs'
    go_enter Try.func13, Try.ntmps13
    go_wp2_with fail
    refine (indexO_any (some ad) l n cap id _ h.out (Nat.le_trans hc hm)).mono ?_; rintro e w1 ⟨rfl, hb1⟩
    rw [hid.out]
    obtain ⟨e0, e1, e2, e3, e4, e5, e6⟩ := hk.out _ hb1
    replace hb1 := Lib.hid hb1
    go_wp2_with fail
    go_ret2
    exact ⟨_, rfl, OutV.same h.out hc hm hb1.out⟩
  · clear hs
    go_enter Try.func13, Try.ntmps13
    go_wp2_with fail
    refine (indexO_any (some ad) l n cap id _ h.out (Nat.le_trans hc hm)).mono ?_; rintro e w1 ⟨rfl, hb1⟩
    rw [hid.out]
    obtain ⟨e0, e1, e2, e3, e4, e5, e6⟩ := hk.out _ hb1
    replace hb1 := Lib.hid hb1
    go_wp2_with fail
    go_ret2
    exact ⟨_, rfl, OutV.same h.out hc hm hb1.out⟩
set_option maxRecDepth 100000 in
set_option maxHeartbeats 1000000 in
theorem close_none (A : Option Addr) (l : List O) (n cap : Nat) (id : Int) (done : Bool) (w : World) (h : OAt w w.heap.size A n l) (hc : n ≤ cap) (hm : cap ≤ maxLen) (hid : idx id 0 l = -1) :
    Calls Try.prog 13 #[.slice A n cap, .int .i64 id, .bool done] w fun e w' => ∃ v, e = .returned (.tuple #[v, .int .i64 8]) ∧ OutV w w' l v := by
  have h' := Lib.hid h
  replace h := Lib.hid h
  replace hid := Lib.hid hid
  go_enter Try.func13, Try.ntmps13
  go_wp2_with fail
  refine (indexO_any A l n cap id _ h'.out (Nat.le_trans hc hm)).mono ?_; rintro e w1 ⟨rfl, hb1⟩
  rw [hid.out]
  replace hb1 := Lib.hid hb1
  go_wp2_with fail
  go_ret2
  exact ⟨_, rfl, OutV.same h.out hc hm hb1.out⟩
set_option maxRecDepth 100000 in
set_option maxHeartbeats 1000000 in
theorem rclose_none (A : Option Addr) (l : List O) (n cap : Nat) (id : Int) (done : Bool) (w : World) (h : OAt w w.heap.size A n l) (hc : n ≤ cap) (hm : cap ≤ maxLen) (hid : idx id 0 l = -1) :
    Calls Try.prog 31 #[.slice A n cap, .int .i64 id, .bool done] w fun e w' => ∃ v, e = .returned (.tuple #[v, .int .i64 8]) ∧ OutV w w' l v := by
  have h' := Lib.hid h
  replace h := Lib.hid h
  replace hid := Lib.hid hid
  go_enter Try.func31, Try.ntmps31
  go_wp2_with fail
  refine (find_any A l n cap id _ h'.out (Nat.le_trans hc hm)).mono ?_; rintro e w1 ⟨rfl, hb1⟩
  rw [hid.out]
  replace hb1 := Lib.hid hb1
  go_wp2_with fail
  go_ret2
  exact ⟨_, rfl, OutV.same h.out hc hm hb1.out⟩
theorem close_any (A : Option Addr) (l : List O) (n cap : Nat) (id : Int) (done : Bool) (w : World) (h : OAt w w.heap.size A n l) (hc : n ≤ cap) (hm : cap ≤ maxLen) (h1 : n ≤ 1000) (hno : ∀ o ∈ l, 0 ≤ o.notes) :
    Calls Try.prog 13 #[.slice A n cap, .int .i64 id, .bool done] w fun e w' => ∃ v, e = .returned (.tuple #[v, .int .i64 (closeF l id done).2]) ∧ OutV w w' (closeF l id done).1 v := by
  rcases idx_bd id l 0 with ⟨hid, _⟩ | ⟨i, hi, hid, _⟩
  · have e : closeF l id done = (l, 8) := by
      unfold closeF
      split
      · rfl
      · rw [if_pos (by rw [hid]; decide)]
    rw [e]
    exact close_none A l n cap id done w h hc hm hid
  · have hid' : idx id 0 l = i := by simpa using hid
    have e : closeF l id done = if l[i].state ≠ 3 ∧ (done = true ∨ (l[i].state ≠ 1 ∧ l[i].state ≠ 2)) then (l, 10) else (l.set i (enter l[i] (if done then 4 else 5)), 0) := by
      unfold closeF
      rw [hid', Int.toNat_natCast, List.getElem?_eq_getElem hi]
      simp only
      rw [if_neg (by omega)]
    rw [e]
    split
    · rename_i hs
      exact close_bad A l n cap id done w h hc hm h1 hno i hi hid' hs
    · rename_i hs
      exact close_ok A l n cap id done w h hc hm h1 hno i hi hid' (by
        by_cases g : l[i].state = 3
        · exact .inl g
        · cases done
          · simp only [Bool.false_eq_true, false_or] at hs; exact .inr ⟨rfl, by omega⟩
          · exact absurd ⟨g, .inl rfl⟩ hs)
end Go.Proofs.Ytpejfnfhbpckiaa
