/- Certs: the issuer of an element of a chain. -/
import Derived.Test.YtiggpgeldigknaaCI
import Derived.Deep.RegionHeld3
set_option linter.unusedVariables false
set_option linter.unusedSimpArgs false
namespace Go.Proofs.Ytiggpgeldigknaa
open Go.RowKit
theorem blk_dr {w : World} {g : Nat} {t : TypeId} {cs : Array Value} (h : Blk w g t cs) : Blk w.drew g t cs := h
def rootP : Option Ct → Ct × Bool
  | none => (noCt, false)
  | some r => (r, true)
theorem resC_p (o : Option Ct) : resC o = .tuple #[.agg (ctC (rootP o).1).toArray, .bool (rootP o).2] := by cases o <;> rfl
def linkP (c b : Ct) : Ct × Bool := (b, b.ca && decide (b.subj = c.iss))
/-- the issuer of the element with an index -/
def issR (C R : List Ct) (rv : List Int) (now : Int) (i : Nat) : Ct × Bool :=
  if i + 1 = C.length then rootP (rootF rv (C.getD i noCt).iss now R) else linkP (C.getD i noCt) (C.getD (i + 1) noCt)
theorem getD_lt {α : Type} (l : List α) (d : α) {i : Nat} (h : i < l.length) : l.getD i d = l[i] := by simp [h]
set_option maxRecDepth 100000 in
set_option maxHeartbeats 4000000 in
theorem issuer_any (A A2 A3 : Option Addr) (n n2 n3 cp cp2 cp3 : Nat) (C R : List Ct) (rv : List Int) (i : Nat) (now : Int) (w : World) (hC : LAt ctC 8 w w.heap.size A n C) (h : LAt ctC 8 w w.heap.size A2 n2 R) (hV : LAt iC 1 w w.heap.size A3 n3 rv)
    (hn1 : n ≤ 1000) (hn2 : n2 ≤ 1000) (hn3 : n3 ≤ 1000) (hi : i < n) :
    Calls Try.prog 89 #[.slice A n cp, .int .i64 i, .agg #[Value.slice A2 n2 cp2, Value.slice A3 n3 cp3], .int .i64 now] w fun e w' => e = .returned (.tuple #[.agg (ctC (issR C R rv now i).1).toArray, .bool (issR C R rv now i).2]) ∧ Below w.heap.size w w' := by
  have hn := Lib.hid hC.len
  have hk0 : (0 : Int) ≤ i := by omega
  have hk1 : (i : Int) < n := by omega
  go_enter Try.func89, Try.ntmps89
  have p0 := ((Blk.new w 59 #[Value.slice A2 n2 cp2, Value.slice A3 n3 cp3]).alloc (.cells #[Value.int .i64 0, Value.string ⟨#[]⟩, Value.string ⟨#[]⟩, Value.int .i64 0, Value.int .i64 0, Value.bool false, Value.int .u64 0, Value.int .u64 0] 52))
  have p1 := (Blk.new (w.alloc (.cells #[Value.slice A2 n2 cp2, Value.slice A3 n3 cp3] 59)) 52 #[Value.int .i64 0, Value.string ⟨#[]⟩, Value.string ⟨#[]⟩, Value.int .i64 0, Value.int .i64 0, Value.bool false, Value.int .u64 0, Value.int .u64 0])
  have hbw : Hid (Below w.heap.size w ((w.alloc (.cells #[Value.slice A2 n2 cp2, Value.slice A3 n3 cp3] 59)).alloc (.cells #[Value.int .i64 0, Value.string ⟨#[]⟩, Value.string ⟨#[]⟩, Value.int .i64 0, Value.int .i64 0, Value.bool false, Value.int .u64 0, Value.int .u64 0] 52))) := (((Below.refl _ w).alloc (Nat.le_refl _) _).alloc (by simp) _)
  rw [show (w.alloc (.cells #[Value.slice A2 n2 cp2, Value.slice A3 n3 cp3] 59)).heap.size = w.heap.size + 1 by simp] at p1
  have hC2 := hC.below hbw.out (Nat.le_refl _)
  have h2 := h.more hbw.out
  have hV2 := hV.more hbw.out
  by_cases hie : i + 1 = n
  · have hie2 : (n : Int) - 1 = i := by omega
    go_wp2_with fail
    generalize (w.alloc (.cells #[Value.slice A2 n2 cp2, Value.slice A3 n3 cp3] 59)).alloc (.cells #[Value.int .i64 0, Value.string ⟨#[]⟩, Value.string ⟨#[]⟩, Value.int .i64 0, Value.int .i64 0, Value.bool false, Value.int .u64 0, Value.int .u64 0] 52) = w2 at *
    clear h hV hC
    have hR : Hid (issR C R rv now i = rootP (rootF rv (C.getD i noCt).iss now R)) := by show _ = _; rw [issR, if_pos (by rw [hn.out]; exact hie)]
    obtain ⟨ad, hA, hadb, e0, e1, e2, e3, e4, e5, e6, e7⟩ := ct_cells hC2 hi
    subst hA
    have hgd : Hid (C.getD i noCt = C[i]'(by rw [hn.out]; exact hi)) := getD_lt _ _ (by rw [hn.out]; exact hi)
    rw [hgd.out] at hR
    clear hgd e0 e1 e3 e4 e5 e6 e7
    generalize hcis : (C[i]'(by rw [hn.out]; exact hi)).iss = cis at *
    clear hcis
    have hq := Lib.hid (fun wz (hb : Below w2.heap.size w2 wz) => croot_any A2 A3 n2 n3 cp2 cp3 R rv cis now wz (h2.more hb) (hV2.more hb) hn2 hn3)
    rw [resC_p] at hq
    generalize rootP (rootF rv cis now R) = yr at *
    obtain ⟨⟨s, sb, is_, f, t, ca, ky, sl⟩, ok⟩ := yr
    have hb2 : Hid (Below w2.heap.size w2 w2) := Below.refl _ _
    have kz : Hid (∀ wz, w2.grownBy wz (some (w.heap.size + 1)) → wz.cell? ⟨w.heap.size, 0, none⟩ = some (Value.slice A2 n2 cp2) ∧ wz.cell? ⟨w.heap.size, 1, none⟩ = some (Value.slice A3 n3 cp3) ∧ wz.cell? ⟨(ad.add (i * 8)).block, (ad.add (i * 8)).off + 2, none⟩ = some (Value.string cis)) := fun wz h => by
      have q := p0.grown h (by intro e; injection e; omega)
      exact ⟨q.cell 0, q.cell 1, World.grownBy.cell h e2 (by rw [add_block]; intro e; injection e with e; omega)⟩
    have kx : Hid (∀ wz, Below w2.heap.size w2 wz → wz.cell? ⟨w.heap.size + 1, 0, none⟩ = some (Value.int .i64 0) ∧ wz.cell? ⟨w.heap.size + 1, 1, none⟩ = some (Value.string ⟨#[]⟩) ∧ wz.cell? ⟨w.heap.size + 1, 2, none⟩ = some (Value.string ⟨#[]⟩) ∧ wz.cell? ⟨w.heap.size + 1, 3, none⟩ = some (Value.int .i64 0) ∧ wz.cell? ⟨w.heap.size + 1, 4, none⟩ = some (Value.int .i64 0) ∧ wz.cell? ⟨w.heap.size + 1, 5, none⟩ = some (Value.bool false) ∧ wz.cell? ⟨w.heap.size + 1, 6, none⟩ = some (Value.int .u64 0) ∧ wz.cell? ⟨w.heap.size + 1, 7, none⟩ = some (Value.int .u64 0) ∧ wz.frozen? ⟨w.heap.size + 1, 0, none⟩ = false ∧ wz.frozen? ⟨w.heap.size + 1, 1, none⟩ = false ∧ wz.frozen? ⟨w.heap.size + 1, 2, none⟩ = false ∧ wz.frozen? ⟨w.heap.size + 1, 3, none⟩ = false ∧ wz.frozen? ⟨w.heap.size + 1, 4, none⟩ = false ∧ wz.frozen? ⟨w.heap.size + 1, 5, none⟩ = false ∧ wz.frozen? ⟨w.heap.size + 1, 6, none⟩ = false ∧ wz.frozen? ⟨w.heap.size + 1, 7, none⟩ = false) := fun wz h => by
      have q := p1.below h p1.lt
      exact ⟨q.cell 0, q.cell 1, q.cell 2, q.cell 3, q.cell 4, q.cell 5, q.cell 6, q.cell 7, q.frozen 0, q.frozen 1, q.frozen 2, q.frozen 3, q.frozen 4, q.frozen 5, q.frozen 6, q.frozen 7⟩
    replace p1 := Lib.hid p1
    replace hq := hq.out
    dsimp only [ctC] at hq
    replace hq := Lib.hid hq
    replace h2 := Lib.hid h2
    replace hV2 := Lib.hid hV2
    replace hC2 := Lib.hid hC2
    clear hC2 p0 h2 hV2
    go_wp2_with fail
    go_region_held3 (fun wz => wz.cell? ⟨w.heap.size, 0, none⟩ = some (Value.slice A2 n2 cp2) ∧ wz.cell? ⟨w.heap.size, 1, none⟩ = some (Value.slice A3 n3 cp3) ∧ wz.cell? ⟨(ad.add (i * 8)).block, (ad.add (i * 8)).off + 2, none⟩ = some (Value.string cis))
      ((refine kz.out _ ?_; (repeat (first | (with_reducible refine only_set ?_ _ _) | (with_reducible refine only_drew ?_))); with_reducible exact only_of_below hb2.out _))
      (first
        | (go_at_call 104; refine (hq.out _ (below_dr (Below.refl _ _))).mono ?_; rintro e w3 ⟨rfl, hbq⟩; replace hb2 := Lib.hid ((below_dr (Below.refl _ _)).trans hbq); clear hbq; obtain ⟨z0, z1, z2, z3, z4, z5, z6, z7, g0, g1, g2, g3, g4, g5, g6, g7⟩ := kx.out _ hb2.out))
    go_wp2_with fail
    have pz := p1.out.below hb2.out p1.out.lt
    have hb3 := Lib.hid (hbw.out.trans (hb2.out.mono hbw.out.size))
    (try simp only [Exit.inBlock, Exit.then])
    have hB := ct_set8 (pz) (Value.int .i64 s) (Value.string sb) (Value.string is_) (Value.int .i64 f) (Value.int .i64 t) (Value.bool ca) (Value.int .u64 ky) (Value.int .u64 sl)
    refine bodyPost_ret (v := .tuple #[.agg #[Value.int .i64 s, Value.string sb, Value.string is_, Value.int .i64 f, Value.int .i64 t, Value.bool ca, Value.int .u64 ky, Value.int .u64 sl], .bool ok]) ?_ rfl ?_
    · refine (res2 (fn := Try.f89) (p := 8) (u := 9) (ty := 52) rfl _ _ (w.heap.size + 1) 52 _ (0, 0) _ ?_ hB Try.underlying52 rfl (by kernel_rfl)).trans ?_
      · rfl
      · rfl
    · refine ⟨by rw [hR.out]; rfl, ?_⟩
      clear hB
      repeat (first | (with_reducible refine below_set ?_ (by omega) _ _) | (with_reducible refine below_new ?_ _) | (with_reducible refine below_drewN ?_ _) | (with_reducible refine below_dr ?_))
      exact hb3.out
  · have hR : Hid (issR C R rv now i = linkP (C.getD i noCt) (C.getD (i + 1) noCt)) := by show _ = _; rw [issR, if_neg (by rw [hn.out]; exact hie)]
    have hi1 : i + 1 < n := by omega
    obtain ⟨ad, hA, hadb, e0, e1, e2, e3, e4, e5, e6, e7⟩ := ct_cells hC2 hi
    obtain ⟨ad2, hA2, _, d0, d1, d2, d3, d4, d5, d6, d7⟩ := ct_cells hC2 hi1
    subst hA
    cases hA2
    have hgd : Hid (C.getD i noCt = C[i]'(by rw [hn.out]; exact hi)) := getD_lt _ _ (by rw [hn.out]; exact hi)
    have hgd2 : Hid (C.getD (i + 1) noCt = C[i + 1]'(by rw [hn.out]; exact hi1)) := getD_lt _ _ (by rw [hn.out]; exact hi1)
    rw [hgd.out, hgd2.out] at hR
    clear hgd hgd2 e0 e1 e3 e4 e5 e6 e7
    generalize (C[i]'(by rw [hn.out]; exact hi)) = c0 at *
    generalize (C[i + 1]'(by rw [hn.out]; exact hi1)) = c1 at *
    obtain ⟨s, sb, is_, f, t, ca, ky, sl⟩ := c1
    have hi10 : (0 : Int) ≤ (i : Int) + 1 := by omega
    have hi11 : (i : Int) + 1 < n := by omega
    have hne : ((i : Int) == (n : Int) - 1) = false := by simp; omega
    have hi12 : (((i : Int) + 1).toNat) = i + 1 := by omega
    replace hR := Lib.hid hR
    clear h2 hV2 hC2
    have q0 : Hid (Below w.heap.size w (((w.alloc (.cells #[Value.slice A2 n2 cp2, Value.slice A3 n3 cp3] 59)).alloc (.cells #[Value.int .i64 0, Value.string ⟨#[]⟩, Value.string ⟨#[]⟩, Value.int .i64 0, Value.int .i64 0, Value.bool false, Value.int .u64 0, Value.int .u64 0] 52)).alloc (.cells #[Value.int .i64 s, Value.string sb, Value.string is_, Value.int .i64 f, Value.int .i64 t, Value.bool ca, Value.int .u64 ky, Value.int .u64 sl] 52))) := below_new hbw.out _
    have q1 := p1.alloc (.cells #[Value.int .i64 s, Value.string sb, Value.string is_, Value.int .i64 f, Value.int .i64 t, Value.bool ca, Value.int .u64 ky, Value.int .u64 sl] 52)
    have q2 := Blk.new ((w.alloc (.cells #[Value.slice A2 n2 cp2, Value.slice A3 n3 cp3] 59)).alloc (.cells #[Value.int .i64 0, Value.string ⟨#[]⟩, Value.string ⟨#[]⟩, Value.int .i64 0, Value.int .i64 0, Value.bool false, Value.int .u64 0, Value.int .u64 0] 52)) 52 #[Value.int .i64 s, Value.string sb, Value.string is_, Value.int .i64 f, Value.int .i64 t, Value.bool ca, Value.int .u64 ky, Value.int .u64 sl]
    rw [show ((w.alloc (.cells #[Value.slice A2 n2 cp2, Value.slice A3 n3 cp3] 59)).alloc (.cells #[Value.int .i64 0, Value.string ⟨#[]⟩, Value.string ⟨#[]⟩, Value.int .i64 0, Value.int .i64 0, Value.bool false, Value.int .u64 0, Value.int .u64 0] 52)).heap.size = w.heap.size + 1 + 1 by simp] at q2
    have e2 := cell_alloc e2 (.cells #[Value.int .i64 s, Value.string sb, Value.string is_, Value.int .i64 f, Value.int .i64 t, Value.bool ca, Value.int .u64 ky, Value.int .u64 sl] 52)
    clear p0 p1 hbw
    go_wp2_with fail
    generalize ((w.alloc (.cells #[Value.slice A2 n2 cp2, Value.slice A3 n3 cp3] 59)).alloc (.cells #[Value.int .i64 0, Value.string ⟨#[]⟩, Value.string ⟨#[]⟩, Value.int .i64 0, Value.int .i64 0, Value.bool false, Value.int .u64 0, Value.int .u64 0] 52)).alloc (.cells #[Value.int .i64 s, Value.string sb, Value.string is_, Value.int .i64 f, Value.int .i64 t, Value.bool ca, Value.int .u64 ky, Value.int .u64 sl] 52) = w3 at *
    have kx : w3.cell? ⟨w.heap.size + 1, 0, none⟩ = some (Value.int .i64 0) ∧ w3.cell? ⟨w.heap.size + 1, 1, none⟩ = some (Value.string ⟨#[]⟩) ∧ w3.cell? ⟨w.heap.size + 1, 2, none⟩ = some (Value.string ⟨#[]⟩) ∧ w3.cell? ⟨w.heap.size + 1, 3, none⟩ = some (Value.int .i64 0) ∧ w3.cell? ⟨w.heap.size + 1, 4, none⟩ = some (Value.int .i64 0) ∧ w3.cell? ⟨w.heap.size + 1, 5, none⟩ = some (Value.bool false) ∧ w3.cell? ⟨w.heap.size + 1, 6, none⟩ = some (Value.int .u64 0) ∧ w3.cell? ⟨w.heap.size + 1, 7, none⟩ = some (Value.int .u64 0) ∧ w3.frozen? ⟨w.heap.size + 1, 0, none⟩ = false ∧ w3.frozen? ⟨w.heap.size + 1, 1, none⟩ = false ∧ w3.frozen? ⟨w.heap.size + 1, 2, none⟩ = false ∧ w3.frozen? ⟨w.heap.size + 1, 3, none⟩ = false ∧ w3.frozen? ⟨w.heap.size + 1, 4, none⟩ = false ∧ w3.frozen? ⟨w.heap.size + 1, 5, none⟩ = false ∧ w3.frozen? ⟨w.heap.size + 1, 6, none⟩ = false ∧ w3.frozen? ⟨w.heap.size + 1, 7, none⟩ = false := ⟨q1.cell 0, q1.cell 1, q1.cell 2, q1.cell 3, q1.cell 4, q1.cell 5, q1.cell 6, q1.cell 7, q1.frozen 0, q1.frozen 1, q1.frozen 2, q1.frozen 3, q1.frozen 4, q1.frozen 5, q1.frozen 6, q1.frozen 7⟩
    obtain ⟨z0, z1, z2, z3, z4, z5, z6, z7, g0, g1, g2, g3, g4, g5, g6, g7⟩ := kx
    obtain ⟨k0, k1, k2, k3, k4, k5, k6, k7⟩ := (show w3.cell? ⟨w.heap.size + 1 + 1, 0, none⟩ = some (Value.int .i64 s) ∧ w3.cell? ⟨w.heap.size + 1 + 1, 1, none⟩ = some (Value.string sb) ∧ w3.cell? ⟨w.heap.size + 1 + 1, 2, none⟩ = some (Value.string is_) ∧ w3.cell? ⟨w.heap.size + 1 + 1, 3, none⟩ = some (Value.int .i64 f) ∧ w3.cell? ⟨w.heap.size + 1 + 1, 4, none⟩ = some (Value.int .i64 t) ∧ w3.cell? ⟨w.heap.size + 1 + 1, 5, none⟩ = some (Value.bool ca) ∧ w3.cell? ⟨w.heap.size + 1 + 1, 6, none⟩ = some (Value.int .u64 ky) ∧ w3.cell? ⟨w.heap.size + 1 + 1, 7, none⟩ = some (Value.int .u64 sl) from ⟨q2.cell 0, q2.cell 1, q2.cell 2, q2.cell 3, q2.cell 4, q2.cell 5, q2.cell 6, q2.cell 7⟩)
    have nb1 : ¬ (ad.add (i * 8)).block = w.heap.size + 1 := by rw [add_block]; omega
    have nb2 : ¬ w.heap.size + 1 = (ad.add (i * 8)).block := fun e => nb1 e.symm
    replace q1 := Lib.hid q1
    replace q2 := Lib.hid q2
    cases ca with
    | false =>
      go_region
      all_goals (go_wp2_with fail)
      (try simp only [Exit.inBlock, Exit.then])
      have hB := ct_set8 (q1.out) (Value.int .i64 s) (Value.string sb) (Value.string is_) (Value.int .i64 f) (Value.int .i64 t) (Value.bool false) (Value.int .u64 ky) (Value.int .u64 sl)
      replace hB := blk_dr hB
      refine bodyPost_ret (v := .tuple #[.agg #[Value.int .i64 s, Value.string sb, Value.string is_, Value.int .i64 f, Value.int .i64 t, Value.bool false, Value.int .u64 ky, Value.int .u64 sl], .bool false]) ?_ rfl ?_
      · refine (res2 (fn := Try.f89) (p := 8) (u := 9) (ty := 52) rfl _ _ (w.heap.size + 1) 52 _ (0, 0) _ ?_ hB Try.underlying52 rfl (by kernel_rfl)).trans ?_
        · rfl
        · rfl
      · refine ⟨by rw [hR.out]; rfl, ?_⟩
        clear hB
        repeat (first | (with_reducible refine below_set ?_ (by omega) _ _) | (with_reducible refine below_new ?_ _) | (with_reducible refine below_drewN ?_ _) | (with_reducible refine below_dr ?_))
        exact q0.out
    | true =>
      by_cases h1 : c0.iss = sb
      · subst h1
        go_region
        all_goals (go_wp2_with fail)
        (try simp only [Exit.inBlock, Exit.then])
        have hB := ct_set8 (q1.out) (Value.int .i64 s) (Value.string c0.iss) (Value.string is_) (Value.int .i64 f) (Value.int .i64 t) (Value.bool true) (Value.int .u64 ky) (Value.int .u64 sl)
        replace hB := blk_dr hB
        refine bodyPost_ret (v := .tuple #[.agg #[Value.int .i64 s, Value.string c0.iss, Value.string is_, Value.int .i64 f, Value.int .i64 t, Value.bool true, Value.int .u64 ky, Value.int .u64 sl], .bool true]) ?_ rfl ?_
        · refine (res2 (fn := Try.f89) (p := 8) (u := 9) (ty := 52) rfl _ _ (w.heap.size + 1) 52 _ (0, 0) _ ?_ hB Try.underlying52 rfl (by kernel_rfl)).trans ?_
          · rfl
          · rfl
        · refine ⟨by rw [hR.out]; simp [linkP, ctC], ?_⟩
          clear hB
          repeat (first | (with_reducible refine below_set ?_ (by omega) _ _) | (with_reducible refine below_new ?_ _) | (with_reducible refine below_drewN ?_ _) | (with_reducible refine below_dr ?_))
          exact q0.out
      · have h1 : ¬ sb = c0.iss := fun e => h1 e.symm
        have h1t := str_ne h1
        go_region
        all_goals (go_wp2_with fail)
        (try simp only [Exit.inBlock, Exit.then])
        have hB := ct_set8 (q1.out) (Value.int .i64 s) (Value.string sb) (Value.string is_) (Value.int .i64 f) (Value.int .i64 t) (Value.bool true) (Value.int .u64 ky) (Value.int .u64 sl)
        replace hB := blk_dr hB
        refine bodyPost_ret (v := .tuple #[.agg #[Value.int .i64 s, Value.string sb, Value.string is_, Value.int .i64 f, Value.int .i64 t, Value.bool true, Value.int .u64 ky, Value.int .u64 sl], .bool (sb.toList == c0.iss.toList)]) ?_ rfl ?_
        · refine (res2 (fn := Try.f89) (p := 8) (u := 9) (ty := 52) rfl _ _ (w.heap.size + 1) 52 _ (0, 0) _ ?_ hB Try.underlying52 rfl (by kernel_rfl)).trans ?_
          · rfl
          · rfl
        · refine ⟨by rw [show (sb.toList == c0.iss.toList) = false by simpa using h1t, hR.out]; simp [linkP, ctC, h1], ?_⟩
          clear hB
          repeat (first | (with_reducible refine below_set ?_ (by omega) _ _) | (with_reducible refine below_new ?_ _) | (with_reducible refine below_drewN ?_ _) | (with_reducible refine below_dr ?_))
          exact q0.out
end Go.Proofs.Ytiggpgeldigknaa
