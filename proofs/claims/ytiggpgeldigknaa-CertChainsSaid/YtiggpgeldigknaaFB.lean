/- Fields: Put of both, walked. -/
import Derived.Test.YtiggpgeldigknaaFA
set_option linter.unusedVariables false
set_option linter.unusedSimpArgs false
namespace Go.Proofs.Ytiggpgeldigknaa
open Go.RowKit
/-- a field: its tag, where its data lie, and what they are -/
structure Fd where
  tag : Int
  A : Option Addr
  n : Nat
  c : Nat
  d : List UInt8
def fdC (f : Fd) : List Value := [.int .i64 f.tag, .slice f.A f.n f.c]
theorem fdC_len (f : Fd) : (fdC f).length = 2 := rfl
def put1 (f : Fd) : List UInt8 := enc (zig f.tag) ++ (enc (zig f.d.length) ++ f.d)
def putB (l : List Fd) : List UInt8 := l.flatMap put1
theorem putB_snoc (l : List Fd) (k : Nat) (h : k < l.length) : putB (l.take (k + 1)) = (putB (l.take k) ++ enc (zig l[k].tag)) ++ enc (zig l[k].d.length) ++ l[k].d := by
  unfold putB
  rw [List.take_succ_eq_append_getElem h, List.flatMap_append]
  simp only [List.flatMap_cons, List.flatMap_nil, put1, List.append_nil, List.append_assoc]
theorem putB_le (l : List Fd) (k : Nat) : (putB (l.take k)).length ≤ (putB l).length := by
  have e : putB l = putB (l.take k) ++ putB (l.drop k) := by
    unfold putB
    rw [← List.flatMap_append, List.take_append_drop]
  rw [e, List.length_append]; omega
theorem fd_cell {w : World} {B : Nat} {A : Option Addr} {n : Nat} {l : List Fd} (h : LAt fdC 2 w B A n l) {k : Nat} (hk : k < n) : ∃ ad, A = some ad ∧ ad.block < B ∧ w.cell? (ad.add (k * 2)) = some (.int .i64 (l[k]'(by rw [h.len]; exact hk)).tag) ∧
    w.cell? ⟨(ad.add (k * 2)).block, (ad.add (k * 2)).off + 1, none⟩ = some (.slice (l[k]'(by rw [h.len]; exact hk)).A (l[k]'(by rw [h.len]; exact hk)).n (l[k]'(by rw [h.len]; exact hk)).c) := by
  obtain ⟨ad, hA, hb, hc⟩ := h.at_ hk
  refine ⟨ad, hA, hb, hc 0 _ rfl, ?_⟩
  rw [← add_next ad (k * 2) 0]; exact hc 1 _ rfl
/-- the tag of the field before -/
def tagB (l : List Fd) (k : Nat) : Int := if k = 0 then 0 else ((l[k - 1]?).map (·.tag)).getD 0
theorem tagB_next (l : List Fd) (k : Nat) (h : k < l.length) : tagB l (k + 1) = l[k].tag := by simp [tagB, List.getElem?_eq_getElem h]
structure FdOk (l : List Fd) : Prop where
  few : l.length ≤ 256
  t1 : ∀ i (h : i < l.length), 1 ≤ l[i].tag ∧ l[i].tag ≤ 1000
  asc : ∀ i (h : i + 1 < l.length), (l[i]'(by omega)).tag < l[i + 1].tag
  len : (putB l).length ≤ 100000
theorem fdOk_d {l : List Fd} (h : FdOk l) (k : Nat) (hk : k < l.length) : l[k].d.length ≤ 100000 := by
  have := h.len
  have h2 := putB_le l (k + 1)
  rw [putB_snoc l k hk, List.length_append] at h2
  omega
theorem tagB_lt {l : List Fd} (h : FdOk l) (k : Nat) (hk : k < l.length) : tagB l k < l[k].tag := by
  unfold tagB
  split
  · have := (h.t1 k hk).1; omega
  · rename_i h0
    have := h.asc (k - 1) (by omega)
    simp only [show k - 1 + 1 = k by omega] at this
    simpa [List.getElem?_eq_getElem (show k - 1 < l.length by omega)] using this
set_option maxRecDepth 100000 in
set_option maxHeartbeats 4000000 in
theorem put_any (A : Option Addr) (l : List Fd) (n cap : Nat) (w : World) (h : LAt fdC 2 w w.heap.size A n l) (hd : ∀ f ∈ l, BAt w w.heap.size f.A f.n f.d) (hk : FdOk l) :
    Calls Try.prog 83 #[.slice A n cap] w fun e w' => ∃ v, e = .returned (.tuple #[v, .int .i64 0]) ∧ BOwn w' w.heap.size v (putB l) ∧ Below w.heap.size w w' := by
  obtain ⟨i0, hi0, hz0, hz1, hz2⟩ := info_parts byte_info
  have hn := Lib.hid h.len
  have hn1 : n ≤ 256 := by have := hk.few; have := hn.out; omega
  have hdd : decide ((256 : Int) < n) = false := by simp; omega
  replace h := Lib.hid h
  replace hd := Lib.hid hd
  replace hk := Lib.hid hk
  replace hi0 := Lib.hid hi0
  replace hz0 := Lib.hid hz0
  replace hz1 := Lib.hid hz1
  replace hz2 := Lib.hid hz2
  go_enter Try.func83, Try.ntmps83
  go_wp2_with fail
  go_loopw [4, 5, 13] (fun b p i wr => ∃ k : Nat, k ≤ n ∧ i = .int .i64 k ∧ p = .int .i64 (tagB l k) ∧ Hid (BOwn wr w.heap.size b (putB (l.take k))) ∧ Hid (Below w.heap.size w wr)) (fun _ _ i _ => n - (intOf i).toNat)
  case atStart => exact ⟨0, Nat.zero_le _, rfl, rfl, LOwn.nil bC_len _ _, Below.refl _ _⟩
  case round =>
    obtain ⟨k, hkn, rfl, rfl, ho, hb⟩ := hrel
    obtain ⟨A2, c2, rfl, hc2, hmx2, hA2, _⟩ := ho.out.form
    clear hA2
    by_cases hlt : k < n
    · have hkl : k < l.length := by rw [hn.out]; exact hlt
      have hk0 : (0 : Int) ≤ k := by omega
      have hk1 : (k : Int) < n := by omega
      have hsn := Lib.hid (putB_snoc l k hkl)
      have hle := Lib.hid (Nat.le_trans (putB_le l (k + 1)) hk.out.len)
      have htn := Lib.hid (tagB_next l k hkl)
      obtain ⟨ht1, ht2⟩ := hk.out.t1 k hkl
      have htb := tagB_lt hk.out k hkl
      have hdk := fdOk_d hk.out k hkl
      have hdat := Lib.hid (hd.out _ (List.getElem_mem hkl))
      obtain ⟨ad, hA, hbl, e0, e1⟩ := fd_cell (h.out.below hb.out (Nat.le_refl _)) hlt
      subst hA
      generalize l[k] = f at *
      obtain ⟨t0, A0, n0, c0, d0⟩ := f
      simp only at e0 e1 ht1 ht2 htb hdk hdat hsn htn
      obtain rfl : d0.length = n0 := hdat.out.len
      have hz1t : (-9223372036854775808 : Int) ≤ t0 := by omega
      have hz2t : t0 ≤ 9223372036854775807 := by omega
      generalize tagB l k = tb at *
      have hX := Lib.hid (Blk.new wr 117 #[.int .i64 t0, .slice A0 d0.length c0])
      have kz : Hid (∀ wz, Below (wr.alloc (.cells #[.int .i64 t0, .slice A0 d0.length c0] 117)).heap.size (wr.alloc (.cells #[.int .i64 t0, .slice A0 d0.length c0] 117)) wz → wz.cell? ⟨wr.heap.size, 0, none⟩ = some (.int .i64 t0) ∧ wz.cell? ⟨wr.heap.size, 1, none⟩ = some (.slice A0 d0.length c0)) := fun wz h => by
        have q0 := hX.out.below h (lt_of_heap hX.out)
        exact ⟨q0.cell 0, q0.cell 1⟩
      have hb1 : Hid (Below w.heap.size w (wr.alloc (.cells #[.int .i64 t0, .slice A0 d0.length c0] 117))) := hb.out.alloc hb.out.size _
      have ho1 : Hid (BOwn (wr.alloc (.cells #[.int .i64 t0, .slice A0 d0.length c0] 117)) w.heap.size (.slice A2 (putB (l.take k)).length c2) (putB (l.take k))) := ho.out.alloc _
      have hlenP : Hid ((putB (l.take k)).length ≤ 100000) := by show _ ≤ _; have h8 := hle.out; rw [hsn.out] at h8; simp only [List.length_append] at h8; omega
      have hlenP2 : Hid ((putB (l.take k) ++ enc (zig t0)).length ≤ 100000) := by show _ ≤ _; have h8 := hle.out; rw [hsn.out] at h8; simp only [List.length_append] at h8 ⊢; omega
      have hlenP3 : Hid (((putB (l.take k) ++ enc (zig t0)) ++ enc (zig d0.length)).length + d0.length ≤ 100000) := by show _ ≤ _; have h8 := hle.out; rw [hsn.out] at h8; simp only [List.length_append] at h8 ⊢; omega
      generalize hP : putB (l.take k) = P at *
      generalize hPn : putB (l.take (k + 1)) = Pn at *
      replace hP := Lib.hid hP
      replace hPn := Lib.hid hPn
      go_wp2_with fail
      all_goals
        refine (appendInt_any w.heap.size (.slice A2 P.length c2) P t0 _ ho1.out hb1.out.size (by have := hlenP.out; omega) hz1t hz2t).mono ?_; rintro e w2 ⟨v2, rfl, ho2, hg2, hn2⟩
        have hX2 := Lib.hid (hX.out.grown hg2 (fun e => own_blk_ne ho1.out.2 hX.out (by decide) e.symm))
        have hb2 : Hid (Below w.heap.size w w2) := hb1.out.trans (below_own ho1.out hb1.out.size hg2)
        clear hg2 hn2
        replace ho2 := Lib.hid ho2
        obtain ⟨x0, x1⟩ := (show w2.cell? ⟨wr.heap.size, 0, none⟩ = some (.int .i64 t0) ∧ w2.cell? ⟨wr.heap.size, 1, none⟩ = some (.slice A0 d0.length c0) from ⟨hX2.out.cell 0, hX2.out.cell 1⟩)
        go_wp2_with fail
        refine (appendInt_any w.heap.size v2 (P ++ enc (zig t0)) d0.length _ ho2.out hb2.out.size (by have := hlenP2.out; omega) (by omega) (by omega)).mono ?_; rintro e w3 ⟨v3, rfl, ho3, hg3, hn3⟩
        have hX3 := Lib.hid (hX2.out.grown hg3 (fun e => own_blk_ne ho2.out.2 hX2.out (by decide) e.symm))
        have hb3 : Hid (Below w.heap.size w w3) := hb2.out.trans (below_own ho2.out hb2.out.size hg3)
        clear hg3 hn3 x0 x1
        replace ho3 := Lib.hid ho3
        obtain ⟨x0, x1⟩ := (show w3.cell? ⟨wr.heap.size, 0, none⟩ = some (.int .i64 t0) ∧ w3.cell? ⟨wr.heap.size, 1, none⟩ = some (.slice A0 d0.length c0) from ⟨hX3.out.cell 0, hX3.out.cell 1⟩)
        have hrd : Hid (Reads w3 w.heap.size 1 A0 d0.length (flat bC d0)) := (hdat.out.below hb3.out (Nat.le_refl _)).2
        go_wp2_with (at_builtin; refine wpList_append_any _ rfl (.tmp 45) (.tmp 47) _ rfl w.heap.size 5 i0 _ 1 1 Try.underlying85 hi0.out hz0.out hz1.out hz2.out rfl (by omega) v3 _ _ rfl ho3.out.2 w.heap.size A0 d0.length c0 (flat bC d0) rfl hrd.out (bC_one _) (by have := hlenP3.out; simp only [maxLen]; omega) (by have := hlenP3.out; omega) hb3.out.size ?_; intro v4 w4 hown4 hg4 hat4)
        have ho4 : Hid (BOwn w4 w.heap.size v4 ((P ++ enc (zig t0)) ++ enc (zig d0.length) ++ d0)) := ⟨bC_len, by rw [List.length_append, flat_append]; exact hown4⟩
        have hb4 : Hid (Below w.heap.size w w4) := hb3.out.grown hg4 hb3.out.size (fun g hg => (World.ownsRow.lt ho3.out.2 g hg).1)
        clear hown4 hg4 hat4
        go_wp2_with fail
        go_roundw
        case rel => exact ⟨k + 1, by omega, by go_num, by rw [htn.out], by rw [hPn.out, hsn.out]; exact ho4.out, hb4.out⟩
        case measure => simp [intOf]; omega
    · have hF : Hid (putB (l.take k) = putB l) := by show _ = _; rw [List.take_of_length_le (by rw [hn.out]; omega)]
      go_wp2_with fail
      go_ret2
      exact ⟨_, rfl, by rw [← hF.out]; exact ho.out, hb.out⟩
set_option maxRecDepth 100000 in
set_option maxHeartbeats 4000000 in
theorem rput_any (A : Option Addr) (l : List Fd) (n cap : Nat) (w : World) (h : LAt fdC 2 w w.heap.size A n l) (hd : ∀ f ∈ l, BAt w w.heap.size f.A f.n f.d) (hk : FdOk l) :
    Calls Try.prog 86 #[.slice A n cap] w fun e w' => ∃ v, e = .returned (.tuple #[v, .int .i64 0]) ∧ BOwn w' w.heap.size v (putB l) ∧ Below w.heap.size w w' := by
  obtain ⟨i0, hi0, hz0, hz1, hz2⟩ := info_parts byte_info
  have hn := Lib.hid h.len
  have hn1 : n ≤ 256 := by have := hk.few; have := hn.out; omega
  have hdd : decide ((256 : Int) < n) = false := by simp; omega
  replace h := Lib.hid h
  replace hd := Lib.hid hd
  replace hk := Lib.hid hk
  replace hi0 := Lib.hid hi0
  replace hz0 := Lib.hid hz0
  replace hz1 := Lib.hid hz1
  replace hz2 := Lib.hid hz2
  go_enter Try.func86, Try.ntmps86
  go_wp2_with fail
  go_loopw [4, 5] (fun b i wr => ∃ k : Nat, k ≤ n ∧ i = .int .i64 k ∧ Hid (BOwn wr w.heap.size b (putB (l.take k))) ∧ Hid (Below w.heap.size w wr)) (fun _ i _ => n - (intOf i).toNat)
  case atStart => exact ⟨0, Nat.zero_le _, rfl, LOwn.nil bC_len _ _, Below.refl _ _⟩
  case round =>
    obtain ⟨k, hkn, rfl, ho, hb⟩ := hrel
    obtain ⟨A2, c2, rfl, hc2, hmx2, hA2, _⟩ := ho.out.form
    clear hA2
    by_cases hlt : k < n
    · have hkl : k < l.length := by rw [hn.out]; exact hlt
      have hk0 : (0 : Int) ≤ k := by omega
      have hk1 : (k : Int) < n := by omega
      have hsn := Lib.hid (putB_snoc l k hkl)
      have hle := Lib.hid (Nat.le_trans (putB_le l (k + 1)) hk.out.len)
      have hasc : Hid (∀ h0 : 0 < k, (l[k - 1]'(by omega)).tag < l[k].tag) := fun h0 => by
        have q := hk.out.asc (k - 1) (by omega)
        simp only [show k - 1 + 1 = k by omega] at q
        exact q
      obtain ⟨ht1, ht2⟩ := hk.out.t1 k hkl
      have hdk := fdOk_d hk.out k hkl
      have hdat := Lib.hid (hd.out _ (List.getElem_mem hkl))
      have hcl0 : Hid (∃ ad, A = some ad ∧ ad.block < w.heap.size ∧ ∀ wz, Below w.heap.size w wz → wz.cell? (ad.add (k * 2)) = some (.int .i64 l[k].tag) ∧ wz.cell? ⟨(ad.add (k * 2)).block, (ad.add (k * 2)).off + 1, none⟩ = some (.slice l[k].A l[k].n l[k].c)) := by
        obtain ⟨ad, hA, hbl, _⟩ := fd_cell h.out hlt
        refine ⟨ad, hA, hbl, fun wz hz => ?_⟩
        obtain ⟨ad', hA', _, q⟩ := fd_cell (h.out.below hz (Nat.le_refl _)) hlt
        rw [hA] at hA'
        cases hA'
        exact q
      have hcp : Hid (∀ h0 : 0 < k, ∃ ad, A = some ad ∧ wr.cell? (ad.add ((k - 1) * 2)) = some (.int .i64 (l[k - 1]'(by omega)).tag)) := fun h0 => by
        obtain ⟨ad, hA, _, q, _⟩ := fd_cell (h.out.below hb.out (Nat.le_refl _)) (k := k - 1) (by omega)
        exact ⟨ad, hA, q⟩
      obtain ⟨ad, hA, hbl, hcl⟩ := hcl0.out
      clear hcl0
      subst hA
      have hfl : Hid (l[k] = l[k]) := rfl
      generalize l[k] = f at *
      obtain ⟨t0, A0, n0, c0, d0⟩ := f
      simp only at hcl ht1 ht2 hdk hdat hsn hasc
      obtain rfl : d0.length = n0 := hdat.out.len
      replace hcl := Lib.hid hcl
      obtain ⟨e0, e1⟩ := hcl.out _ hb.out
      have hz1t : (-9223372036854775808 : Int) ≤ t0 := by omega
      have hz2t : t0 ≤ 9223372036854775807 := by omega
      have hlenP : Hid ((putB (l.take k)).length + (enc (zig t0)).length + (enc (zig d0.length)).length + d0.length ≤ 100000) := by show _ ≤ _; have h8 := hle.out; rw [hsn.out] at h8; simp only [List.length_append] at h8; omega
      have hnext : Hid ((putB (l.take (k + 1))) = ((putB (l.take k) ++ enc (zig t0)) ++ enc (zig d0.length)) ++ d0) := hsn.out
      generalize hPn : putB (l.take (k + 1)) = Pn at *
      replace hPn := Lib.hid hPn
      generalize putB (l.take k) = P at *
      by_cases h0 : 0 < k
      · have hd0 : decide ((0 : Int) < k) = true := by simp; omega
        have hs0 : (0 : Int) ≤ (k : Int) - 1 := by omega
        have hs1 : (k : Int) - 1 < n := by omega
        have ha0 := hasc.out h0
        obtain ⟨ad', hA', q0⟩ := hcp.out h0
        cases hA'
        generalize (l[k - 1]'(by omega)).tag = tp at *
        have hdt : decide (t0 ≤ tp) = false := by simp; omega
        clear hcp hasc
        go_wp2_with fail
        go_quiet (fail)
        have hbq : Hid (Below w.heap.size w (wr.drewN nq)) := below_drewN hb.out _
        have hoq : Hid (BOwn (wr.drewN nq) w.heap.size (.slice A2 P.length c2) P) := ho.out.drewN _
        clear e0 e1
        obtain ⟨e0, e1⟩ := hcl.out _ hbq.out
        go_wp2_with fail
        refine (rputInt_any t0 _ hz1t hz2t).mono ?_; rintro e w5 ⟨v5, rfl, hp5, hq5⟩
        have ho5 := Lib.hid (hoq.out.kept hq5)
        have hb5 : Hid (Below w.heap.size w w5) := hbq.out.trans (hq5.mono hbq.out.size)
        obtain ⟨A5, c5, rfl, _, _, _, hr5⟩ := hp5.form
        replace hr5 := Lib.hid hr5
        clear hp5 hq5
        clear e0 e1
        obtain ⟨e0, e1⟩ := hcl.out _ hb5.out
        go_wp2_with (at_builtin; refine wpList_append_any _ rfl (.tmp 45) (.tmp 51) _ rfl w.heap.size 5 i0 _ 1 1 Try.underlying85 hi0.out hz0.out hz1.out hz2.out rfl (by omega) (.slice A2 P.length c2) _ _ rfl ho5.out.2 w5.heap.size A5 (enc (zig t0)).length c5 (flat bC (enc (zig t0))) rfl hr5.out.2 (bC_one _) (by first | (have := hlenP.out; simp only [maxLen]; omega)) (by have := hlenP.out; omega) hb5.out.size ?_; intro v4 w4 hown4 hg4 hat4; have ho6 : Hid (BOwn w4 w.heap.size v4 (P ++ enc (zig t0))) := ⟨bC_len, by rw [List.length_append, flat_append]; exact hown4⟩; have hb6 : Hid (Below w.heap.size w w4) := hb5.out.grown hg4 hb5.out.size (fun g hg => (World.ownsRow.lt ho5.out.2 g hg).1); clear hown4 hg4 hat4 e0 e1; obtain ⟨e0, e1⟩ := hcl.out _ hb6.out)
        go_wp2_with fail
        refine (rputInt_any d0.length _ (by omega) (by omega)).mono ?_; rintro e w7 ⟨v7, rfl, hp7, hq7⟩
        have ho7 := Lib.hid (ho6.out.kept hq7)
        have hb7 : Hid (Below w.heap.size w w7) := hb6.out.trans (hq7.mono hb6.out.size)
        obtain ⟨A7, c7, rfl, _, _, _, hr7⟩ := hp7.form
        replace hr7 := Lib.hid hr7
        clear hp7 hq7
        clear e0 e1
        obtain ⟨e0, e1⟩ := hcl.out _ hb7.out
        go_wp2_with (first | (at_builtin; refine wpList_append_any _ rfl (.tmp 53) (.tmp 60) _ rfl w.heap.size 5 i0 _ 1 1 Try.underlying85 hi0.out hz0.out hz1.out hz2.out rfl (by omega) v4 _ _ rfl ho7.out.2 w7.heap.size A7 (enc (zig d0.length)).length c7 (flat bC (enc (zig d0.length))) rfl hr7.out.2 (bC_one _) (by first | (have := hlenP.out; rw [List.length_append]; simp only [maxLen]; omega)) (by have := hlenP.out; rw [List.length_append]; omega) hb7.out.size ?_; intro v8 w8 hown8 hg8 hat8; have ho8 : Hid (BOwn w8 w.heap.size v8 ((P ++ enc (zig t0)) ++ enc (zig d0.length))) := ⟨bC_len, by rw [List.length_append, flat_append]; exact hown8⟩; have hb8 : Hid (Below w.heap.size w w8) := hb7.out.grown hg8 hb7.out.size (fun g hg => (World.ownsRow.lt ho7.out.2 g hg).1); clear hown8 hg8 hat8 e0 e1; obtain ⟨e0, e1⟩ := hcl.out _ hb8.out; have hrd : Hid (Reads w8 w.heap.size 1 A0 d0.length (flat bC d0)) := (hdat.out.below hb8.out (Nat.le_refl _)).2) | (at_builtin; refine wpList_append_any _ rfl (.tmp 62) (.tmp 67) _ rfl w.heap.size 5 i0 _ 1 1 Try.underlying85 hi0.out hz0.out hz1.out hz2.out rfl (by omega) v8 _ _ rfl ho8.out.2 w.heap.size A0 d0.length c0 (flat bC d0) rfl hrd.out (bC_one _) (by first | (have := hlenP.out; rw [List.length_append, List.length_append]; simp only [maxLen]; omega)) (by have := hlenP.out; rw [List.length_append, List.length_append]; omega) hb8.out.size ?_; intro v9 w9 hown9 hg9 hat9; have ho9 : Hid (BOwn w9 w.heap.size v9 (((P ++ enc (zig t0)) ++ enc (zig d0.length)) ++ d0)) := ⟨bC_len, by rw [List.length_append, flat_append]; exact hown9⟩; have hb9 : Hid (Below w.heap.size w w9) := hb8.out.grown hg9 hb8.out.size (fun g hg => (World.ownsRow.lt ho8.out.2 g hg).1); clear hown9 hg9 hat9 e0 e1))
        go_wp2_with fail
        go_roundw
        case rel => exact ⟨k + 1, by omega, by go_num, by rw [hPn.out, hnext.out]; exact ho9.out, hb9.out⟩
        case measure => simp [intOf]; omega
      · have hd0 : decide ((0 : Int) < k) = false := by simp; omega
        clear hcp hasc
        go_wp2_with fail
        go_quiet (fail)
        have hbq : Hid (Below w.heap.size w (wr.drewN nq)) := below_drewN hb.out _
        have hoq : Hid (BOwn (wr.drewN nq) w.heap.size (.slice A2 P.length c2) P) := ho.out.drewN _
        clear e0 e1
        obtain ⟨e0, e1⟩ := hcl.out _ hbq.out
        go_wp2_with fail
        refine (rputInt_any t0 _ hz1t hz2t).mono ?_; rintro e w5 ⟨v5, rfl, hp5, hq5⟩
        have ho5 := Lib.hid (hoq.out.kept hq5)
        have hb5 : Hid (Below w.heap.size w w5) := hbq.out.trans (hq5.mono hbq.out.size)
        obtain ⟨A5, c5, rfl, _, _, _, hr5⟩ := hp5.form
        replace hr5 := Lib.hid hr5
        clear hp5 hq5
        clear e0 e1
        obtain ⟨e0, e1⟩ := hcl.out _ hb5.out
        go_wp2_with (at_builtin; refine wpList_append_any _ rfl (.tmp 45) (.tmp 51) _ rfl w.heap.size 5 i0 _ 1 1 Try.underlying85 hi0.out hz0.out hz1.out hz2.out rfl (by omega) (.slice A2 P.length c2) _ _ rfl ho5.out.2 w5.heap.size A5 (enc (zig t0)).length c5 (flat bC (enc (zig t0))) rfl hr5.out.2 (bC_one _) (by first | (have := hlenP.out; simp only [maxLen]; omega)) (by have := hlenP.out; omega) hb5.out.size ?_; intro v4 w4 hown4 hg4 hat4; have ho6 : Hid (BOwn w4 w.heap.size v4 (P ++ enc (zig t0))) := ⟨bC_len, by rw [List.length_append, flat_append]; exact hown4⟩; have hb6 : Hid (Below w.heap.size w w4) := hb5.out.grown hg4 hb5.out.size (fun g hg => (World.ownsRow.lt ho5.out.2 g hg).1); clear hown4 hg4 hat4 e0 e1; obtain ⟨e0, e1⟩ := hcl.out _ hb6.out)
        go_wp2_with fail
        refine (rputInt_any d0.length _ (by omega) (by omega)).mono ?_; rintro e w7 ⟨v7, rfl, hp7, hq7⟩
        have ho7 := Lib.hid (ho6.out.kept hq7)
        have hb7 : Hid (Below w.heap.size w w7) := hb6.out.trans (hq7.mono hb6.out.size)
        obtain ⟨A7, c7, rfl, _, _, _, hr7⟩ := hp7.form
        replace hr7 := Lib.hid hr7
        clear hp7 hq7
        clear e0 e1
        obtain ⟨e0, e1⟩ := hcl.out _ hb7.out
        go_wp2_with (first | (at_builtin; refine wpList_append_any _ rfl (.tmp 53) (.tmp 60) _ rfl w.heap.size 5 i0 _ 1 1 Try.underlying85 hi0.out hz0.out hz1.out hz2.out rfl (by omega) v4 _ _ rfl ho7.out.2 w7.heap.size A7 (enc (zig d0.length)).length c7 (flat bC (enc (zig d0.length))) rfl hr7.out.2 (bC_one _) (by first | (have := hlenP.out; rw [List.length_append]; simp only [maxLen]; omega)) (by have := hlenP.out; rw [List.length_append]; omega) hb7.out.size ?_; intro v8 w8 hown8 hg8 hat8; have ho8 : Hid (BOwn w8 w.heap.size v8 ((P ++ enc (zig t0)) ++ enc (zig d0.length))) := ⟨bC_len, by rw [List.length_append, flat_append]; exact hown8⟩; have hb8 : Hid (Below w.heap.size w w8) := hb7.out.grown hg8 hb7.out.size (fun g hg => (World.ownsRow.lt ho7.out.2 g hg).1); clear hown8 hg8 hat8 e0 e1; obtain ⟨e0, e1⟩ := hcl.out _ hb8.out; have hrd : Hid (Reads w8 w.heap.size 1 A0 d0.length (flat bC d0)) := (hdat.out.below hb8.out (Nat.le_refl _)).2) | (at_builtin; refine wpList_append_any _ rfl (.tmp 62) (.tmp 67) _ rfl w.heap.size 5 i0 _ 1 1 Try.underlying85 hi0.out hz0.out hz1.out hz2.out rfl (by omega) v8 _ _ rfl ho8.out.2 w.heap.size A0 d0.length c0 (flat bC d0) rfl hrd.out (bC_one _) (by first | (have := hlenP.out; rw [List.length_append, List.length_append]; simp only [maxLen]; omega)) (by have := hlenP.out; rw [List.length_append, List.length_append]; omega) hb8.out.size ?_; intro v9 w9 hown9 hg9 hat9; have ho9 : Hid (BOwn w9 w.heap.size v9 (((P ++ enc (zig t0)) ++ enc (zig d0.length)) ++ d0)) := ⟨bC_len, by rw [List.length_append, flat_append]; exact hown9⟩; have hb9 : Hid (Below w.heap.size w w9) := hb8.out.grown hg9 hb8.out.size (fun g hg => (World.ownsRow.lt ho8.out.2 g hg).1); clear hown9 hg9 hat9 e0 e1))
        go_wp2_with fail
        go_roundw
        case rel => exact ⟨k + 1, by omega, by go_num, by rw [hPn.out, hnext.out]; exact ho9.out, hb9.out⟩
        case measure => simp [intOf]; omega
    · have hF : Hid (putB (l.take k) = putB l) := by show _ = _; rw [List.take_of_length_le (by rw [hn.out]; omega)]
      go_wp2_with fail
      go_ret2
      exact ⟨_, rfl, by rw [← hF.out]; exact ho.out, hb.out⟩
end Go.Proofs.Ytiggpgeldigknaa
