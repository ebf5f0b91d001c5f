/- Links: the law LinkOwns, walked. -/
import Derived.Test.YteolglmdfjddlaaLM
set_option linter.unusedVariables false
set_option linter.unusedSimpArgs false
namespace Go.Proofs.Yteolglmdfjddlaa
open Go.RowKit
theorem new_err' (delay : Int) (lose : List Int) (h : (newR delay lose).2 = 0) : newR delay lose = (newL delay lose, 0) ∧ validL (newL delay lose) = 0 := by
  unfold newR at *
  split at h
  · rename_i h0; exact absurd h h0
  · rename_i h0
    rw [if_neg h0]
    exact ⟨rfl, by simpa using h0⟩
theorem own_send (delay : Int) (d : List UInt8) (h : d.length ≤ 8198) : sendL (newL delay []) d = ((⟨0, delay, false, 1, [], [(delay, d)]⟩ : Lv), 0) := by
  unfold sendL newL lostL
  rw [if_neg (by simp; omega)]
  simp
theorem own_tick (delay : Int) (d : List UInt8) (k : Int) (h : k + 1 < delay) (h2 : k < 268435456) : tickL (⟨k, delay, false, 1, [], [(delay, d)]⟩ : Lv) = ((⟨k + 1, delay, false, 1, [], [(delay, d)]⟩ : Lv), []) := by
  unfold tickL
  rw [if_neg (by simp only; omega)]
  simp [h]
theorem own_last (delay : Int) (d : List UInt8) (k : Int) (h : k + 1 = delay) (h2 : k < 268435456) : (tickL (⟨k, delay, false, 1, [], [(delay, d)]⟩ : Lv)).2 = [d] := by
  unfold tickL
  rw [if_neg (by simp only; omega)]
  simp [h]
theorem u8_next (x : UInt8) : ((x.toNat : Int) + 1) % 256 = (((x + 1 : UInt8)).toNat : Int) := by
  rw [UInt8.toNat_add]
  have : (1 : UInt8).toNat = 1 := rfl
  rw [this]
  omega
theorem b_cell {w : World} {B : Nat} {A : Option Addr} {n : Nat} {l : List UInt8} (h : BAt w B A n l) {k : Nat} (hk : k < n) : ∃ ad, A = some ad ∧ ad.block < B ∧ w.cell? (ad.add k) = some (.int .u8 ((l[k]'(by rw [h.len]; exact hk)).toNat : Int)) := by
  obtain ⟨ad, hA, hb, hc⟩ := h.at_ hk
  refine ⟨ad, hA, hb, ?_⟩
  have := hc 0 _ rfl
  simpa using this
set_option maxRecDepth 100000 in
set_option maxHeartbeats 8000000 in
theorem lawOwns (delay : Int) (A : Option Addr) (n c : Nat) (d : List UInt8) (w : World) (hdw : (Lit.int .i64 delay).wf = true) (h : BAt w w.heap.size A n d) (hc : n ≤ c) (hm : c ≤ maxLen) : Calls Try.prog 4 #[.int .i64 delay, .slice A n c] w fun e w' => e = .returned (.bool true) ∧ Below w.heap.size w w' := by
  have hdi : i64In delay := wf_i64' hdw
  clear hdw
  have hdl := h.len
  subst hdl
  replace h := Lib.hid h
  obtain ⟨E, hE⟩ : ∃ E, E = (newR delay []).2 := ⟨_, rfl⟩
  have hnw := new_any delay none 0 0 [] w (LAt.nil iC_len _ _) ⟨Nat.le_refl _, Nat.zero_le _⟩ (fun x hx => by simp at hx) hdi (by decide)
  rw [← hE] at hnw
  replace hE := Lib.hid hE
  go_enter Try.func4, Try.ntmps4
  go_wp2_with fail
  refine hnw.mono ?_; rintro e w1 ⟨l0, rfl, hok, hv, hf, hq⟩
  clear hnw
  simp only [lkV]
  have hB := Lib.hid (Blk.new w1 25 #[Value.int .i64 l0.now, Value.int .i64 l0.delay, Value.bool l0.cut, Value.int .i64 l0.count, Value.slice l0.lA l0.ln l0.lc, Value.slice l0.bA l0.bn l0.bc])
  have hok1 : Hid (LkOk (w1.alloc (.cells #[Value.int .i64 l0.now, Value.int .i64 l0.delay, Value.bool l0.cut, Value.int .i64 l0.count, Value.slice l0.lA l0.ln l0.lc, Value.slice l0.bA l0.bn l0.bc] 25)) l0) := hok.more (a1 w1 _)
  have hb : Hid (Below w.heap.size w (w1.alloc (.cells #[Value.int .i64 l0.now, Value.int .i64 l0.delay, Value.bool l0.cut, Value.int .i64 l0.count, Value.slice l0.lA l0.ln l0.lc, Value.slice l0.bA l0.bn l0.bc] 25))) := hq.alloc hq.size _
  have hg5w0 : Hid (w.heap.size ≤ w1.heap.size) := hq.size
  replace hv := Lib.hid hv
  clear hok hf hq
  by_cases hE0 : E ≠ 0
  · have hE1 : (E == 0) = false := by simpa using hE0
    go_wp2_with fail
    refine (ex_any _).mono ?_; rintro e w5 ⟨rfl, hq⟩
    go_wp2_with fail
    go_ret
    exact ⟨rfl, hb.out.trans (hq.mono hb.out.size)⟩
  replace hE0 : E = 0 := by simpa using hE0
  subst hE0
  by_cases q1 : 8198 < d.length
  · have q1i : (8198 : Int) < (d.length : Int) := by omega
    have q1d : decide ((8198 : Int) < (d.length : Int)) = true := by simp; omega
    go_wp2_with fail
    refine (ex_any _).mono ?_; rintro e w5 ⟨rfl, hq⟩
    go_wp2_with fail
    go_ret
    exact ⟨rfl, hb.out.trans (hq.mono hb.out.size)⟩
  have q1i : ¬ (8198 : Int) < (d.length : Int) := by omega
  have q1d : decide ((8198 : Int) < (d.length : Int)) = false := by simp; omega
  obtain ⟨hnw, hvl⟩ := new_err' delay [] hE.out.symm
  have hgd := good_of _ hvl
  have hd0 : 1 ≤ delay := hgd.del0
  have hd1 : delay ≤ 60 := hgd.del1
  have hv1 : Hid (l0.val = newL delay []) := by show _ = _; rw [hv.out, hnw]
  have hgdH := Lib.hid hgd
  clear hnw hvl hgd hv hE
  go_wp2_with fail
  obtain ⟨g5, hg5⟩ : ∃ g5, g5 = w1.heap.size := ⟨_, rfl⟩
  rw [← hg5] at hB hg5w0 ⊢
  have hg5w := hg5w0
  generalize (w1.alloc (.cells #[Value.int .i64 l0.now, Value.int .i64 l0.delay, Value.bool l0.cut, Value.int .i64 l0.count, Value.slice l0.lA l0.ln l0.lc, Value.slice l0.bA l0.bn l0.bc] 25)) = w2 at *
  replace hg5 := Lib.hid hg5
  clear hg5w0
  refine (bclone_any A d.length c d w2 (h.out.more hb.out) (by omega)).mono ?_; rintro e w3 ⟨v7, rfl, ho7, hq⟩
  obtain ⟨A7, c7, rfl, hc7, hm7, hf7, hat7⟩ := ho7.form
  have hg5lt : Hid (g5 < w2.heap.size) := hB.out.lt
  have ho7b : Hid (BOwn w3 w2.heap.size (.slice A7 d.length c7) d) := ho7
  have hB3 := Lib.hid (hB.out.below hq hB.out.lt)
  have hok3 := Lib.hid (hok1.out.more hq)
  have hb3 := Lib.hid (hb.out.trans (hq.mono hb.out.size))
  have hw23 : Hid (w2.heap.size ≤ w3.heap.size) := hq.size
  clear hq hB hok1 hb ho7
  have hsm0 : Hid (LkSm l0) := sm_of (by rw [hv1.out]; exact hgdH.out.sm)
  have hnd0 : Hid (0 ≤ l0.now ∧ l0.now ≤ 268435456 ∧ 1 ≤ l0.delay ∧ l0.delay ≤ 60 ∧ 0 ≤ l0.count) := by
    have := hgdH.out.nd
    rw [← hv1.out] at this
    exact this
  replace hat7 := Lib.hid hat7
  replace hf7 := Lib.hid hf7
  have hsnd := Lib.hid (send_any l0 A7 d.length c7 d w3 hok3.out hsm0.out hat7.out ⟨hc7, hm7⟩ hnd0.out)
  simp only [lkV] at hsnd
  rw [hv1.out, own_send delay d (by omega)] at hsnd
  obtain ⟨k0, k1, k2, k3, k4, k5⟩ := (show w3.cell? ⟨g5, 0, none⟩ = some (Value.int .i64 l0.now) ∧ w3.cell? ⟨g5, 1, none⟩ = some (Value.int .i64 l0.delay) ∧ w3.cell? ⟨g5, 2, none⟩ = some (Value.bool l0.cut) ∧ w3.cell? ⟨g5, 3, none⟩ = some (Value.int .i64 l0.count) ∧ w3.cell? ⟨g5, 4, none⟩ = some (Value.slice l0.lA l0.ln l0.lc) ∧ w3.cell? ⟨g5, 5, none⟩ = some (Value.slice l0.bA l0.bn l0.bc) from ⟨hB3.out.cell 0, hB3.out.cell 1, hB3.out.cell 2, hB3.out.cell 3, hB3.out.cell 4, hB3.out.cell 5⟩)
  go_wp2_with fail
  refine hsnd.out.mono ?_; rintro e w4 ⟨⟨l2, rfl, hok4, hv4, hf4, -⟩, hq⟩
  clear hsnd k0 k1 k2 k3 k4 k5
  replace hf4 := Lib.hid (hf4 (by first | rfl | trivial))
  replace hv4 : Hid (l2.val = (⟨0, delay, false, 1, [], [(delay, d)]⟩ : Lv)) := hv4
  have hB4 := Lib.hid (hB3.out.below hq hB3.out.lt)
  have hb4 := Lib.hid (hb3.out.trans (hq.mono hb3.out.size))
  have ho4 := Lib.hid (ho7b.out.kept hq)
  clear hq hB3 hok3 hb3 ho7b hat7
  obtain ⟨k0, k1, k2, k3, k4, k5, z0, z1, z2, z3, z4, z5⟩ := (show w4.cell? ⟨g5, 0, none⟩ = some (Value.int .i64 l0.now) ∧ w4.cell? ⟨g5, 1, none⟩ = some (Value.int .i64 l0.delay) ∧ w4.cell? ⟨g5, 2, none⟩ = some (Value.bool l0.cut) ∧ w4.cell? ⟨g5, 3, none⟩ = some (Value.int .i64 l0.count) ∧ w4.cell? ⟨g5, 4, none⟩ = some (Value.slice l0.lA l0.ln l0.lc) ∧ w4.cell? ⟨g5, 5, none⟩ = some (Value.slice l0.bA l0.bn l0.bc) ∧ w4.frozen? ⟨g5, 0, none⟩ = false ∧ w4.frozen? ⟨g5, 1, none⟩ = false ∧ w4.frozen? ⟨g5, 2, none⟩ = false ∧ w4.frozen? ⟨g5, 3, none⟩ = false ∧ w4.frozen? ⟨g5, 4, none⟩ = false ∧ w4.frozen? ⟨g5, 5, none⟩ = false from ⟨hB4.out.cell 0, hB4.out.cell 1, hB4.out.cell 2, hB4.out.cell 3, hB4.out.cell 4, hB4.out.cell 5, hB4.out.frozen 0, hB4.out.frozen 1, hB4.out.frozen 2, hB4.out.frozen 3, hB4.out.frozen 4, hB4.out.frozen 5⟩)
  have hg4 := Lib.hid (grown_set6 w4 g5 (Value.int .i64 l2.now) (Value.int .i64 l2.delay) (Value.bool l2.cut) (Value.int .i64 l2.count) (Value.slice l2.lA l2.ln l2.lc) (Value.slice l2.bA l2.bn l2.bc))
  have hB5 := Lib.hid (lk_set6 hB4.out (Value.int .i64 l2.now) (Value.int .i64 l2.delay) (Value.bool l2.cut) (Value.int .i64 l2.count) (Value.slice l2.lA l2.ln l2.lc) (Value.slice l2.bA l2.bn l2.bc))
  have hok5 := Lib.hid (LkOk_q hok4 (hf4.out.q fun g8 h8 => by have := hw23.out; have := hg5lt.out; omega) hg4.out)
  have hb5 := Lib.hid (below_set6 hb4.out hg5w.out (Value.int .i64 l2.now) (Value.int .i64 l2.delay) (Value.bool l2.cut) (Value.int .i64 l2.count) (Value.slice l2.lA l2.ln l2.lc) (Value.slice l2.bA l2.bn l2.bc))
  have ho5 := Lib.hid (ho4.out.far hg4.out hg5lt.out)
  go_wp2_with fail
  clear k0 k1 k2 k3 k4 k5 z0 z1 z2 z3 z4 z5 hg4 hB4 hok4 hb4 ho4
  generalize ((((((w4.setCell ⟨g5, 0, none⟩ (Value.int .i64 l2.now)).setCell ⟨g5, 1, none⟩ (Value.int .i64 l2.delay)).setCell ⟨g5, 2, none⟩ (Value.bool l2.cut)).setCell ⟨g5, 3, none⟩ (Value.int .i64 l2.count)).setCell ⟨g5, 4, none⟩ (Value.slice l2.lA l2.ln l2.lc)).setCell ⟨g5, 5, none⟩ (Value.slice l2.bA l2.bn l2.bc)) = w5 at *
  go_loopw [39] (fun i wr => ∃ (k : Nat) (dd : List UInt8), k ≤ d.length ∧ dd.length = d.length ∧ i = .int .i64 k ∧ Hid (BOwn wr w2.heap.size (.slice A7 d.length c7) dd) ∧ Hid (Blk wr g5 25 #[Value.int .i64 l2.now, Value.int .i64 l2.delay, Value.bool l2.cut, Value.int .i64 l2.count, Value.slice l2.lA l2.ln l2.lc, Value.slice l2.bA l2.bn l2.bc]) ∧ Hid (LkOk wr l2) ∧ Hid (Below w.heap.size w wr)) (fun i _ => d.length - (intOf i).toNat)
  case atStart => exact ⟨0, d, Nat.zero_le _, rfl, rfl, ho5.out, hB5.out, hok5.out, hb5.out⟩
  clear ho5 hB5 hok5 hb5
  case round =>
    obtain ⟨k, dd, hkn, hdd, rfl, ho, hB, hok, hb⟩ := hrel
    by_cases hlt : k < d.length
    · have hk0 : (0 : Int) ≤ k := by omega
      have hk1 : (k : Int) < d.length := by omega
      have hkl : k < dd.length := by omega
      obtain ⟨A9, c9, e9, -, -, hf9, hat⟩ := ho.out.form
      rw [hdd] at e9 hat
      injection e9 with e9 _ e10
      subst e9; subst e10
      obtain ⟨ad, hA, hbl, e0⟩ := b_cell hat hlt
      obtain ⟨hadf, hgb, -⟩ := hf9 ad hA
      obtain ⟨gB, hgBe⟩ : ∃ gB, gB = ad.block := ⟨_, rfl⟩
      rw [← hgBe] at hadf hgb
      clear hgBe hbl hf9
      subst hadf
      subst hA
      simp only [add_row] at e0
      have z0 : wr.frozen? ⟨gB, k, none⟩ = false := ho.out.frozenAt hdd.symm _
      generalize hx : dd[k] = x at e0
      replace hx := Lib.hid hx
      obtain ⟨x', hun⟩ : ∃ x' : UInt8, ((x.toNat : Int) + 1) % 256 = (x'.toNat : Int) := ⟨x + 1, u8_next x⟩
      have hg1 := Lib.hid (only_set (World.grownBy.refl wr (some gB)) k (Value.int .u8 (x'.toNat : Int)))
      have hst := (ho.out.store hdd.symm hkl x').1
      have hst' : Hid (BOwn (wr.setCell ⟨gB, k, none⟩ (Value.int .u8 (x'.toNat : Int))) w2.heap.size (.slice (some ⟨gB, 0, none⟩) d.length c7) (dd.set k x')) := by
        have := hst
        rw [Nat.mul_one] at this
        exact this
      replace hst := hst'
      have hB2 := Lib.hid (hB.out.grown hg1.out (by intro e; injection e with e; have := hg5lt.out; omega))
      have hgw3 : gB < w3.heap.size := ((hf7.out _ rfl).2.2 : _)
      have hok2 := Lib.hid (LkOk_q hok.out (hf4.out.q fun g8 h8 => by omega) hg1.out)
      have hb2 : Hid (Below w.heap.size w (wr.setCell ⟨gB, k, none⟩ (Value.int .u8 (x'.toNat : Int)))) := below_set hb.out (by have := hg5lt.out; have := hg5w.out; omega) k _
      have hsl : Hid ((dd.set k x').length = d.length) := by show _ = _; rw [List.length_set]; exact hdd
      clear hst' hat
      replace hdd := Lib.hid hdd
      go_wp2_with fail
      go_roundw
      case rel => exact ⟨k + 1, dd.set k x', by omega, hsl.out, by go_num, hst.out, hB2.out, hok2.out, hb2.out⟩
      case measure => simp [intOf]; omega
    · clear ho hdd
      have hdw : IntKind.i64.wrap (delay - 1) = delay - 1 := IntWalk.i64_in _ (by omega)
      go_wp2_with fail
      clear hkn hlt
      go_loopw [51] (fun i wr => ∃ (k : Nat) (l3 : Lk), (k : Int) ≤ delay - 1 ∧ i = .int .i64 k ∧ Hid (Blk wr g5 25 #[Value.int .i64 l3.now, Value.int .i64 l3.delay, Value.bool l3.cut, Value.int .i64 l3.count, Value.slice l3.lA l3.ln l3.lc, Value.slice l3.bA l3.bn l3.bc]) ∧ Hid (LkOk wr l3) ∧ Hid (l3.val = (⟨(k : Int), delay, false, 1, [], [(delay, d)]⟩ : Lv)) ∧ Hid (LkQ (fun b => b ≠ g5) l3) ∧ Hid (Below w.heap.size w wr)) (fun i _ => delay.toNat - (intOf i).toNat)
      case atStart => exact ⟨0, l2, by omega, rfl, hB.out, hok.out, hv4.out, hf4.out.q fun g8 h8 => (by have := hw23.out; have := hg5lt.out; omega), hb.out⟩
      clear hB hok hb
      case round =>
        obtain ⟨k, l3, hkn, rfl, hB, hok, hv3, hq3, hb⟩ := hrel
        have hsm3 : Hid (LkSm l3) := sm_of (by rw [hv3.out]; exact ⟨by simp, by simp, fun p hp => by simp at hp; subst hp; show d.length ≤ _; omega⟩)
        have hn3 : Hid (0 ≤ l3.now ∧ l3.now ≤ 268435456) := by
          have : l3.now = (k : Int) := congrArg Lv.now hv3.out
          show _ ∧ _
          omega
        obtain ⟨k0, k1, k2, k3, k4, k5⟩ := (show wr.cell? ⟨g5, 0, none⟩ = some (Value.int .i64 l3.now) ∧ wr.cell? ⟨g5, 1, none⟩ = some (Value.int .i64 l3.delay) ∧ wr.cell? ⟨g5, 2, none⟩ = some (Value.bool l3.cut) ∧ wr.cell? ⟨g5, 3, none⟩ = some (Value.int .i64 l3.count) ∧ wr.cell? ⟨g5, 4, none⟩ = some (Value.slice l3.lA l3.ln l3.lc) ∧ wr.cell? ⟨g5, 5, none⟩ = some (Value.slice l3.bA l3.bn l3.bc) from ⟨hB.out.cell 0, hB.out.cell 1, hB.out.cell 2, hB.out.cell 3, hB.out.cell 4, hB.out.cell 5⟩)
        by_cases hlt : (k : Int) < delay - 1
        · have hltd : decide ((k : Int) < delay - 1) = true := by simpa using hlt
          have htk := tick_any l3 wr hok.out hsm3.out hn3.out
          rw [hv3.out] at htk
          have hT := Lib.hid (own_tick delay d k (by omega) (by omega))
          simp only [lkV] at htk
          replace htk := Lib.hid htk
          go_wp2_with fail
          refine htk.out.mono ?_; rintro e w6 ⟨⟨l4, A6, n6, c6, C6, rfl, hok6, hv6, -, -, -, hK6⟩, hq⟩
          clear htk k0 k1 k2 k3 k4 k5
          rw [hT.out] at hv6
          replace hv6 : Hid (l4.val = (⟨((k : Int) + 1), delay, false, 1, [], [(delay, d)]⟩ : Lv)) := hv6
          simp only [lkV]
          have hq6 : Hid (LkQ (fun b => b ≠ g5) l4) := hK6 _ hq3.out (fun g8 h8 => by have := hB.out.lt; omega)
          have hB6 := Lib.hid (hB.out.below hq hB.out.lt)
          have hb6 := Lib.hid (hb.out.trans (hq.mono hb.out.size))
          obtain ⟨k0, k1, k2, k3, k4, k5, z0, z1, z2, z3, z4, z5⟩ := (show w6.cell? ⟨g5, 0, none⟩ = some (Value.int .i64 l3.now) ∧ w6.cell? ⟨g5, 1, none⟩ = some (Value.int .i64 l3.delay) ∧ w6.cell? ⟨g5, 2, none⟩ = some (Value.bool l3.cut) ∧ w6.cell? ⟨g5, 3, none⟩ = some (Value.int .i64 l3.count) ∧ w6.cell? ⟨g5, 4, none⟩ = some (Value.slice l3.lA l3.ln l3.lc) ∧ w6.cell? ⟨g5, 5, none⟩ = some (Value.slice l3.bA l3.bn l3.bc) ∧ w6.frozen? ⟨g5, 0, none⟩ = false ∧ w6.frozen? ⟨g5, 1, none⟩ = false ∧ w6.frozen? ⟨g5, 2, none⟩ = false ∧ w6.frozen? ⟨g5, 3, none⟩ = false ∧ w6.frozen? ⟨g5, 4, none⟩ = false ∧ w6.frozen? ⟨g5, 5, none⟩ = false from ⟨hB6.out.cell 0, hB6.out.cell 1, hB6.out.cell 2, hB6.out.cell 3, hB6.out.cell 4, hB6.out.cell 5, hB6.out.frozen 0, hB6.out.frozen 1, hB6.out.frozen 2, hB6.out.frozen 3, hB6.out.frozen 4, hB6.out.frozen 5⟩)
          have hg6 := Lib.hid (grown_set6 w6 g5 (Value.int .i64 l4.now) (Value.int .i64 l4.delay) (Value.bool l4.cut) (Value.int .i64 l4.count) (Value.slice l4.lA l4.ln l4.lc) (Value.slice l4.bA l4.bn l4.bc))
          have hB7 := Lib.hid (lk_set6 hB6.out (Value.int .i64 l4.now) (Value.int .i64 l4.delay) (Value.bool l4.cut) (Value.int .i64 l4.count) (Value.slice l4.lA l4.ln l4.lc) (Value.slice l4.bA l4.bn l4.bc))
          have hok7 := Lib.hid (LkOk_q hok6 hq6.out hg6.out)
          have hb7 := Lib.hid (below_set6 hb6.out hg5w.out (Value.int .i64 l4.now) (Value.int .i64 l4.delay) (Value.bool l4.cut) (Value.int .i64 l4.count) (Value.slice l4.lA l4.ln l4.lc) (Value.slice l4.bA l4.bn l4.bc))
          clear hq hK6
          go_wp2_with fail
          go_roundw
          case rel => exact ⟨k + 1, l4, by omega, by go_num, hB7.out, hok7.out, by show _ = _; rw [hv6.out]; simp, hq6.out, hb7.out⟩
          case measure => simp [intOf]; omega
        · have hltd : decide ((k : Int) < delay - 1) = false := by simpa using hlt
          have hkd : (k : Int) + 1 = delay := by omega
          have hT := Lib.hid (own_last delay d k hkd (by omega))
          have htk := tick_any l3 wr hok.out hsm3.out hn3.out
          rw [hv3.out] at htk
          simp only [lkV] at htk
          replace htk := Lib.hid htk
          replace hkd := Lib.hid hkd
          go_wp2_with fail
          refine htk.out.mono ?_; rintro e w6 ⟨⟨l4, A6, n6, c6, C6, rfl, -, -, hC6, hCd6, hCm6, -⟩, hq⟩
          clear htk k0 k1 k2 k3 k4 k5
          rw [hT.out] at hCm6
          simp only [lkV]
          obtain ⟨b0, hb0⟩ : ∃ b0, C6 = [b0] := by
            match C6, hCm6 with
            | [b0], _ => exact ⟨b0, rfl⟩
          subst hb0
          have hbd : b0.d = d := by simpa using hCm6
          obtain ⟨bA, bn, bc, bd⟩ := b0
          simp only at hbd
          subst hbd
          have hn6 : n6 = 1 := by have := hC6.lenv; simpa using this
          subst hn6
          have hbo : BOwn w6 wr.heap.size (.slice bA bn bc) bd := hCd6 ⟨bA, bn, bc, bd⟩ (by simp)
          obtain rfl : bd.length = bn := by have := hbo.lenv; omega
          have hg5r : Hid (g5 < wr.heap.size) := hB.out.lt
          have hlt3 : Hid (LkLt wr.heap.size l3) := LkOk_lt hok.out
          have hB6 := Lib.hid ((hB.out.below hq hB.out.lt).alloc (.cells #[Value.int .i64 l4.now, Value.int .i64 l4.delay, Value.bool l4.cut, Value.int .i64 l4.count, Value.slice l4.lA l4.ln l4.lc, Value.slice l4.bA l4.bn l4.bc] 25))
          have hok6 := Lib.hid ((hok.out.more hq).more (a1 w6 (.cells #[Value.int .i64 l4.now, Value.int .i64 l4.delay, Value.bool l4.cut, Value.int .i64 l4.count, Value.slice l4.lA l4.ln l4.lc, Value.slice l4.bA l4.bn l4.bc] 25)))
          have hb6 : Hid (Below w.heap.size w (w6.alloc (.cells #[Value.int .i64 l4.now, Value.int .i64 l4.delay, Value.bool l4.cut, Value.int .i64 l4.count, Value.slice l4.lA l4.ln l4.lc, Value.slice l4.bA l4.bn l4.bc] 25))) := (hb.out.trans (hq.mono hb.out.size)).alloc (hb.out.trans (hq.mono hb.out.size)).size _
          have hC7 := Lib.hid (hC6.alloc (.cells #[Value.int .i64 l4.now, Value.int .i64 l4.delay, Value.bool l4.cut, Value.int .i64 l4.count, Value.slice l4.lA l4.ln l4.lc, Value.slice l4.bA l4.bn l4.bc] 25))
          have hbo7 := Lib.hid (hbo.alloc (.cells #[Value.int .i64 l4.now, Value.int .i64 l4.delay, Value.bool l4.cut, Value.int .i64 l4.count, Value.slice l4.lA l4.ln l4.lc, Value.slice l4.bA l4.bn l4.bc] 25))
          have hwr6 : Hid (w.heap.size ≤ wr.heap.size) := hb.out.size
          clear hq hC6 hCd6 hCm6 hbo hB hok hb
          have hrow := Lib.hid (rows_at hC7.out)
          obtain ⟨ad6, hA6, -, s0⟩ := s_cell hrow.out (show 0 < 1 by decide)
          have s1 : (w6.alloc (.cells #[Value.int .i64 l4.now, Value.int .i64 l4.delay, Value.bool l4.cut, Value.int .i64 l4.count, Value.slice l4.lA l4.ln l4.lc, Value.slice l4.bA l4.bn l4.bc] 25)).cell? ad6 = some (Value.slice bA bd.length bc) := by simpa [Addr.add] using s0
          simp only [List.getElem_cons_zero] at s0
          subst hA6
          have hbo7a : Hid (BsAt (w6.alloc (.cells #[Value.int .i64 l4.now, Value.int .i64 l4.delay, Value.bool l4.cut, Value.int .i64 l4.count, Value.slice l4.lA l4.ln l4.lc, Value.slice l4.bA l4.bn l4.bc] 25)) ⟨bA, bd.length, bc, bd⟩) := bs_of_own (b := ⟨bA, bd.length, bc, bd⟩) hbo7.out
          have heq := Lib.hid (equal_any bA A bd.length bc bd.length c bd (w6.alloc (.cells #[Value.int .i64 l4.now, Value.int .i64 l4.delay, Value.bool l4.cut, Value.int .i64 l4.count, Value.slice l4.lA l4.ln l4.lc, Value.slice l4.bA l4.bn l4.bc] 25)) _ _ hbo7a.out.1 (h.out.more hb6.out))
          go_wp2_with fail
          refine heq.out.mono ?_; rintro e we ⟨rfl, rfl⟩
          clear heq
          go_wp2_with fail
          clear s0 s1
          generalize (w6.alloc (.cells #[Value.int .i64 l4.now, Value.int .i64 l4.delay, Value.bool l4.cut, Value.int .i64 l4.count, Value.slice l4.lA l4.ln l4.lc, Value.slice l4.bA l4.bn l4.bc] 25)) = w7 at *
          obtain ⟨bs, hbse⟩ : ∃ bs, bs = wr.heap.size := ⟨_, rfl⟩
          rw [← hbse] at hg5r hlt3 hwr6 hbo7 hC7
          replace hbse := Lib.hid hbse
          go_loopw [79] (fun i wr2 => ∃ (k : Nat) (dd : List UInt8), k ≤ bd.length ∧ dd.length = bd.length ∧ i = .int .i64 k ∧ Hid (BOwn wr2 bs (.slice bA bd.length bc) dd) ∧ Hid (LOwn sC 1 27 wr2 bs (.slice (some ad6) 1 c6) [⟨bA, bd.length, bc, bd⟩]) ∧ Hid (Blk wr2 g5 25 #[Value.int .i64 l3.now, Value.int .i64 l3.delay, Value.bool l3.cut, Value.int .i64 l3.count, Value.slice l3.lA l3.ln l3.lc, Value.slice l3.bA l3.bn l3.bc]) ∧ Hid (LkOk wr2 l3) ∧ Hid (Below w.heap.size w wr2)) (fun i _ => bd.length - (intOf i).toNat)
          case atStart => exact ⟨0, bd, Nat.zero_le _, rfl, rfl, hbo7.out, hC7.out, hB6.out, hok6.out, hb6.out⟩
          clear hbo7 hC7 hB6 hok6 hb6 hrow hbo7a
          case round =>
            obtain ⟨k2, dd, hkn2, hdd, rfl, ho, hC, hB, hok, hb⟩ := hrel
            by_cases hlt2 : k2 < bd.length
            · skip
              have hk0 : (0 : Int) ≤ k2 := by omega
              have hk1 : (k2 : Int) < bd.length := by omega
              have hkl : k2 < dd.length := by omega
              obtain ⟨A9, c9, e9, -, -, hf9, hat⟩ := ho.out.form
              rw [hdd] at e9 hat
              injection e9 with e9 _ e10
              subst e9; subst e10
              obtain ⟨ad, hA, hbl, e0⟩ := b_cell hat hlt2
              obtain ⟨hadf, hgb, -⟩ := hf9 ad hA
              obtain ⟨gB, hgBe⟩ : ∃ gB, gB = ad.block := ⟨_, rfl⟩
              rw [← hgBe] at hadf hgb
              clear hgBe hbl hf9
              subst hadf
              subst hA
              simp only [add_row] at e0
              have z0 : wr.frozen? ⟨gB, k2, none⟩ = false := ho.out.frozenAt hdd.symm _
              generalize hx : dd[k2] = x at e0
              replace hx := Lib.hid hx
              obtain ⟨x', hun⟩ : ∃ x' : UInt8, ((x.toNat : Int) + 1) % 256 = (x'.toNat : Int) := ⟨x + 1, u8_next x⟩
              obtain ⟨adr, hAr, -, s0⟩ := s_cell (rows_at hC.out) (show 0 < 1 by decide)
              obtain rfl : ad6 = adr := by injection hAr
              have s1 : wr.cell? ad6 = some (Value.slice (some ⟨gB, 0, none⟩) bd.length bc) := by simpa [Addr.add] using s0
              simp only [List.getElem_cons_zero] at s0
              have hg1 := Lib.hid (only_set (World.grownBy.refl wr (some gB)) k2 (Value.int .u8 (x'.toNat : Int)))
              have hst : Hid (BOwn (wr.setCell ⟨gB, k2, none⟩ (Value.int .u8 (x'.toNat : Int))) bs (.slice (some ⟨gB, 0, none⟩) bd.length bc) (dd.set k2 x')) := by
                have := (ho.out.store hdd.symm hkl x').1
                rw [Nat.mul_one] at this
                exact this
              have hC2 : Hid (LOwn sC 1 27 (wr.setCell ⟨gB, k2, none⟩ (Value.int .u8 (x'.toNat : Int))) bs (.slice (some ad6) 1 c6) [⟨some ⟨gB, 0, none⟩, bd.length, bc, bd⟩]) := hC.out.grownT ho.out (by decide) hg1.out
              have hB2 := Lib.hid (hB.out.grown hg1.out (by intro e; injection e with e; have := hg5r.out; omega))
              have hok2 := Lib.hid (LkOk_lt_grown hok.out (g := gB) ⟨fun h0 ad e => by have := hlt3.out.1 h0 ad e; omega, fun h0 ad e => by have := hlt3.out.2.1 h0 ad e; omega, fun p hp h0 ad e => by have := hlt3.out.2.2 p hp h0 ad e; omega⟩ hg1.out)
              have hb2 : Hid (Below w.heap.size w (wr.setCell ⟨gB, k2, none⟩ (Value.int .u8 (x'.toNat : Int)))) := below_set hb.out (by have := hwr6.out; omega) k2 _
              have hsl : Hid ((dd.set k2 x').length = bd.length) := by show _ = _; rw [List.length_set]; exact hdd
              clear hat
              replace hdd := Lib.hid hdd
              go_wp2_with fail
              go_roundw
              case rel => exact ⟨k2 + 1, dd.set k2 x', by omega, hsl.out, by go_num, hst.out, hC2.out, hB2.out, hok2.out, hb2.out⟩
              case measure => simp [intOf]; omega
            · skip
              obtain ⟨m0, m1, m2, m3, m4, m5⟩ := (show wr.cell? ⟨g5, 0, none⟩ = some (Value.int .i64 l3.now) ∧ wr.cell? ⟨g5, 1, none⟩ = some (Value.int .i64 l3.delay) ∧ wr.cell? ⟨g5, 2, none⟩ = some (Value.bool l3.cut) ∧ wr.cell? ⟨g5, 3, none⟩ = some (Value.int .i64 l3.count) ∧ wr.cell? ⟨g5, 4, none⟩ = some (Value.slice l3.lA l3.ln l3.lc) ∧ wr.cell? ⟨g5, 5, none⟩ = some (Value.slice l3.bA l3.bn l3.bc) from ⟨hB.out.cell 0, hB.out.cell 1, hB.out.cell 2, hB.out.cell 3, hB.out.cell 4, hB.out.cell 5⟩)
              have htk := tick_any l3 wr hok.out hsm3.out hn3.out
              rw [hv3.out] at htk
              simp only [lkV] at htk
              replace htk := Lib.hid htk
              clear ho hC hdd
              go_wp2_with fail
              refine htk.out.mono ?_; rintro e w8 ⟨⟨l5, A8, n8, c8, C8, rfl, -, -, hC8, hCd8, hCm8, -⟩, hq⟩
              clear htk m0 m1 m2 m3 m4 m5
              rw [hT.out] at hCm8
              simp only [lkV]
              obtain ⟨b0, hb0⟩ : ∃ b0, C8 = [b0] := by
                match C8, hCm8 with
                | [b0], _ => exact ⟨b0, rfl⟩
              subst hb0
              have hbd : b0.d = bd := by simpa using hCm8
              obtain ⟨xA, xn, xc, xd⟩ := b0
              simp only at hbd
              subst hbd
              have hn8 : n8 = 1 := by have := hC8.lenv; simpa using this
              subst hn8
              have hbo : BOwn w8 wr.heap.size (.slice xA xn xc) xd := hCd8 ⟨xA, xn, xc, xd⟩ (by simp)
              obtain rfl : xd.length = xn := by have := hbo.lenv; omega
              have hb8 : Hid (Below w.heap.size w (w8.alloc (.cells #[Value.int .i64 l5.now, Value.int .i64 l5.delay, Value.bool l5.cut, Value.int .i64 l5.count, Value.slice l5.lA l5.ln l5.lc, Value.slice l5.bA l5.bn l5.bc] 25))) := (hb.out.trans (hq.mono hb.out.size)).alloc (hb.out.trans (hq.mono hb.out.size)).size _
              have hrow := Lib.hid (rows_at (hC8.alloc (.cells #[Value.int .i64 l5.now, Value.int .i64 l5.delay, Value.bool l5.cut, Value.int .i64 l5.count, Value.slice l5.lA l5.ln l5.lc, Value.slice l5.bA l5.bn l5.bc] 25)))
              have hbs : Hid (BsAt (w8.alloc (.cells #[Value.int .i64 l5.now, Value.int .i64 l5.delay, Value.bool l5.cut, Value.int .i64 l5.count, Value.slice l5.lA l5.ln l5.lc, Value.slice l5.bA l5.bn l5.bc] 25)) ⟨xA, xd.length, xc, xd⟩) := bs_of_own (b := ⟨xA, xd.length, xc, xd⟩) (hbo.alloc _)
              obtain ⟨ad8, hA8, -, s0⟩ := s_cell hrow.out (show 0 < 1 by decide)
              have s1 : (w8.alloc (.cells #[Value.int .i64 l5.now, Value.int .i64 l5.delay, Value.bool l5.cut, Value.int .i64 l5.count, Value.slice l5.lA l5.ln l5.lc, Value.slice l5.bA l5.bn l5.bc] 25)).cell? ad8 = some (Value.slice xA xd.length xc) := by simpa [Addr.add] using s0
              simp only [List.getElem_cons_zero] at s0
              subst hA8
              have heq := Lib.hid (equal_any xA A xd.length xc xd.length c xd (w8.alloc (.cells #[Value.int .i64 l5.now, Value.int .i64 l5.delay, Value.bool l5.cut, Value.int .i64 l5.count, Value.slice l5.lA l5.ln l5.lc, Value.slice l5.bA l5.bn l5.bc] 25)) _ _ hbs.out.1 (h.out.more hb8.out))
              clear hC8 hCd8 hCm8 hbo hq hb
              go_wp2_with fail
              refine heq.out.mono ?_; rintro e we ⟨rfl, rfl⟩
              go_wp2_with fail
              go_ret
              exact ⟨rfl, hb8.out⟩
end Go.Proofs.Yteolglmdfjddlaa
