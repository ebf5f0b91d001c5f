/- Replicated servers: the law ReplicaOnce, walked. -/
import Derived.Test.YtiapeenfggjpnaaPV
set_option linter.unusedVariables false
set_option linter.unusedSimpArgs false
namespace Go.Proofs.Ytiapeenfggjpnaa
open Go.RowKit
theorem newR_zero {n : Int} (h : (newR n).2 = 0) : 1 ≤ n ∧ n ≤ 7 := by
  unfold newR at h
  split at h
  · cases h
  · omega
theorem newR_ok {n : Int} (h1 : 1 ≤ n) (h7 : n ≤ 7) : (newR n).1 = newC n := by
  unfold newR
  rw [if_neg (by omega)]
/-- the data that were committed before, beside the box g -/
structure KsAt (w : World) (g : Nat) (C : List En) (A : Option Addr) (n c : Nat) (L : List Bs) : Prop where
  at_ : LAt sC 1 w w.heap.size A n L
  q : InQ (fun b => b ≠ g) n A
  els : ∀ b ∈ L, BsQ w (fun b => b ≠ g) b
  eq : L.map (·.d) = C.map (·.d)
theorem KsAt.nil (w : World) (g : Nat) : KsAt w g [] none 0 0 [] := ⟨LAt.nil sC_len _ _, fun h => absurd h (Nat.lt_irrefl 0), fun b hb => by simp at hb, rfl⟩
theorem KsAt.more {w w' : World} {g : Nat} {C : List En} {A : Option Addr} {n c : Nat} {L : List Bs} (h : KsAt w g C A n c L) (hb : Below w.heap.size w w') : KsAt w' g C A n c L := ⟨h.at_.more hb, h.q, fun b hx => (h.els b hx).more hb, h.eq⟩
theorem KsAt.st {w w' : World} {g : Nat} {C : List En} {A : Option Addr} {n c : Nat} {L : List Bs} (h : KsAt w g C A n c L) (hg : w.grownBy w' (some g)) : KsAt w' g C A n c L := ⟨LAt_grownO h.at_ (fun h0 ad e e2 => by injection e2 with e2; exact h.q h0 ad e e2) hg, h.q, fun b hx => (h.els b hx).st hg (fun b hb e => by injection e with e; exact hb e), h.eq⟩
theorem b_cell {w : World} {B : Nat} {A : Option Addr} {n : Nat} {l : List UInt8} (h : BAt w B A n l) {k : Nat} (hk : k < n) : ∃ ad, A = some ad ∧ ad.block < B ∧ w.cell? (ad.add k) = some (.int .u8 ((l[k]'(by rw [h.len]; exact hk)).toNat : Int)) := by
  obtain ⟨ad, hA, hb, hc⟩ := h.at_ hk
  refine ⟨ad, hA, hb, ?_⟩
  have := hc 0 _ rfl
  simpa using this
/-- which bytes were seen -/
def SeenAt (ds : List (List UInt8)) (q : Nat) (cur : Array Value) : Prop := cur.size = 256 ∧ ∀ i, i < 256 → cur[i]? = some (.bool (decide ([UInt8.ofNat i] ∈ ds.take q)))
theorem seen_zero (ds : List (List UInt8)) : SeenAt ds 0 (Array.replicate 256 (.bool false)) := by
  refine ⟨by simp, fun i hi => ?_⟩
  rw [Array.getElem?_replicate, if_pos hi]
  simp
theorem seen_at {ds : List (List UInt8)} {q : Nat} {u : UInt8} {cur : Array Value} (hd : ds.Nodup) (hq : ds[q]? = some [u]) (h : SeenAt ds q cur) : cur[u.toNat]? = some (.bool false) := by
  rw [h.2 u.toNat u.toNat_lt]
  have : [u] ∉ ds.take q := by
    intro hm
    obtain ⟨j, hj, e⟩ := List.getElem_of_mem hm
    obtain ⟨hql, eq⟩ := List.getElem?_eq_some_iff.1 hq
    have hjq : j < q := by rw [List.length_take] at hj; omega
    rw [List.getElem_take] at e
    exact (List.pairwise_iff_getElem.1 hd) j q (by omega) hql hjq (by rw [e, eq])
  rw [UInt8.ofNat_toNat, decide_eq_false this]
theorem seen_step {ds : List (List UInt8)} {q : Nat} {u : UInt8} {cur : Array Value} (hq : ds[q]? = some [u]) (h : SeenAt ds q cur) : SeenAt ds (q + 1) (cur.setIfInBounds u.toNat (.bool true)) := by
  refine ⟨by simpa using h.1, fun i hi => ?_⟩
  obtain ⟨hql, eq⟩ := List.getElem?_eq_some_iff.1 hq
  rw [List.take_succ_eq_append_getElem hql, eq]
  by_cases hiu : i = u.toNat
  · subst hiu
    rw [Array.getElem?_setIfInBounds_self_of_lt (by rw [h.1]; exact hi), UInt8.ofNat_toNat]
    simp
  · rw [Array.getElem?_setIfInBounds_ne (Ne.symm hiu), h.2 i hi]
    have : UInt8.ofNat i ≠ u := fun e => hiu (by rw [← e]; simp; omega)
    simp [this]
set_option maxRecDepth 100000 in
theorem zero52 (w : World) : (zeroValue 52).run Try.prog w = .ok (.agg (Array.replicate 256 (.bool false))) w := by kernel_rfl
set_option maxRecDepth 100000 in
set_option maxHeartbeats 8000000 in
theorem lawOnce (num : Int) (A : Option Addr) (n c : Nat) (ops : List Ox) (w : World) (hnw : (Lit.int .i64 num).wf = true) (h : LAt oC 3 w w.heap.size A n ops) (ho : ∀ x ∈ ops, OxAt w x) : Calls Try.prog 6 #[.int .i64 num, .slice A n c] w fun e w' => e = .returned (.bool true) ∧ Below w.heap.size w w' := by
  have hni := wf_i64' hnw
  clear hnw
  have hln : Hid (ops.length = n) := h.len
  replace h := Lib.hid h
  replace ho := Lib.hid ho
  obtain ⟨E, hE⟩ : ∃ E, E = (newR num).2 := ⟨_, rfl⟩
  replace hE := Lib.hid hE
  go_enter Try.func6, Try.ntmps6
  go_wp2_with fail
  refine (new_any num w).mono ?_; rintro e w1 ⟨⟨k0, rfl, hk, hv⟩, hq⟩
  rw [← hE.out]
  obtain ⟨p1, v1, m1, A1, n1, c1, l1⟩ := k0
  simp only [clV]
  have hb1 : Hid (Below w.heap.size w (w1.alloc (.cells #[Value.int .i64 p1, Value.int .i64 v1, Value.int .i64 m1, Value.slice A1 n1 c1] 24))) := hq.alloc hq.size _
  replace hk := Lib.hid hk
  replace hv := Lib.hid hv
  replace hq := Lib.hid hq
  by_cases hE0 : E ≠ 0
  · have hE1 : (E == 0) = false := by simpa using hE0
    go_wp2_with fail
    refine (ex_any _).mono ?_; rintro e w5 ⟨rfl, hq⟩
    go_wp2_with fail
    go_ret
    exact ⟨rfl, hb1.out.trans (hq.mono hb1.out.size)⟩
  replace hE0 : E = 0 := by simpa using hE0
  subst hE0
  have hnr := newR_zero hE.out.symm
  obtain ⟨M, rfl⟩ : ∃ M : Nat, num = (M : Int) := ⟨num.toNat, by omega⟩
  have hS : Hid (StOk w M 0 w1.heap.size [] (⟨p1, v1, m1, A1, n1, c1, l1⟩ : Cm) (w1.alloc (.cells #[Value.int .i64 p1, Value.int .i64 v1, Value.int .i64 m1, Value.slice A1 n1 c1] 24))) := StOk.new (by omega) (by omega) hq.out hk.out (hv.out.trans (by rw [newR_ok (by omega) (by omega)]))
  have hvO : Hid (Cm.val (⟨p1, v1, m1, A1, n1, c1, l1⟩ : Cm) = newC M) := hv.out.trans (by rw [newR_ok (by omega) (by omega)])
  clear hE hq hk hv
  by_cases q0 : 120 < n
  · have q0i : (120 : Int) < (n : Int) := by omega
    have q0d : decide ((120 : Int) < (n : Int)) = true := by simp; omega
    go_wp2_with fail
    refine (ex_any _).mono ?_; rintro e w5 ⟨rfl, hq⟩
    go_wp2_with fail
    go_ret
    exact ⟨rfl, hb1.out.trans (hq.mono hb1.out.size)⟩
  have q0i : ¬ (120 : Int) < (n : Int) := by omega
  have q0d : decide ((120 : Int) < (n : Int)) = false := by simp; omega
  go_wp2_with fail
  obtain ⟨g, hg⟩ : ∃ g, g = w1.heap.size := ⟨_, rfl⟩
  rw [← hg] at hS ⊢
  generalize (w1.alloc (.cells #[Value.int .i64 p1, Value.int .i64 v1, Value.int .i64 m1, Value.slice A1 n1 c1] 24)) = w2 at *
  clear hg hb1
  have h1once : Once 0 (Cm.val (⟨p1, v1, m1, A1, n1, c1, l1⟩ : Cm)) := by rw [hvO.out]; exact newC_once _
  go_loopw [27] (fun i wr => ∃ (j : Nat) (C : List En) (k : Cm), j ≤ n ∧ i = .int .i64 j ∧ Hid (StOk w M j g C k wr) ∧ Hid (Once j k.val)) (fun i _ => n - (intOf i).toNat)
  case atStart => exact ⟨0, [], _, Nat.zero_le _, rfl, hS.out, h1once⟩
  clear hS
  case round =>
    obtain ⟨j, C, k, hjn, rfl, hS, hO⟩ := hrel
    by_cases hlt : j < n
    · have hj0 : (0 : Int) ≤ j := by omega
      have hj1 : (j : Int) < n := by omega
      have hjl : j < ops.length := by have := hln.out; omega
      have hm120 : j ≤ 120 := by omega
      obtain ⟨ad, hA, -, e0, e1, e2⟩ := ox_cells (h.out.below hS.out.below (Nat.le_refl _)) hlt
      have hx : Hid (i64In ops[j].num) := (ho.out _ (List.getElem_mem hjl)).2
      generalize ops[j] = x at *
      obtain ⟨kind, onum, oA, on, oc, od⟩ := x
      (try simp only at e0 e1 e2)
      subst hA
      obtain ⟨p9, v9, m9, A9, n9, c9, l9⟩ := k
      have hub : Hid ((j : Int) = ((UInt8.ofNat j).toNat : Int)) := by show _ = _; simp; omega
      have hqx : Below wr.heap.size wr ((wr.alloc (.cells #[Value.int .i64 kind, Value.int .i64 onum, Value.slice (some ⟨wr.heap.size + 1, 0, none⟩) 1 1] 27)).alloc (.cells #[Value.int .u8 (j : Int)] 5)) := (a1 wr _).alloc (by simp) _
      have hSx := Lib.hid (hS.out.more hqx)
      have hdx : BAt ((wr.alloc (.cells #[Value.int .i64 kind, Value.int .i64 onum, Value.slice (some ⟨wr.heap.size + 1, 0, none⟩) 1 1] 27)).alloc (.cells #[Value.int .u8 (j : Int)] 5)) ((wr.alloc (.cells #[Value.int .i64 kind, Value.int .i64 onum, Value.slice (some ⟨wr.heap.size + 1, 0, none⟩) 1 1] 27)).alloc (.cells #[Value.int .u8 (j : Int)] 5)).heap.size (some ⟨wr.heap.size + 1, 0, none⟩) 1 [UInt8.ofNat j] := by
        have := lat_row bC_len (heap_alloc_new (wr.alloc (.cells #[Value.int .i64 kind, Value.int .i64 onum, Value.slice (some ⟨wr.heap.size + 1, 0, none⟩) 1 1] 27)) (.cells #[Value.int .u8 (j : Int)] 5)) [UInt8.ofNat j] (by show [Value.int .u8 (j : Int)] = [Value.int .u8 ((UInt8.ofNat j).toNat : Int)]; rw [hub.out])
        rw [show (wr.alloc (.cells #[Value.int .i64 kind, Value.int .i64 onum, Value.slice (some ⟨wr.heap.size + 1, 0, none⟩) 1 1] 27)).heap.size = wr.heap.size + 1 by simp] at this
        exact this
      have hcl := Lib.hid (hSx.out.call hm120 (x := ⟨kind, onum, some ⟨wr.heap.size + 1, 0, none⟩, 1, 1, [UInt8.ofNat j]⟩) ⟨⟨hdx, Nat.le_refl _, by simp [maxLen]⟩, hx.out⟩)
      have hox := Lib.hid ((Blk.new wr 27 #[Value.int .i64 kind, Value.int .i64 onum, Value.slice (some ⟨wr.heap.size + 1, 0, none⟩) 1 1]).alloc (.cells #[Value.int .u8 (j : Int)] 5))
      (try simp only [Ox.val] at hcl)
      obtain ⟨k0, k1, k2, k3⟩ := (show ((wr.alloc (.cells #[Value.int .i64 kind, Value.int .i64 onum, Value.slice (some ⟨wr.heap.size + 1, 0, none⟩) 1 1] 27)).alloc (.cells #[Value.int .u8 (j : Int)] 5)).cell? ⟨g, 0, none⟩ = some (Value.int .i64 p9) ∧ ((wr.alloc (.cells #[Value.int .i64 kind, Value.int .i64 onum, Value.slice (some ⟨wr.heap.size + 1, 0, none⟩) 1 1] 27)).alloc (.cells #[Value.int .u8 (j : Int)] 5)).cell? ⟨g, 1, none⟩ = some (Value.int .i64 v9) ∧ ((wr.alloc (.cells #[Value.int .i64 kind, Value.int .i64 onum, Value.slice (some ⟨wr.heap.size + 1, 0, none⟩) 1 1] 27)).alloc (.cells #[Value.int .u8 (j : Int)] 5)).cell? ⟨g, 2, none⟩ = some (Value.int .i64 m9) ∧ ((wr.alloc (.cells #[Value.int .i64 kind, Value.int .i64 onum, Value.slice (some ⟨wr.heap.size + 1, 0, none⟩) 1 1] 27)).alloc (.cells #[Value.int .u8 (j : Int)] 5)).cell? ⟨g, 3, none⟩ = some (Value.slice A9 n9 c9) from ⟨hSx.out.box.blk.cell 0, hSx.out.box.blk.cell 1, hSx.out.box.blk.cell 2, hSx.out.box.blk.cell 3⟩)
      obtain ⟨o0, o1, o2⟩ := (show ((wr.alloc (.cells #[Value.int .i64 kind, Value.int .i64 onum, Value.slice (some ⟨wr.heap.size + 1, 0, none⟩) 1 1] 27)).alloc (.cells #[Value.int .u8 (j : Int)] 5)).cell? ⟨wr.heap.size, 0, none⟩ = some (Value.int .i64 kind) ∧ ((wr.alloc (.cells #[Value.int .i64 kind, Value.int .i64 onum, Value.slice (some ⟨wr.heap.size + 1, 0, none⟩) 1 1] 27)).alloc (.cells #[Value.int .u8 (j : Int)] 5)).cell? ⟨wr.heap.size, 1, none⟩ = some (Value.int .i64 onum) ∧ ((wr.alloc (.cells #[Value.int .i64 kind, Value.int .i64 onum, Value.slice (some ⟨wr.heap.size + 1, 0, none⟩) 1 1] 27)).alloc (.cells #[Value.int .u8 (j : Int)] 5)).cell? ⟨wr.heap.size, 2, none⟩ = some (Value.slice (some ⟨wr.heap.size + 1, 0, none⟩) 1 1) from ⟨hox.out.cell 0, hox.out.cell 1, hox.out.cell 2⟩)
      clear hqx hdx hox
      replace hub := hub
      go_wp2_with fail
      refine hcl.out.mono ?_; rintro e w2 ⟨⟨k', rfl, hk', hv'⟩, hq⟩
      clear hcl k0 k1 k2 k3 o0 o1 o2 e0 e1 e2
      obtain ⟨p8, v8, m8, A8, n8, c8, l8⟩ := k'
      simp only [clV]
      obtain ⟨C', hpre, hi, -⟩ := call_inv hSx.out.inv (⟨kind, onum, [UInt8.ofNat j]⟩ : Oc)
      have hcf := call_from hSx.out.inv (⟨kind, onum, [UInt8.ofNat j]⟩ : Oc)
      have hO2 : Hid (Once (j + 1) (Cm.val (⟨p8, v8, m8, A8, n8, c8, l8⟩ : Cm))) := by
        show Once _ _
        rw [hv']
        exact hO.out.step (by omega) hcf
      have hS2 : Hid (StOk w M (j + 1) g C' (⟨p8, v8, m8, A8, n8, c8, l8⟩ : Cm) ((((w2.setCell ⟨g, 0, none⟩ (Value.int .i64 p8)).setCell ⟨g, 1, none⟩ (Value.int .i64 v8)).setCell ⟨g, 2, none⟩ (Value.int .i64 m8)).setCell ⟨g, 3, none⟩ (Value.slice A8 n8 c8))) := StOk.next hSx.out hq hk' hv' hi hcf
      have hX2 := Lib.hid (hSx.out.box.blk.below hq hSx.out.box.blk.lt)
      clear hk' hv' hi hcf hq hS hSx hO hpre
      obtain ⟨k0, k1, k2, k3, z0, z1, z2, z3⟩ := (show w2.cell? ⟨g, 0, none⟩ = some (Value.int .i64 p9) ∧ w2.cell? ⟨g, 1, none⟩ = some (Value.int .i64 v9) ∧ w2.cell? ⟨g, 2, none⟩ = some (Value.int .i64 m9) ∧ w2.cell? ⟨g, 3, none⟩ = some (Value.slice A9 n9 c9) ∧ w2.frozen? ⟨g, 0, none⟩ = false ∧ w2.frozen? ⟨g, 1, none⟩ = false ∧ w2.frozen? ⟨g, 2, none⟩ = false ∧ w2.frozen? ⟨g, 3, none⟩ = false from ⟨hX2.out.cell 0, hX2.out.cell 1, hX2.out.cell 2, hX2.out.cell 3, hX2.out.frozen 0, hX2.out.frozen 1, hX2.out.frozen 2, hX2.out.frozen 3⟩)
      clear hX2
      go_wp2_with fail
      go_roundw
      case rel => exact ⟨j + 1, C', _, by omega, by go_num, hS2.out, hO2.out⟩
      case measure => simp [intOf]; omega
    · obtain ⟨p9, v9, m9, A9, n9, c9, l9⟩ := k
      obtain ⟨k0, k1, k2, k3⟩ := (show wr.cell? ⟨g, 0, none⟩ = some (Value.int .i64 p9) ∧ wr.cell? ⟨g, 1, none⟩ = some (Value.int .i64 v9) ∧ wr.cell? ⟨g, 2, none⟩ = some (Value.int .i64 m9) ∧ wr.cell? ⟨g, 3, none⟩ = some (Value.slice A9 n9 c9) from ⟨hS.out.box.blk.cell 0, hS.out.box.blk.cell 1, hS.out.box.blk.cell 2, hS.out.box.blk.cell 3⟩)
      obtain ⟨zs, hzs⟩ : ∃ zs : Array Value, zs = Array.replicate 256 (.bool false) := ⟨_, rfl⟩
      have hz : ∀ w, (zeroValue 52).run Try.prog w = .ok (.agg zs) w := fun w => by rw [hzs]; exact zero52 w
      have hsn : Hid (SeenAt (C.map (·.d)) 0 zs) := by rw [hzs]; exact seen_zero _
      have hm120 : j ≤ 120 := by omega
      have hz9 := Lib.hid (Blk.new wr 52 zs)
      have hS2 := Lib.hid (hS.out.more (a1 wr (.cells zs 52)))
      have hgw : Hid (w.heap.size ≤ wr.heap.size) := hS.out.below.size
      have hds := Lib.hid (once_com hS.out.inv hO.out)
      have hm255 : j ≤ 120 := by omega
      clear k0 k1 k2 k3 hzs hO
      obtain ⟨k0, k1, k2, k3⟩ := (show (wr.alloc (.cells zs 52)).cell? ⟨g, 0, none⟩ = some (Value.int .i64 p9) ∧ (wr.alloc (.cells zs 52)).cell? ⟨g, 1, none⟩ = some (Value.int .i64 v9) ∧ (wr.alloc (.cells zs 52)).cell? ⟨g, 2, none⟩ = some (Value.int .i64 m9) ∧ (wr.alloc (.cells zs 52)).cell? ⟨g, 3, none⟩ = some (Value.slice A9 n9 c9) from ⟨hS2.out.box.blk.cell 0, hS2.out.box.blk.cell 1, hS2.out.box.blk.cell 2, hS2.out.box.blk.cell 3⟩)
      go_wp2_with fail
      refine (hS2.out.com hm120).mono ?_; rintro e w4 ⟨⟨A6, n6, c6, C6, rfl, hL6, hcp6, hQ6, hB6, hC6⟩, hq⟩
      clear k0 k1 k2 k3 hz
      have hgw4 : wr.heap.size < (wr.alloc (.cells zs 52)).heap.size := by simp
      have hN : Hid (KsAt w4 wr.heap.size C A6 n6 c6 C6) := ⟨hL6, hQ6.imp (fun b hb => by omega), fun b hb => (hB6 b hb).imp (fun b hb => by omega), hC6⟩
      have hz4 := Lib.hid (hz9.out.below hq hgw4)
      have hb4 : Hid (Below w.heap.size w w4) := hS2.out.below.trans (hq.mono hS2.out.below.size)
      have hmx : n6 ≤ 9223372036854775807 := by have := hcp6; simp only [maxLen] at this; omega
      have hn6 : Hid (n6 = (C.map (·.d)).length) := by
        show _ = _
        rw [← hC6, List.length_map]
        exact hL6.len.symm
      clear hL6 hcp6 hQ6 hB6 hC6 hq hz9 hS2 hS
      obtain ⟨g9, hg9⟩ : ∃ g9, g9 = wr.heap.size := ⟨_, rfl⟩
      rw [← hg9] at hN hz4 hgw ⊢
      clear hg9 hgw4
      go_wp2_with fail
      go_loopw [49] (fun i wr => ∃ (q : Nat) (cur : Array Value), q ≤ n6 ∧ i = .int .i64 q ∧ Hid (Blk wr g9 52 cur) ∧ Hid (SeenAt (C.map (·.d)) q cur) ∧ Hid (KsAt wr g9 C A6 n6 c6 C6) ∧ Hid (Below w.heap.size w wr)) (fun i _ => n6 - (intOf i).toNat)
      case atStart => exact ⟨0, _, Nat.zero_le _, rfl, hz4.out, hsn.out, hN.out, hb4.out⟩
      clear hz4 hsn hN hb4
      case round =>
        obtain ⟨q, cur, hqn, rfl, hz, hsn, hN, hb⟩ := hrel
        by_cases hql : q < n6
        · have hq0 : (0 : Int) ≤ q := by omega
          have hq1 : (q : Int) < n6 := by omega
          obtain ⟨ad6, hA6, -, t0⟩ := s_cell hN.out.at_ hql
          have hl6 : q < C6.length := by rw [hN.out.at_.len]; exact hql
          have hel := hN.out.els _ (List.getElem_mem hl6)
          have hdq : (C.map (·.d))[q]? = some C6[q].d := by rw [← hN.out.eq, List.getElem?_map, List.getElem?_eq_getElem hl6]; rfl
          generalize C6[q] = y6 at *
          obtain ⟨yA, yn, yc, yd⟩ := y6
          simp only at t0 hel hdq
          obtain ⟨i, hi, hyd⟩ := hds.out.2 yd (List.mem_of_getElem? hdq)
          obtain ⟨u, hu⟩ : ∃ u : UInt8, u = UInt8.ofNat i := ⟨_, rfl⟩
          rw [← hu] at hyd
          clear hu hi
          subst hyd
          have hyn : yn = 1 := hel.at_.len.symm
          subst hyn
          obtain ⟨adb, hAb, -, y0⟩ := b_cell hel.at_ (show 0 < 1 by decide)
          have y1 : wr.cell? adb = some (Value.int .u8 (u.toNat : Int)) := by simpa [Addr.add] using y0
          simp only [List.getElem_cons_zero] at y0
          (try simp only at hAb)
          subst hAb
          subst hA6
          have hu0 : (0 : Int) ≤ u.toNat := by omega
          have hu1 : (u.toNat : Int) < 256 := by have := u.toNat_lt; omega
          have hcu : wr.cell? ⟨g9, u.toNat, none⟩ = some (Value.bool false) := (hz.out.cell _).trans (seen_at hds.out.1 hdq hsn.out)
          have hcf : wr.frozen? ⟨g9, u.toNat, none⟩ = false := hz.out.frozen _
          have hz2 := Lib.hid (hz.out.set_ u.toNat (Value.bool true))
          have hsn2 := Lib.hid (seen_step hdq hsn.out)
          have hN2 : Hid (KsAt (wr.setCell ⟨g9, u.toNat, none⟩ (Value.bool true)) g9 C (some ad6) n6 c6 C6) := hN.out.st (only_set (World.grownBy.refl _ _) _ _)
          have hb2 : Hid (Below w.heap.size w (wr.setCell ⟨g9, u.toNat, none⟩ (Value.bool true))) := below_set hb.out hgw.out _ _
          replace hdq := Lib.hid hdq
          clear hel
          go_wp2_with fail
          go_roundw
          case rel => exact ⟨q + 1, _, by omega, by go_num, hz2.out, hsn2.out, hN2.out, hb2.out⟩
          case measure => simp [intOf]; omega
        · go_wp2_with fail
          refine (ex_any _).mono ?_; rintro e w5 ⟨rfl, hq⟩
          go_wp2_with fail
          go_ret
          exact ⟨rfl, hb.out.trans (hq.mono hb.out.size)⟩
end Go.Proofs.Ytiapeenfggjpnaa
