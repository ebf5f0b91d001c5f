/- Replicated servers: the law ReplicaServes, walked. -/
import Derived.Test.YtiapeenfggjpnaaPV
import Derived.Test.YtiapeenfggjpnaaRW
set_option linter.unusedVariables false
set_option linter.unusedSimpArgs false
namespace Go.Proofs.Ytiapeenfggjpnaa
open Go.RowKit
theorem newR_zero {n : Int} (h : (newR n).2 = 0) : 1 ≤ n ∧ n ≤ 7 := by
  unfold newR at h
  split at h
  · cases h
  · omega
theorem newR_ok {n : Int} (h1 : 1 ≤ n) (h7 : n ≤ 7) : (newR n).1 = newC n := by
  unfold newR
  rw [if_neg (by omega)]
theorem tick_good {m : Nat} {c : Cv} {C : List En} (h : Inv c C) (hg : Good m c) : Good m (tickC c) := by
  by_cases hm : majN c.servers.length (countUp c.servers) = true
  · by_cases hv : 0 ≤ c.primary ∨ c.view < 2147483647
    · obtain ⟨p, hp, -, -, -, -, h1, h2⟩ := tick_full h hm hv
      have hv2 := hg.v2
      refine ⟨by omega, fun t ht => ?_⟩
      rw [h1] at ht
      obtain ⟨j, hj, rfl⟩ := List.getElem_of_mem ht
      obtain ⟨s, hs, e⟩ := bringS_at _ _ _ _ _ (List.getElem?_eq_getElem hj)
      rw [e]
      by_cases hu : s.up = true
      · rw [if_pos hu]
        obtain ⟨a1, a2, a3, a4⟩ := hg.all p hp
        refine ⟨logE_mono ?_ _ _ _ a1, a2, a3, a4⟩
        have := (h.sv p hp).2
        show p.view ≤ (tickC c).view
        omega
      · rw [if_neg hu]
        exact hg.all s (List.mem_of_getElem? hs)
    · rw [show tickC c = c by unfold tickC; rw [if_pos (.inr (by omega))]]
      exact hg
  · rw [tick_still (by simpa using hm)]
    exact hg
theorem countUp_bring (V : Int) (L : List En) (l : List Sv) : countUp (bringS V L l) = countUp l := by
  unfold countUp bringS
  rw [List.countP_map]
  refine List.countP_congr (fun s _ => ?_)
  simp only [Function.comp]
  cases h : s.up <;> simp [h]
/-- what call hands back, as one value and in its parts -/
def CaT (g : Nat) (r : Cv × Int × Int) (v : Value) (w : World) : Prop := ∃ k', v = .tuple #[clV k', .int .i64 r.2.1, .int .i64 r.2.2] ∧ CmAt w (fun b => b ≠ g) k' ∧ k'.val = r.1
def CaA (g : Nat) (r : Cv) (v : Value) (w : World) : Prop := ∃ k', v = clV k' ∧ CmAt w (fun b => b ≠ g) k' ∧ k'.val = r
theorem CaT.more {g : Nat} {r : Cv × Int × Int} {v : Value} {w w' : World} (h : CaT g r v w) (hb : Below w.heap.size w w') : CaT g r v w' := by
  obtain ⟨k', h0, h1, h2⟩ := h
  exact ⟨k', h0, h1.more hb, h2⟩
theorem CaA.more {g : Nat} {r : Cv} {v : Value} {w w' : World} (h : CaA g r v w) (hb : Below w.heap.size w w') : CaA g r v w' := by
  obtain ⟨k', h0, h1, h2⟩ := h
  exact ⟨k', h0, h1.more hb, h2⟩
theorem CaT.st {g : Nat} {r : Cv × Int × Int} {v : Value} {w w' : World} (h : CaT g r v w) (hg : w.grownBy w' (some g)) : CaT g r v w' := by
  obtain ⟨k', h0, h1, h2⟩ := h
  exact ⟨k', h0, h1.st hg (fun b hb e => by injection e with e; exact hb e), h2⟩
theorem CaA.st {g : Nat} {r : Cv} {v : Value} {w w' : World} (h : CaA g r v w) (hg : w.grownBy w' (some g)) : CaA g r v w' := by
  obtain ⟨k', h0, h1, h2⟩ := h
  exact ⟨k', h0, h1.st hg (fun b hb e => by injection e with e; exact hb e), h2⟩
def F5s (g n c j : Nat) (ad : Addr) (Xv Yv : Array Value) (r : Cv × Int × Int) : Tmp → Value → World → Prop
  | 1, v, _ => v = .slice (some ad) n c
  | 7, v, _ => v = .pointer (some ⟨g, 0, none⟩)
  | 9, v, _ => v = .int .i64 (j : Int)
  | 43, v, w => CaT g r v w
  | 44, v, _ => v = .agg Xv
  | 45, v, _ => v = .slice (some ad) n c
  | 46, v, _ => v = .int .i64 (j : Int)
  | 47, v, _ => v = .pointer (some (ad.add (j * 3)))
  | 48, v, _ => v = .agg Yv
  | 49, v, w => CaT g r v w
  | 50, v, w => CaA g r.1 v w
  | 51, v, _ => v = .int .i64 r.2.1
  | 52, v, _ => v = .int .i64 r.2.2
  | _, _, _ => True
theorem F5s_more {g n c j : Nat} {ad : Addr} {Xv Yv : Array Value} {r : Cv × Int × Int} (d t : Tmp) (v : Value) (w w' : World) (hR : Rb w w') (hne : t ≠ d) (hc : ([] : List (Tmp × Tmp)).contains (d, t) = false) (h : F5s g n c j ad Xv Yv r t v w) : F5s g n c j ad Xv Yv r t v w' := by
  unfold F5s at *
  split at h <;> first | exact h | exact CaT.more h hR | exact fun hg => CaT.more (h hg) hR | exact CaA.more h hR | exact fun hg => CaA.more (h hg) hR
theorem F5s_st {g n c j : Nat} {ad : Addr} {Xv Yv : Array Value} {r : Cv × Int × Int} (t : Tmp) (v : Value) (w w' : World) (hg : w.grownBy w' (some g)) (h : F5s g n c j ad Xv Yv r t v w) : F5s g n c j ad Xv Yv r t v w' := by
  unfold F5s at *
  split at h <;> first | exact h | exact CaT.st h hg | exact CaA.st h hg
set_option maxRecDepth 100000 in
set_option maxHeartbeats 8000000 in
theorem lawServes (num : Int) (A : Option Addr) (n c : Nat) (ops : List Ox) (dA : Option Addr) (dn dc : Nat) (data : List UInt8) (w : World) (hnw : (Lit.int .i64 num).wf = true) (h : LAt oC 3 w w.heap.size A n ops) (ho : ∀ x ∈ ops, OxAt w x) (hd : BAt w w.heap.size dA dn data) (hdc : dn ≤ dc) (hdm : dc ≤ maxLen) : Calls Try.prog 5 #[.int .i64 num, .slice A n c, .slice dA dn dc] w fun e w' => e = .returned (.bool true) ∧ Below w.heap.size w w' := by
  have hni := wf_i64' hnw
  clear hnw
  have hln : Hid (ops.length = n) := h.len
  have hdl := hd.len
  subst hdl
  replace h := Lib.hid h
  replace ho := Lib.hid ho
  replace hd := Lib.hid hd
  obtain ⟨E, hE⟩ : ∃ E, E = (newR num).2 := ⟨_, rfl⟩
  replace hE := Lib.hid hE
  go_enter Try.func5, Try.ntmps5
  go_wp2_with fail
  refine (new_any num w).mono ?_; rintro e w1 ⟨⟨k0, rfl, hk, hv⟩, hq⟩
  rw [← hE.out]
  obtain ⟨p1, v1, m1, A1, n1, c1, l1⟩ := k0
  simp only [clV]
  have hb1 : Hid (Below w.heap.size w (w1.alloc (.cells #[Value.int .i64 p1, Value.int .i64 v1, Value.int .i64 m1, Value.slice A1 n1 c1] 24))) := hq.alloc hq.size _
  replace hk := Lib.hid hk
  replace hv := Lib.hid hv
  replace hq := Lib.hid hq
  by_cases hE0 : E ≠ 0
  · have hE1 : (E == 0) = false := by simpa using hE0
    go_wp2_with fail
    refine (ex_any _).mono ?_; rintro e w5 ⟨rfl, hq⟩
    go_wp2_with fail
    go_ret
    exact ⟨rfl, hb1.out.trans (hq.mono hb1.out.size)⟩
  replace hE0 : E = 0 := by simpa using hE0
  subst hE0
  have hnr := newR_zero hE.out.symm
  obtain ⟨M, rfl⟩ : ∃ M : Nat, num = (M : Int) := ⟨num.toNat, by omega⟩
  have hS : Hid (StOk w M 0 w1.heap.size [] (⟨p1, v1, m1, A1, n1, c1, l1⟩ : Cm) (w1.alloc (.cells #[Value.int .i64 p1, Value.int .i64 v1, Value.int .i64 m1, Value.slice A1 n1 c1] 24))) := StOk.new (by omega) (by omega) hq.out hk.out (hv.out.trans (by rw [newR_ok (by omega) (by omega)]))
  have hvO : Hid (Cm.val (⟨p1, v1, m1, A1, n1, c1, l1⟩ : Cm) = newC M) := hv.out.trans (by rw [newR_ok (by omega) (by omega)])
  clear hE hq hk hv
  go_wp2_with fail
  refine (long_any A n c ops _ (h.out.more hb1.out)).mono ?_; rintro e w2 ⟨⟨b, rfl, hn120⟩, hq⟩
  have hb2 := Lib.hid (hb1.out.trans (hq.mono hb1.out.size))
  cases b with
  | true =>
    go_wp2_with fail
    refine (ex_any _).mono ?_; rintro e w5 ⟨rfl, hq⟩
    go_wp2_with fail
    go_ret
    exact ⟨rfl, hb2.out.trans (hq.mono hb2.out.size)⟩
  | false =>
  replace hn120 := hn120 rfl
  by_cases q0 : 8198 < data.length
  · have q0i : (8198 : Int) < (data.length : Int) := by omega
    have q0d : decide ((8198 : Int) < (data.length : Int)) = true := by simp; omega
    go_wp2_with fail
    refine (ex_any _).mono ?_; rintro e w5 ⟨rfl, hq⟩
    go_wp2_with fail
    go_ret
    exact ⟨rfl, hb2.out.trans (hq.mono hb2.out.size)⟩
  have q0i : ¬ (8198 : Int) < (data.length : Int) := by omega
  have q0d : decide ((8198 : Int) < (data.length : Int)) = false := by simp; omega
  have hS2 := Lib.hid (hS.out.more hq)
  clear hS hq hb2 hb1
  go_wp2_with fail
  obtain ⟨g, hg⟩ : ∃ g, g = w1.heap.size := ⟨_, rfl⟩
  rw [← hg] at hS2 ⊢
  clear hg
  have h1v : v1 ≤ 1 + ((0 : Nat) : Int) := by
    have e : v1 = (newC (M : Int)).view := congrArg Cv.view hvO.out
    rw [e]
    show (1 : Int) ≤ _
    decide
  go_loopw [40] (fun i wr => ∃ (j : Nat) (C : List En) (k : Cm), j ≤ n ∧ i = .int .i64 j ∧ Hid (StOk w M j g C k wr) ∧ Hid (k.view ≤ 1 + (j : Int))) (fun i _ => n - (intOf i).toNat)
  case atStart => exact ⟨0, [], _, Nat.zero_le _, rfl, hS2.out, h1v⟩
  clear hS2
  case round =>
    obtain ⟨j, C, k, hjn, rfl, hS, hV⟩ := hrel
    by_cases hlt : j < n
    · have hj0 : (0 : Int) ≤ j := by omega
      have hj1 : (j : Int) < n := by omega
      have hjl : j < ops.length := by have := hln.out; omega
      have hm120 : j ≤ 120 := by omega
      obtain ⟨ad, hA, -, -, -, -⟩ := ox_cells (h.out.below hS.out.below (Nat.le_refl _)) hlt
      subst hA
      have hcello0 : Hid (∀ wz, Below w.heap.size w wz → wz.cell? (ad.add (j * 3)) = some (Value.int .i64 ops[j].kind) ∧ wz.cell? ⟨(ad.add (j * 3)).block, (ad.add (j * 3)).off + 1, none⟩ = some (Value.int .i64 ops[j].num) ∧ wz.cell? ⟨(ad.add (j * 3)).block, (ad.add (j * 3)).off + 2, none⟩ = some (Value.slice ops[j].A ops[j].n ops[j].c)) := fun wz hz => by
        obtain ⟨ad', hA', -, e0, e1, e2⟩ := ox_cells (h.out.below hz (Nat.le_refl _)) hlt
        injection hA' with hA'
        subst hA'
        exact ⟨e0, e1, e2⟩
      have hox : Hid (OxAt w ops[j]) := ho.out _ (List.getElem_mem hjl)
      generalize ops[j] = x at *
      obtain ⟨kind, onum, oA, on, oc, od⟩ := x
      obtain rfl : od.length = on := hox.out.1.1.len
      (try simp only at hcello0)
      have hcello : Hid (∀ wz, Below wr.heap.size wr wz → wz.cell? (ad.add (j * 3)) = some (Value.int .i64 kind) ∧ wz.cell? ⟨(ad.add (j * 3)).block, (ad.add (j * 3)).off + 1, none⟩ = some (Value.int .i64 onum) ∧ wz.cell? ⟨(ad.add (j * 3)).block, (ad.add (j * 3)).off + 2, none⟩ = some (Value.slice oA od.length oc)) := fun wz hz => hcello0.out wz (hS.out.below.trans (hz.mono hS.out.below.size))
      obtain ⟨p9, v9, m9, A9, n9, c9, l9⟩ := k
      have hcell : Hid (∀ wz, Below wr.heap.size wr wz → wz.cell? ⟨g, 0, none⟩ = some (Value.int .i64 p9) ∧ wz.cell? ⟨g, 1, none⟩ = some (Value.int .i64 v9) ∧ wz.cell? ⟨g, 2, none⟩ = some (Value.int .i64 m9) ∧ wz.cell? ⟨g, 3, none⟩ = some (Value.slice A9 n9 c9)) := fun wz hz => by
        have q := hS.out.box.blk.below hz hS.out.box.blk.lt
        exact ⟨q.cell 0, q.cell 1, q.cell 2, q.cell 3⟩
      have hcellz : Hid (∀ wz, Below wr.heap.size wr wz → wz.cell? ⟨g, 0, none⟩ = some (Value.int .i64 p9) ∧ wz.cell? ⟨g, 1, none⟩ = some (Value.int .i64 v9) ∧ wz.cell? ⟨g, 2, none⟩ = some (Value.int .i64 m9) ∧ wz.cell? ⟨g, 3, none⟩ = some (Value.slice A9 n9 c9) ∧ wz.frozen? ⟨g, 0, none⟩ = false ∧ wz.frozen? ⟨g, 1, none⟩ = false ∧ wz.frozen? ⟨g, 2, none⟩ = false ∧ wz.frozen? ⟨g, 3, none⟩ = false) := fun wz hz => by
        have q := hS.out.box.blk.below hz hS.out.box.blk.lt
        exact ⟨q.cell 0, q.cell 1, q.cell 2, q.cell 3, q.frozen 0, q.frozen 1, q.frozen 2, q.frozen 3⟩
      obtain ⟨r, hr⟩ : ∃ r, r = callC (Cm.val (⟨p9, v9, m9, A9, n9, c9, l9⟩ : Cm)) (⟨kind, onum, od⟩ : Oc) := ⟨_, rfl⟩
      have hcl : Hid (∀ wz, Below wr.heap.size wr wz → Calls Try.prog 13 #[.agg #[Value.int .i64 p9, Value.int .i64 v9, Value.int .i64 m9, Value.slice A9 n9 c9], .agg #[Value.int .i64 kind, Value.int .i64 onum, Value.slice oA od.length oc]] wz fun e w' => (∃ v9, e = .returned v9 ∧ CaT g r v9 w') ∧ Below wz.heap.size wz w') := fun wz hz => ((hS.out.more hz).call hm120 (hox.out.more (hS.out.below.trans (hz.mono hS.out.below.size)))).mono (by
        rintro e w' ⟨⟨k', rfl, hk', hv'⟩, hq'⟩
        have hlt := (hS.out.more hz).box.blk.lt
        refine ⟨⟨_, rfl, k', by rw [hr]; rfl, hk'.imp (fun b hb => hb.elim (fun h => h) (fun h => by omega)), by rw [hr]; exact hv'⟩, hq'⟩)
      replace hr := Lib.hid hr
      go_wp2_with fail
      refine RW.region [] [] 11 10 (F := fun _ => F5s g n c j ad #[Value.int .i64 p9, Value.int .i64 v9, Value.int .i64 m9, Value.slice A9 n9 c9] #[Value.int .i64 kind, Value.int .i64 onum, Value.slice oA od.length oc] r) (W := fun ph wz => if ph = true then ∃ (w8 : World) (k' : Cm), Below wr.heap.size wr w8 ∧ wz = ((((w8.setCell ⟨g, 0, none⟩ (Value.int .i64 k'.primary)).setCell ⟨g, 1, none⟩ (Value.int .i64 k'.view)).setCell ⟨g, 2, none⟩ (Value.int .i64 k'.commit)).setCell ⟨g, 3, none⟩ (Value.slice k'.A k'.n k'.c)) ∧ CmAt w8 (fun b => b ≠ g) k' ∧ k'.val = r.1 else Below wr.heap.size wr wz) (R := fun _ => Rb) rfl (fun _ => F5s_more) (by kernel_rfl) (by kernel_rfl) (by kernel_rfl) (by kernel_rfl) (by kernel_rfl) (by kernel_rfl) (by decide) rfl rfl ?_ ?_ ?_ ?_ ?_
      · show if false = true then _ else _
        rw [if_neg (by decide)]
        exact (Below.refl _ _).drew
      · intro t ht
        unfold F5s
        split <;> first | trivial | exact rfl | (exact absurd ht (by decide))
      · intro ph i o hi his hpa ho
        have hcs : i = 0 ∨ i = 1 ∨ i = 2 ∨ i = 3 ∨ i = 4 ∨ i = 5 ∨ i = 6 ∨ i = 7 ∨ i = 8 ∨ i = 9 := by omega
        rcases hcs with rfl | rfl | rfl | rfl | rfl | rfl | rfl | rfl | rfl | rfl <;> (injection ho with ho; subst ho)
        · have hph : ph = false := by
            cases ph with
            | false => rfl
            | true => exact absurd ((show RW.ahead _ 10 0 = true by kernel_rfl).symm.trans (hpa rfl)) (by decide)
          subst hph
          intro a w2 hw0 _ hf K hK
          have hK' : ∀ d v w', _ = some d → F5s g n c j ad #[Value.int .i64 p9, Value.int .i64 v9, Value.int .i64 m9, Value.slice A9 n9 c9] #[Value.int .i64 kind, Value.int .i64 onum, Value.slice oA od.length oc] r d v w' → (Below wr.heap.size wr w') → Rb w2 w' → _ → K (a.put (some d) v) w' := fun d v w' h1 h2 h3 h4 h5 => hK d v w' h1 h2 (by simpa using h3) h4 h5
          have hw : Below wr.heap.size wr w2 := by simpa using hw0
          have f0 := hf 7 rfl
          simp only [F5s] at f0
          clear hf
          obtain ⟨a0, a1, a2, a3⟩ := hcell.out w2 hw
          go_simp
          exact hK' _ _ _ rfl rfl hw (Below.refl _ _) (fun h => absurd h (by decide))
        · have hph : ph = false := by
            cases ph with
            | false => rfl
            | true => exact absurd ((show RW.ahead _ 10 1 = true by kernel_rfl).symm.trans (hpa rfl)) (by decide)
          subst hph
          intro a w2 hw0 _ hf K hK
          have hK' : ∀ d v w', _ = some d → F5s g n c j ad #[Value.int .i64 p9, Value.int .i64 v9, Value.int .i64 m9, Value.slice A9 n9 c9] #[Value.int .i64 kind, Value.int .i64 onum, Value.slice oA od.length oc] r d v w' → (Below wr.heap.size wr w') → Rb w2 w' → _ → K (a.put (some d) v) w' := fun d v w' h1 h2 h3 h4 h5 => hK d v w' h1 h2 (by simpa using h3) h4 h5
          have hw : Below wr.heap.size wr w2 := by simpa using hw0
          have f0 := hf 1 rfl
          simp only [F5s] at f0
          clear hf
          go_simp
          exact hK' _ _ _ rfl rfl hw (Below.refl _ _) (fun h => absurd h (by decide))
        · have hph : ph = false := by
            cases ph with
            | false => rfl
            | true => exact absurd ((show RW.ahead _ 10 2 = true by kernel_rfl).symm.trans (hpa rfl)) (by decide)
          subst hph
          intro a w2 hw0 _ hf K hK
          have hK' : ∀ d v w', _ = some d → F5s g n c j ad #[Value.int .i64 p9, Value.int .i64 v9, Value.int .i64 m9, Value.slice A9 n9 c9] #[Value.int .i64 kind, Value.int .i64 onum, Value.slice oA od.length oc] r d v w' → (Below wr.heap.size wr w') → Rb w2 w' → _ → K (a.put (some d) v) w' := fun d v w' h1 h2 h3 h4 h5 => hK d v w' h1 h2 (by simpa using h3) h4 h5
          have hw : Below wr.heap.size wr w2 := by simpa using hw0
          have f0 := hf 9 rfl
          simp only [F5s] at f0
          clear hf
          go_simp
          exact hK' _ _ _ rfl rfl hw (Below.refl _ _) (fun h => absurd h (by decide))
        · have hph : ph = false := by
            cases ph with
            | false => rfl
            | true => exact absurd ((show RW.ahead _ 10 3 = true by kernel_rfl).symm.trans (hpa rfl)) (by decide)
          subst hph
          intro a w2 hw0 _ hf K hK
          have hK' : ∀ d v w', _ = some d → F5s g n c j ad #[Value.int .i64 p9, Value.int .i64 v9, Value.int .i64 m9, Value.slice A9 n9 c9] #[Value.int .i64 kind, Value.int .i64 onum, Value.slice oA od.length oc] r d v w' → (Below wr.heap.size wr w') → Rb w2 w' → _ → K (a.put (some d) v) w' := fun d v w' h1 h2 h3 h4 h5 => hK d v w' h1 h2 (by simpa using h3) h4 h5
          have hw : Below wr.heap.size wr w2 := by simpa using hw0
          have f0 := hf 45 rfl
          have f1 := hf 46 rfl
          simp only [F5s] at f0 f1
          clear hf
          go_simp
          exact hK' _ _ _ rfl rfl hw (Below.refl _ _) (fun h => absurd h (by decide))
        · have hph : ph = false := by
            cases ph with
            | false => rfl
            | true => exact absurd ((show RW.ahead _ 10 4 = true by kernel_rfl).symm.trans (hpa rfl)) (by decide)
          subst hph
          intro a w2 hw0 _ hf K hK
          have hK' : ∀ d v w', _ = some d → F5s g n c j ad #[Value.int .i64 p9, Value.int .i64 v9, Value.int .i64 m9, Value.slice A9 n9 c9] #[Value.int .i64 kind, Value.int .i64 onum, Value.slice oA od.length oc] r d v w' → (Below wr.heap.size wr w') → Rb w2 w' → _ → K (a.put (some d) v) w' := fun d v w' h1 h2 h3 h4 h5 => hK d v w' h1 h2 (by simpa using h3) h4 h5
          have hw : Below wr.heap.size wr w2 := by simpa using hw0
          have f0 := hf 47 rfl
          simp only [F5s] at f0
          clear hf
          obtain ⟨o0, o1, o2⟩ := hcello.out w2 hw
          go_simp
          exact hK' _ _ _ rfl rfl hw (Below.refl _ _) (fun h => absurd h (by decide))
        · have hph : ph = false := by
            cases ph with
            | false => rfl
            | true => exact absurd ((show RW.ahead _ 10 5 = true by kernel_rfl).symm.trans (hpa rfl)) (by decide)
          subst hph
          intro a w2 hw0 _ hf K hK
          have hK' : ∀ d v w', _ = some d → F5s g n c j ad #[Value.int .i64 p9, Value.int .i64 v9, Value.int .i64 m9, Value.slice A9 n9 c9] #[Value.int .i64 kind, Value.int .i64 onum, Value.slice oA od.length oc] r d v w' → (Below wr.heap.size wr w') → Rb w2 w' → _ → K (a.put (some d) v) w' := fun d v w' h1 h2 h3 h4 h5 => hK d v w' h1 h2 (by simpa using h3) h4 h5
          have hw : Below wr.heap.size wr w2 := by simpa using hw0
          have f0 := hf 44 rfl
          have f1 := hf 48 rfl
          simp only [F5s] at f0 f1
          clear hf
          go_simp
          refine (hcl.out w2 hw).mono ?_; rintro e w5 ⟨hP, hbq⟩
          obtain ⟨v9, rfl, hT⟩ := hP
          exact hK' _ _ _ rfl hT (hw.trans (hbq.mono hw.size)) hbq (fun h => absurd h (by decide))
        · have hph : ph = false := by
            cases ph with
            | false => rfl
            | true => exact absurd ((show RW.ahead _ 10 6 = true by kernel_rfl).symm.trans (hpa rfl)) (by decide)
          subst hph
          intro a w2 hw0 _ hf K hK
          have hK' : ∀ d v w', _ = some d → F5s g n c j ad #[Value.int .i64 p9, Value.int .i64 v9, Value.int .i64 m9, Value.slice A9 n9 c9] #[Value.int .i64 kind, Value.int .i64 onum, Value.slice oA od.length oc] r d v w' → (Below wr.heap.size wr w') → Rb w2 w' → _ → K (a.put (some d) v) w' := fun d v w' h1 h2 h3 h4 h5 => hK d v w' h1 h2 (by simpa using h3) h4 h5
          have hw : Below wr.heap.size wr w2 := by simpa using hw0
          have f0 := hf 49 rfl
          simp only [F5s] at f0
          clear hf
          have hT := Lib.hid f0
          clear f0
          go_simp
          exact hK' _ _ _ rfl hT.out hw (Below.refl _ _) (fun h => absurd h (by decide))
        · have hph : ph = false := by
            cases ph with
            | false => rfl
            | true => exact absurd ((show RW.ahead _ 10 7 = true by kernel_rfl).symm.trans (hpa rfl)) (by decide)
          subst hph
          intro a w2 hw0 _ hf K hK
          have hK' : ∀ d v w', _ = some d → F5s g n c j ad #[Value.int .i64 p9, Value.int .i64 v9, Value.int .i64 m9, Value.slice A9 n9 c9] #[Value.int .i64 kind, Value.int .i64 onum, Value.slice oA od.length oc] r d v w' → (Below wr.heap.size wr w') → Rb w2 w' → _ → K (a.put (some d) v) w' := fun d v w' h1 h2 h3 h4 h5 => hK d v w' h1 h2 (by simpa using h3) h4 h5
          have hw : Below wr.heap.size wr w2 := by simpa using hw0
          have f0 := hf 43 rfl
          simp only [F5s] at f0
          clear hf
          obtain ⟨k', hv, h1, h2⟩ := f0
          replace h1 := Lib.hid h1
          replace h2 := Lib.hid h2
          simp only [clV] at hv
          go_simp
          exact hK' _ _ _ rfl ⟨k', rfl, h1.out, h2.out⟩ hw (Below.refl _ _) (fun h => absurd h (by decide))
        · intro a w2 hw _ hf K hK
          have f0 := hf 43 rfl
          simp only [F5s] at f0
          clear hf
          obtain ⟨k', hv, h1, h2⟩ := f0
          replace h1 := Lib.hid h1
          replace h2 := Lib.hid h2
          simp only [clV] at hv
          go_simp
          exact hK _ _ _ rfl rfl hw (Below.refl _ _) (fun h => absurd h (by decide))
        · intro a w2 hw _ hf K hK
          have f0 := hf 43 rfl
          simp only [F5s] at f0
          clear hf
          obtain ⟨k', hv, h1, h2⟩ := f0
          replace h1 := Lib.hid h1
          replace h2 := Lib.hid h2
          simp only [clV] at hv
          go_simp
          exact hK _ _ _ rfl rfl hw (Below.refl _ _) (fun h => absurd h (by decide))
      · intro o ho a w2 hw0 hf K hK
        injection ho with ho
        subst ho
        have hw : Below wr.heap.size wr w2 := by simpa using hw0
        have f0 := hf 7 rfl
        have f1 := hf 50 rfl
        simp only [F5s] at f0 f1
        clear hf
        obtain ⟨k9, hl9, q1, q2⟩ := f1
        have q1 := Lib.hid q1
        have q2 := Lib.hid q2
        simp only [clV] at hl9
        obtain ⟨a0, a1, a2, a3, z0, z1, z2, z3⟩ := hcellz.out w2 hw
        have hg1 := Lib.hid (grown_set4 w2 g (Value.int .i64 k9.primary) (Value.int .i64 k9.view) (Value.int .i64 k9.commit) (Value.slice k9.A k9.n k9.c))
        go_simp
        exact hK undef _ (by show if true = true then _ else _; rw [if_pos rfl]; exact ⟨w2, k9, hw, rfl, q1.out, q2.out⟩) (fun t u hF => F5s_st t u w2 _ hg1.out hF)
      · intro a' w9 hd hs hw hout hf
        replace hw : ∃ (w8 : World) (k' : Cm), Below wr.heap.size wr w8 ∧ w9 = ((((w8.setCell ⟨g, 0, none⟩ (Value.int .i64 k'.primary)).setCell ⟨g, 1, none⟩ (Value.int .i64 k'.view)).setCell ⟨g, 2, none⟩ (Value.int .i64 k'.commit)).setCell ⟨g, 3, none⟩ (Value.slice k'.A k'.n k'.c)) ∧ CmAt w8 (fun b => b ≠ g) k' ∧ k'.val = r.1 := by simpa using hw
        have e0 : _ = some (Value.int .i64 (M : Int)) := hout 0 rfl
        have e1 : _ = some (Value.slice (some ad) n c) := hout 1 rfl
        have e2 : _ = some (Value.slice dA data.length dc) := hout 2 rfl
        have e3 : _ = some (undef) := hout 3 rfl
        have e4 : _ = some (undef) := hout 4 rfl
        have e5 : _ = some (undef) := hout 5 rfl
        have e6 : _ = some (Value.bool false) := hout 6 rfl
        have e7 : _ = some (Value.pointer (some ⟨g, 0, none⟩)) := hout 7 rfl
        have e8 : _ = some (Value.int .i64 0) := hout 8 rfl
        have e9 : _ = some (Value.int .i64 (j : Int)) := hout 9 rfl
        have e10 : _ = some (undef) := hout 10 rfl
        have e11 : _ = some (undef) := hout 11 rfl
        have e12 : _ = some (undef) := hout 12 rfl
        have e13 : _ = some (undef) := hout 13 rfl
        have e14 : _ = some (undef) := hout 14 rfl
        have e15 : _ = some (undef) := hout 15 rfl
        have e16 : _ = some (undef) := hout 16 rfl
        have e17 : _ = some (undef) := hout 17 rfl
        have e18 : _ = some (undef) := hout 18 rfl
        have e19 : _ = some (undef) := hout 19 rfl
        have e20 : _ = some (undef) := hout 20 rfl
        have e21 : _ = some (Value.tuple #[.agg #[Value.int .i64 p1, Value.int .i64 v1, Value.int .i64 m1, Value.slice A1 n1 c1], .int .i64 0]) := hout 21 rfl
        have e22 : _ = some (Value.int .i64 (M : Int)) := hout 22 rfl
        have e23 : _ = some (Value.tuple #[.agg #[Value.int .i64 p1, Value.int .i64 v1, Value.int .i64 m1, Value.slice A1 n1 c1], .int .i64 0]) := hout 23 rfl
        have e24 : _ = some (Value.agg #[Value.int .i64 p1, Value.int .i64 v1, Value.int .i64 m1, Value.slice A1 n1 c1]) := hout 24 rfl
        have e25 : _ = some (Value.int .i64 0) := hout 25 rfl
        have e26 : _ = some (Value.int .i64 0) := hout 26 rfl
        have e27 : _ = some (Value.bool false) := hout 27 rfl
        have e28 : _ = some (Value.bool false) := hout 28 rfl
        have e29 : _ = some (Value.slice (some ad) n c) := hout 29 rfl
        have e30 : _ = some (Value.bool false) := hout 30 rfl
        have e31 : _ = some (Value.bool false) := hout 31 rfl
        have e32 : _ = some (Value.bool false) := hout 32 rfl
        have e33 : _ = some (Value.slice dA data.length dc) := hout 33 rfl
        have e34 : _ = some (Value.int .i64 (data.length : Int)) := hout 34 rfl
        have e35 : _ = some (Value.bool false) := hout 35 rfl
        have e36 : _ = some (Value.bool false) := hout 36 rfl
        have e37 : _ = some (undef) := hout 37 rfl
        have e38 : _ = some (Value.slice (some ad) n c) := hout 38 rfl
        have e39 : _ = some (Value.int .i64 (n : Int)) := hout 39 rfl
        have e40 : _ = some (Value.int .i64 (j : Int)) := hout 40 rfl
        have e41 : _ = some (Value.bool true) := hout 41 rfl
        have e42 : _ = some (Value.int .i64 (j : Int)) := hout 42 rfl
        have e54 : _ = some (undef) := hout 54 rfl
        have e55 : _ = some (undef) := hout 55 rfl
        have e56 : _ = some (undef) := hout 56 rfl
        have e57 : _ = some (undef) := hout 57 rfl
        have e58 : _ = some (undef) := hout 58 rfl
        have e59 : _ = some (undef) := hout 59 rfl
        have e60 : _ = some (undef) := hout 60 rfl
        have e61 : _ = some (undef) := hout 61 rfl
        have e62 : _ = some (undef) := hout 62 rfl
        have e63 : _ = some (undef) := hout 63 rfl
        have e64 : _ = some (undef) := hout 64 rfl
        have e65 : _ = some (undef) := hout 65 rfl
        have e66 : _ = some (undef) := hout 66 rfl
        have e67 : _ = some (undef) := hout 67 rfl
        have e68 : _ = some (undef) := hout 68 rfl
        have e69 : _ = some (undef) := hout 69 rfl
        have e70 : _ = some (undef) := hout 70 rfl
        have e71 : _ = some (undef) := hout 71 rfl
        have e72 : _ = some (undef) := hout 72 rfl
        have e73 : _ = some (undef) := hout 73 rfl
        have e74 : _ = some (undef) := hout 74 rfl
        have e75 : _ = some (undef) := hout 75 rfl
        have e76 : _ = some (undef) := hout 76 rfl
        have e77 : _ = some (undef) := hout 77 rfl
        have e78 : _ = some (undef) := hout 78 rfl
        have e79 : _ = some (undef) := hout 79 rfl
        have e80 : _ = some (undef) := hout 80 rfl
        have e81 : _ = some (undef) := hout 81 rfl
        have e82 : _ = some (undef) := hout 82 rfl
        have e83 : _ = some (undef) := hout 83 rfl
        have e84 : _ = some (undef) := hout 84 rfl
        have e85 : _ = some (undef) := hout 85 rfl
        have e86 : _ = some (undef) := hout 86 rfl
        have e87 : _ = some (undef) := hout 87 rfl
        have e88 : _ = some (undef) := hout 88 rfl
        have e89 : _ = some (undef) := hout 89 rfl
        have e90 : _ = some (undef) := hout 90 rfl
        have e91 : _ = some (undef) := hout 91 rfl
        have e92 : _ = some (undef) := hout 92 rfl
        have e93 : _ = some (undef) := hout 93 rfl
        have e94 : _ = some (undef) := hout 94 rfl
        have e95 : _ = some (undef) := hout 95 rfl
        have e96 : _ = some (undef) := hout 96 rfl
        have e97 : _ = some (undef) := hout 97 rfl
        have e98 : _ = some (undef) := hout 98 rfl
        have e99 : _ = some (undef) := hout 99 rfl
        have e100 : _ = some (undef) := hout 100 rfl
        have e101 : _ = some (undef) := hout 101 rfl
        have e102 : _ = some (undef) := hout 102 rfl
        have e103 : _ = some (undef) := hout 103 rfl
        have e104 : _ = some (undef) := hout 104 rfl
        have e105 : _ = some (undef) := hout 105 rfl
        have e106 : _ = some (undef) := hout 106 rfl
        have e107 : _ = some (undef) := hout 107 rfl
        have e108 : _ = some (undef) := hout 108 rfl
        have e109 : _ = some (undef) := hout 109 rfl
        have e110 : _ = some (undef) := hout 110 rfl
        have e111 : _ = some (undef) := hout 111 rfl
        have e112 : _ = some (undef) := hout 112 rfl
        have e113 : _ = some (undef) := hout 113 rfl
        have e114 : _ = some (undef) := hout 114 rfl
        have e115 : _ = some (undef) := hout 115 rfl
        have e116 : _ = some (undef) := hout 116 rfl
        have e117 : _ = some (undef) := hout 117 rfl
        have e118 : _ = some (undef) := hout 118 rfl
        have e119 : _ = some (undef) := hout 119 rfl
        have e120 : _ = some (undef) := hout 120 rfl
        have e121 : _ = some (undef) := hout 121 rfl
        have e122 : _ = some (undef) := hout 122 rfl
        have e123 : _ = some (undef) := hout 123 rfl
        have e124 : _ = some (undef) := hout 124 rfl
        have e125 : _ = some (undef) := hout 125 rfl
        have e126 : _ = some (undef) := hout 126 rfl
        have e127 : _ = some (undef) := hout 127 rfl
        have e128 : _ = some (undef) := hout 128 rfl
        have e129 : _ = some (undef) := hout 129 rfl
        have e130 : _ = some (undef) := hout 130 rfl
        have e131 : _ = some (undef) := hout 131 rfl
        have e132 : _ = some (undef) := hout 132 rfl
        have e133 : _ = some (undef) := hout 133 rfl
        have e134 : _ = some (undef) := hout 134 rfl
        have e135 : _ = some (undef) := hout 135 rfl
        have e136 : _ = some (undef) := hout 136 rfl
        have e137 : _ = some (undef) := hout 137 rfl
        have e138 : _ = some (undef) := hout 138 rfl
        have e139 : _ = some (undef) := hout 139 rfl
        have e140 : _ = some (undef) := hout 140 rfl
        have e141 : _ = some (undef) := hout 141 rfl
        have e142 : _ = some (undef) := hout 142 rfl
        have e143 : _ = some (undef) := hout 143 rfl
        have e144 : _ = some (undef) := hout 144 rfl
        have e145 : _ = some (undef) := hout 145 rfl
        have e146 : _ = some (undef) := hout 146 rfl
        have e147 : _ = some (undef) := hout 147 rfl
        have e148 : _ = some (undef) := hout 148 rfl
        have e149 : _ = some (undef) := hout 149 rfl
        have e150 : _ = some (undef) := hout 150 rfl
        have e151 : _ = some (undef) := hout 151 rfl
        have e152 : _ = some (undef) := hout 152 rfl
        have e153 : _ = some (undef) := hout 153 rfl
        have e154 : _ = some (undef) := hout 154 rfl
        have e155 : _ = some (undef) := hout 155 rfl
        have e156 : _ = some (undef) := hout 156 rfl
        have e157 : _ = some (undef) := hout 157 rfl
        have e158 : _ = some (undef) := hout 158 rfl
        have e159 : _ = some (undef) := hout 159 rfl
        have e160 : _ = some (undef) := hout 160 rfl
        have e161 : _ = some (undef) := hout 161 rfl
        have e162 : _ = some (undef) := hout 162 rfl
        have e163 : _ = some (undef) := hout 163 rfl
        have e164 : _ = some (undef) := hout 164 rfl
        have e165 : _ = some (undef) := hout 165 rfl
        have e166 : _ = some (undef) := hout 166 rfl
        have e167 : _ = some (undef) := hout 167 rfl
        have e168 : _ = some (undef) := hout 168 rfl
        have e169 : _ = some (undef) := hout 169 rfl
        have e170 : _ = some (undef) := hout 170 rfl
        have e171 : _ = some (undef) := hout 171 rfl
        have e172 : _ = some (undef) := hout 172 rfl
        have e173 : _ = some (undef) := hout 173 rfl
        have e174 : _ = some (undef) := hout 174 rfl
        have e175 : _ = some (undef) := hout 175 rfl
        have e176 : _ = some (undef) := hout 176 rfl
        obtain ⟨tm, df⟩ := a'
        simp only at hd hs e0 e1 e2 e3 e4 e5 e6 e7 e8 e9 e10 e11 e12 e13 e14 e15 e16 e17 e18 e19 e20 e21 e22 e23 e24 e25 e26 e27 e28 e29 e30 e31 e32 e33 e34 e35 e36 e37 e38 e39 e40 e41 e42 e54 e55 e56 e57 e58 e59 e60 e61 e62 e63 e64 e65 e66 e67 e68 e69 e70 e71 e72 e73 e74 e75 e76 e77 e78 e79 e80 e81 e82 e83 e84 e85 e86 e87 e88 e89 e90 e91 e92 e93 e94 e95 e96 e97 e98 e99 e100 e101 e102 e103 e104 e105 e106 e107 e108 e109 e110 e111 e112 e113 e114 e115 e116 e117 e118 e119 e120 e121 e122 e123 e124 e125 e126 e127 e128 e129 e130 e131 e132 e133 e134 e135 e136 e137 e138 e139 e140 e141 e142 e143 e144 e145 e146 e147 e148 e149 e150 e151 e152 e153 e154 e155 e156 e157 e158 e159 e160 e161 e162 e163 e164 e165 e166 e167 e168 e169 e170 e171 e172 e173 e174 e175 e176
        have e := lit_arr tm 177 hs
        rw [show (List.range 177).map (fun i => tm[i]?.getD undef) = [tm[0]?.getD undef, tm[1]?.getD undef, tm[2]?.getD undef, tm[3]?.getD undef, tm[4]?.getD undef, tm[5]?.getD undef, tm[6]?.getD undef, tm[7]?.getD undef, tm[8]?.getD undef, tm[9]?.getD undef, tm[10]?.getD undef, tm[11]?.getD undef, tm[12]?.getD undef, tm[13]?.getD undef, tm[14]?.getD undef, tm[15]?.getD undef, tm[16]?.getD undef, tm[17]?.getD undef, tm[18]?.getD undef, tm[19]?.getD undef, tm[20]?.getD undef, tm[21]?.getD undef, tm[22]?.getD undef, tm[23]?.getD undef, tm[24]?.getD undef, tm[25]?.getD undef, tm[26]?.getD undef, tm[27]?.getD undef, tm[28]?.getD undef, tm[29]?.getD undef, tm[30]?.getD undef, tm[31]?.getD undef, tm[32]?.getD undef, tm[33]?.getD undef, tm[34]?.getD undef, tm[35]?.getD undef, tm[36]?.getD undef, tm[37]?.getD undef, tm[38]?.getD undef, tm[39]?.getD undef, tm[40]?.getD undef, tm[41]?.getD undef, tm[42]?.getD undef, tm[43]?.getD undef, tm[44]?.getD undef, tm[45]?.getD undef, tm[46]?.getD undef, tm[47]?.getD undef, tm[48]?.getD undef, tm[49]?.getD undef, tm[50]?.getD undef, tm[51]?.getD undef, tm[52]?.getD undef, tm[53]?.getD undef, tm[54]?.getD undef, tm[55]?.getD undef, tm[56]?.getD undef, tm[57]?.getD undef, tm[58]?.getD undef, tm[59]?.getD undef, tm[60]?.getD undef, tm[61]?.getD undef, tm[62]?.getD undef, tm[63]?.getD undef, tm[64]?.getD undef, tm[65]?.getD undef, tm[66]?.getD undef, tm[67]?.getD undef, tm[68]?.getD undef, tm[69]?.getD undef, tm[70]?.getD undef, tm[71]?.getD undef, tm[72]?.getD undef, tm[73]?.getD undef, tm[74]?.getD undef, tm[75]?.getD undef, tm[76]?.getD undef, tm[77]?.getD undef, tm[78]?.getD undef, tm[79]?.getD undef, tm[80]?.getD undef, tm[81]?.getD undef, tm[82]?.getD undef, tm[83]?.getD undef, tm[84]?.getD undef, tm[85]?.getD undef, tm[86]?.getD undef, tm[87]?.getD undef, tm[88]?.getD undef, tm[89]?.getD undef, tm[90]?.getD undef, tm[91]?.getD undef, tm[92]?.getD undef, tm[93]?.getD undef, tm[94]?.getD undef, tm[95]?.getD undef, tm[96]?.getD undef, tm[97]?.getD undef, tm[98]?.getD undef, tm[99]?.getD undef, tm[100]?.getD undef, tm[101]?.getD undef, tm[102]?.getD undef, tm[103]?.getD undef, tm[104]?.getD undef, tm[105]?.getD undef, tm[106]?.getD undef, tm[107]?.getD undef, tm[108]?.getD undef, tm[109]?.getD undef, tm[110]?.getD undef, tm[111]?.getD undef, tm[112]?.getD undef, tm[113]?.getD undef, tm[114]?.getD undef, tm[115]?.getD undef, tm[116]?.getD undef, tm[117]?.getD undef, tm[118]?.getD undef, tm[119]?.getD undef, tm[120]?.getD undef, tm[121]?.getD undef, tm[122]?.getD undef, tm[123]?.getD undef, tm[124]?.getD undef, tm[125]?.getD undef, tm[126]?.getD undef, tm[127]?.getD undef, tm[128]?.getD undef, tm[129]?.getD undef, tm[130]?.getD undef, tm[131]?.getD undef, tm[132]?.getD undef, tm[133]?.getD undef, tm[134]?.getD undef, tm[135]?.getD undef, tm[136]?.getD undef, tm[137]?.getD undef, tm[138]?.getD undef, tm[139]?.getD undef, tm[140]?.getD undef, tm[141]?.getD undef, tm[142]?.getD undef, tm[143]?.getD undef, tm[144]?.getD undef, tm[145]?.getD undef, tm[146]?.getD undef, tm[147]?.getD undef, tm[148]?.getD undef, tm[149]?.getD undef, tm[150]?.getD undef, tm[151]?.getD undef, tm[152]?.getD undef, tm[153]?.getD undef, tm[154]?.getD undef, tm[155]?.getD undef, tm[156]?.getD undef, tm[157]?.getD undef, tm[158]?.getD undef, tm[159]?.getD undef, tm[160]?.getD undef, tm[161]?.getD undef, tm[162]?.getD undef, tm[163]?.getD undef, tm[164]?.getD undef, tm[165]?.getD undef, tm[166]?.getD undef, tm[167]?.getD undef, tm[168]?.getD undef, tm[169]?.getD undef, tm[170]?.getD undef, tm[171]?.getD undef, tm[172]?.getD undef, tm[173]?.getD undef, tm[174]?.getD undef, tm[175]?.getD undef, tm[176]?.getD undef] from rfl] at e
        simp only [e0, e1, e2, e3, e4, e5, e6, e7, e8, e9, e10, e11, e12, e13, e14, e15, e16, e17, e18, e19, e20, e21, e22, e23, e24, e25, e26, e27, e28, e29, e30, e31, e32, e33, e34, e35, e36, e37, e38, e39, e40, e41, e42, e54, e55, e56, e57, e58, e59, e60, e61, e62, e63, e64, e65, e66, e67, e68, e69, e70, e71, e72, e73, e74, e75, e76, e77, e78, e79, e80, e81, e82, e83, e84, e85, e86, e87, e88, e89, e90, e91, e92, e93, e94, e95, e96, e97, e98, e99, e100, e101, e102, e103, e104, e105, e106, e107, e108, e109, e110, e111, e112, e113, e114, e115, e116, e117, e118, e119, e120, e121, e122, e123, e124, e125, e126, e127, e128, e129, e130, e131, e132, e133, e134, e135, e136, e137, e138, e139, e140, e141, e142, e143, e144, e145, e146, e147, e148, e149, e150, e151, e152, e153, e154, e155, e156, e157, e158, e159, e160, e161, e162, e163, e164, e165, e166, e167, e168, e169, e170, e171, e172, e173, e174, e175, e176, Option.getD_some] at e
        clear hf hout hs
        rw [e, hd]
        clear e hd e0 e1 e2 e3 e4 e5 e6 e7 e8 e9 e10 e11 e12 e13 e14 e15 e16 e17 e18 e19 e20 e21 e22 e23 e24 e25 e26 e27 e28 e29 e30 e31 e32 e33 e34 e35 e36 e37 e38 e39 e40 e41 e42 e54 e55 e56 e57 e58 e59 e60 e61 e62 e63 e64 e65 e66 e67 e68 e69 e70 e71 e72 e73 e74 e75 e76 e77 e78 e79 e80 e81 e82 e83 e84 e85 e86 e87 e88 e89 e90 e91 e92 e93 e94 e95 e96 e97 e98 e99 e100 e101 e102 e103 e104 e105 e106 e107 e108 e109 e110 e111 e112 e113 e114 e115 e116 e117 e118 e119 e120 e121 e122 e123 e124 e125 e126 e127 e128 e129 e130 e131 e132 e133 e134 e135 e136 e137 e138 e139 e140 e141 e142 e143 e144 e145 e146 e147 e148 e149 e150 e151 e152 e153 e154 e155 e156 e157 e158 e159 e160 e161 e162 e163 e164 e165 e166 e167 e168 e169 e170 e171 e172 e173 e174 e175 e176
        generalize tm[43]?.getD undef = u43x, tm[44]?.getD undef = u44x, tm[45]?.getD undef = u45x, tm[46]?.getD undef = u46x, tm[47]?.getD undef = u47x, tm[48]?.getD undef = u48x, tm[49]?.getD undef = u49x, tm[50]?.getD undef = u50x, tm[51]?.getD undef = u51x, tm[52]?.getD undef = u52x, tm[53]?.getD undef = u53x
        obtain ⟨w8, k', hw, hws, hk', hv'⟩ := hw
        subst hws
        obtain ⟨p8, v8, m8, A8, n8, c8, l8⟩ := k'
        obtain ⟨C', hpre, hi, hcc⟩ := call_inv hS.out.inv (⟨kind, onum, od⟩ : Oc)
        have hcf := call_from hS.out.inv (⟨kind, onum, od⟩ : Oc)
        rw [← hr.out] at hcf hi hcc
        have hS2 : Hid (StOk w M (j + 1) g C' (⟨p8, v8, m8, A8, n8, c8, l8⟩ : Cm) ((((w8.setCell ⟨g, 0, none⟩ (Value.int .i64 p8)).setCell ⟨g, 1, none⟩ (Value.int .i64 v8)).setCell ⟨g, 2, none⟩ (Value.int .i64 m8)).setCell ⟨g, 3, none⟩ (Value.slice A8 n8 c8))) := StOk.next hS.out hw (hk'.imp (fun b hb => Or.inl hb)) hv' hi hcf
        replace hpre := Lib.hid hpre
        replace hcc := Lib.hid hcc
        have hv8 := Lib.hid hv'
        have hcv := Lib.hid hcf.view
        have hq8 := Lib.hid hw
        clear hk' hv' hi hcf hw hcell hcellz hcl hcello
        try simp only
        have hV8 : Hid (v8 ≤ 1 + ((j + 1 : Nat) : Int)) := by
          have e : v8 = r.1.view := congrArg Cv.view hv8.out
          have e2 : r.1.view = v9 ∨ (r.1.view = v9 + 1 ∧ v9 < 2147483647) := hcv.out
          have e3 : v9 ≤ 1 + (j : Int) := hV.out
          show v8 ≤ _
          omega
        go_wp2_with fail
        go_roundw
        case rel => exact ⟨j + 1, C', _, by omega, by go_num, hS2.out, hV8.out⟩
        case measure => simp [intOf]; omega
    · obtain rfl : j = n := by omega
      have hm120 : j ≤ 120 := by omega
      obtain ⟨p9, v9, m9, A9, n9, c9, l9⟩ := k
      have hkn := hS.out.len
      (try simp only at hkn)
      subst hkn
      have hn7 : n9 ≤ 7 := by omega
      have hl9 : Hid (l9.length = n9) := hS.out.box.at_.len
      replace hV : Hid (v9 ≤ 1 + (j : Int)) := hV
      obtain ⟨k0, k1, k2, k3⟩ := (show wr.cell? ⟨g, 0, none⟩ = some (Value.int .i64 p9) ∧ wr.cell? ⟨g, 1, none⟩ = some (Value.int .i64 v9) ∧ wr.cell? ⟨g, 2, none⟩ = some (Value.int .i64 m9) ∧ wr.cell? ⟨g, 3, none⟩ = some (Value.slice A9 n9 c9) from ⟨hS.out.box.blk.cell 0, hS.out.box.blk.cell 1, hS.out.box.blk.cell 2, hS.out.box.blk.cell 3⟩)
      go_wp2_with fail
      clear k0 k1 k2 k3
      go_loopw [57, 10] (fun i v wr => ∃ q m : Nat, q ≤ n9 ∧ m ≤ q ∧ i = .int .i64 q ∧ v = .int .i64 m ∧ Hid (m = countUp ((l9.take q).map Sm.val)) ∧ Hid (StOk w n9 j g C (⟨p9, v9, m9, A9, n9, c9, l9⟩ : Cm) wr)) (fun i _ _ => n9 - (intOf i).toNat)
      case atStart => exact ⟨0, 0, Nat.zero_le _, Nat.le_refl _, rfl, rfl, rfl, hS.out⟩
      clear hS
      case round =>
        obtain ⟨q, m, hqn, hmq, rfl, rfl, hm, hS⟩ := hrel
        by_cases hql : q < n9
        · have hql9 : q < l9.length := by have := hl9.out; omega
          have hq0 : (0 : Int) ≤ q := by omega
          have hq1 : (q : Int) < n9 := by omega
          obtain ⟨ads, hAs, -, e0, -, -⟩ := sv_cells hS.out.box.at_.at_ hql
          have hst : Hid (countUp ((l9.take (q + 1)).map Sm.val) = m + if (l9[q]).up then 1 else 0) := by
            show _ = _
            rw [hm.out, List.take_succ_eq_append_getElem hql9]
            unfold countUp
            rw [List.map_append, List.countP_append, List.map_cons, List.map_nil, List.countP_cons, List.countP_nil]
            cases hu : l9[q].up <;> simp [Sm.val, hu]
          generalize l9[q] = s at *
          obtain ⟨up, sview, sA, sn, sc, slog⟩ := s
          simp only at e0 hst
          (try simp only at hAs)
          subst hAs
          obtain ⟨k0, k1, k2, k3⟩ := (show wr.cell? ⟨g, 0, none⟩ = some (Value.int .i64 p9) ∧ wr.cell? ⟨g, 1, none⟩ = some (Value.int .i64 v9) ∧ wr.cell? ⟨g, 2, none⟩ = some (Value.int .i64 m9) ∧ wr.cell? ⟨g, 3, none⟩ = some (Value.slice (some ads) n9 c9) from ⟨hS.out.box.blk.cell 0, hS.out.box.blk.cell 1, hS.out.box.blk.cell 2, hS.out.box.blk.cell 3⟩)
          cases up with
          | true =>
            go_wp2_with fail
            go_roundw
            case rel => exact ⟨q + 1, m + 1, by omega, by omega, by go_num, by go_num, hst.out.symm, hS.out⟩
            case measure => simp [intOf]; omega
          | false =>
            go_wp2_with fail
            go_roundw
            case rel => exact ⟨q + 1, m, by omega, by omega, by go_num, by go_num, hst.out.symm, hS.out⟩
            case measure => simp [intOf]; omega
        · have hup : Hid (countUp (l9.map Sm.val) = m) := by show _ = _; rw [hm.out, List.take_of_length_le (by have := hl9.out; omega)]
          have hm7 : m ≤ 7 := by omega
          clear hm
          obtain ⟨k0, k1, k2, k3⟩ := (show wr.cell? ⟨g, 0, none⟩ = some (Value.int .i64 p9) ∧ wr.cell? ⟨g, 1, none⟩ = some (Value.int .i64 v9) ∧ wr.cell? ⟨g, 2, none⟩ = some (Value.int .i64 m9) ∧ wr.cell? ⟨g, 3, none⟩ = some (Value.slice A9 n9 c9) from ⟨hS.out.box.blk.cell 0, hS.out.box.blk.cell 1, hS.out.box.blk.cell 2, hS.out.box.blk.cell 3⟩)
          go_wp2_with fail
          refine (tick_any (⟨p9, v9, m9, A9, n9, c9, l9⟩ : Cm) wr hS.out.box.at_ (hS.out.sm2 hm120) hS.out.hp1 hS.out.hv hS.out.hpu).mono ?_; rintro e w8 ⟨⟨k', rfl, hk', hv'⟩, hq⟩
          clear k0 k1 k2 k3
          obtain ⟨p8, v8, m8, A8, n8, c8, l8⟩ := k'
          simp only [clV]
          have hk' := hk'
          have hlen8 : (Cm.val (⟨p8, v8, m8, A8, n8, c8, l8⟩ : Cm)).servers.length = (Cm.val (⟨p9, v9, m9, A9, n9, c9, l9⟩ : Cm)).servers.length := by rw [hv']; exact (tick_from hS.out.inv []).len
          have hgd8 : Good j (Cm.val (⟨p8, v8, m8, A8, n8, c8, l8⟩ : Cm)) := by rw [hv']; exact tick_good hS.out.inv hS.out.good
          have hX8 := Lib.hid (hS.out.box.blk.below hq hS.out.box.blk.lt)
          obtain ⟨k0, k1, k2, k3, z0, z1, z2, z3⟩ := (show w8.cell? ⟨g, 0, none⟩ = some (Value.int .i64 p9) ∧ w8.cell? ⟨g, 1, none⟩ = some (Value.int .i64 v9) ∧ w8.cell? ⟨g, 2, none⟩ = some (Value.int .i64 m9) ∧ w8.cell? ⟨g, 3, none⟩ = some (Value.slice A9 n9 c9) ∧ w8.frozen? ⟨g, 0, none⟩ = false ∧ w8.frozen? ⟨g, 1, none⟩ = false ∧ w8.frozen? ⟨g, 2, none⟩ = false ∧ w8.frozen? ⟨g, 3, none⟩ = false from ⟨hX8.out.cell 0, hX8.out.cell 1, hX8.out.cell 2, hX8.out.cell 3, hX8.out.frozen 0, hX8.out.frozen 1, hX8.out.frozen 2, hX8.out.frozen 3⟩)
          clear hX8
          by_cases hmj : majN n9 m = true
          · have hmu := (majN_iff _ _).1 hmj
            have hmB : majN (Cm.val (⟨p9, v9, m9, A9, n9, c9, l9⟩ : Cm)).servers.length (countUp (Cm.val (⟨p9, v9, m9, A9, n9, c9, l9⟩ : Cm)).servers) = true := by
              rw [val_len hS.out.box.at_]
              show majN n9 (countUp (l9.map Sm.val)) = true
              rw [hup.out]
              exact hmj
            obtain ⟨P, hPm, hPu, hPp, hPC, hPi, hPs, -⟩ := tick_full hS.out.inv hmB (.inr (by have := hV.out; show v9 < _; omega))
            rw [← hv'] at hPp hPi hPs
            have hS8 : Hid (StOk w n9 j g P.log (⟨p8, v8, m8, A8, n8, c8, l8⟩ : Cm) ((((w8.setCell ⟨g, 0, none⟩ (Value.int .i64 p8)).setCell ⟨g, 1, none⟩ (Value.int .i64 v8)).setCell ⟨g, 2, none⟩ (Value.int .i64 m8)).setCell ⟨g, 3, none⟩ (Value.slice A8 n8 c8))) := hS.out.store hq hk' hPi hgd8 hlen8
            have hcu : Hid (countUp (Cm.val (⟨p8, v8, m8, A8, n8, c8, l8⟩ : Cm)).servers = m) := by
              show _ = _
              rw [hPs, countUp_bring]
              exact hup.out
            replace hPp := Lib.hid hPp
            replace hPs := Lib.hid hPs
            clear hk' hv' hlen8 hgd8 hPm hPu hPC hPi hq hS hV
            obtain ⟨hp80, hpa⟩ := primOf_ge hPp.out
            have hp80 : (0 : Int) ≤ p8 := hp80
            obtain ⟨pi, rfl⟩ : ∃ pi : Nat, p8 = (pi : Int) := ⟨p8.toNat, by omega⟩
            have hpa : (l8.map Sm.val)[((pi : Nat) : Int).toNat]? = some ⟨true, v8, P.log⟩ := hpa
            rw [Int.toNat_natCast, List.getElem?_map, Option.map_eq_some_iff] at hpa
            obtain ⟨s8, hs8, hs8v⟩ := hpa
            have hl8 : l8.length = n8 := hS8.out.box.at_.len
            have hn87 : n8 = n9 := hS8.out.len
            subst hn87
            obtain ⟨hpl, hs8g⟩ := List.getElem?_eq_some_iff.1 hs8
            have hpn : pi < n8 := by omega
            have hpi1 : (pi : Int) < n8 := by omega
            have hpi0 : (0 : Int) ≤ pi := by omega
            have hpid : decide ((n8 : Int) ≤ (pi : Int)) = false := by simp; omega
            have hpii : ¬ (n8 : Int) ≤ (pi : Int) := by omega
            have hpin : ¬ (pi : Int) < 0 := by omega
            have hpind : decide ((pi : Int) < 0) = false := by simp
            obtain ⟨bu, sview, sA, sn, sc, slog⟩ := s8
            simp only [Sm.val, Sv.mk.injEq] at hs8v
            obtain ⟨rfl, hsv8, hslog⟩ := hs8v
            replace hsv8 := Lib.hid hsv8
            obtain ⟨ad8, hA8, -, e0, e1, e2⟩ := sv_cells hS8.out.box.at_.at_ hpn
            rw [hs8g] at e0 e2
            (try simp only at e0 e2 hA8)
            subst hA8
            have hps8 : Hid (Sm.val ⟨true, sview, sA, sn, sc, slog⟩ ∈ (Cm.val (⟨(pi : Int), v8, m8, some ad8, n8, c8, l8⟩ : Cm)).servers) := List.mem_map_of_mem (List.mem_of_getElem? hs8)
            have hsn : sn = P.log.length := by
              have h1 := LogAt.len (hS8.out.box.at_.els _ (List.mem_of_getElem? hs8))
              have h2 := congrArg List.length hslog
              rw [List.length_map] at h2
              exact h1.symm.trans h2
            have hplb : P.log.length ≤ 120 := by
              have := (hS8.out.good.all _ hps8.out).2.2.1
              have h3 : (slog.map Em.val).length ≤ j := this
              rw [hslog] at h3
              omega
            obtain ⟨pl, hpleq⟩ : ∃ pl, pl = P.log.length := ⟨_, rfl⟩
            rw [← hpleq] at hsn hplb
            subst hsn
            have hs8m : Hid (SmAt ((((w8.setCell ⟨g, 0, none⟩ (Value.int .i64 (pi : Int))).setCell ⟨g, 1, none⟩ (Value.int .i64 v8)).setCell ⟨g, 2, none⟩ (Value.int .i64 m8)).setCell ⟨g, 3, none⟩ (Value.slice (some ad8) n8 c8)) (fun b => b ≠ g) ⟨true, sview, sA, sn, sc, slog⟩) := hS8.out.box.at_.els _ (List.mem_of_getElem? hs8)
            replace hs8g := Lib.hid hs8g
            replace hs8 := Lib.hid hs8
            replace hslog := Lib.hid hslog
            replace hpleq := Lib.hid hpleq
            have hmi : ¬ 2 * (m : Int) ≤ n8 := by omega
            have hmd : decide (2 * (m : Int) ≤ (n8 : Int)) = false := by simp; omega
            obtain ⟨m0, m1, m2, m3⟩ := (show ((((w8.setCell ⟨g, 0, none⟩ (Value.int .i64 (pi : Int))).setCell ⟨g, 1, none⟩ (Value.int .i64 v8)).setCell ⟨g, 2, none⟩ (Value.int .i64 m8)).setCell ⟨g, 3, none⟩ (Value.slice (some ad8) n8 c8)).cell? ⟨g, 0, none⟩ = some (Value.int .i64 (pi : Int)) ∧ ((((w8.setCell ⟨g, 0, none⟩ (Value.int .i64 (pi : Int))).setCell ⟨g, 1, none⟩ (Value.int .i64 v8)).setCell ⟨g, 2, none⟩ (Value.int .i64 m8)).setCell ⟨g, 3, none⟩ (Value.slice (some ad8) n8 c8)).cell? ⟨g, 1, none⟩ = some (Value.int .i64 v8) ∧ ((((w8.setCell ⟨g, 0, none⟩ (Value.int .i64 (pi : Int))).setCell ⟨g, 1, none⟩ (Value.int .i64 v8)).setCell ⟨g, 2, none⟩ (Value.int .i64 m8)).setCell ⟨g, 3, none⟩ (Value.slice (some ad8) n8 c8)).cell? ⟨g, 2, none⟩ = some (Value.int .i64 m8) ∧ ((((w8.setCell ⟨g, 0, none⟩ (Value.int .i64 (pi : Int))).setCell ⟨g, 1, none⟩ (Value.int .i64 v8)).setCell ⟨g, 2, none⟩ (Value.int .i64 m8)).setCell ⟨g, 3, none⟩ (Value.slice (some ad8) n8 c8)).cell? ⟨g, 3, none⟩ = some (Value.slice (some ad8) n8 c8) from ⟨hS8.out.box.blk.cell 0, hS8.out.box.blk.cell 1, hS8.out.box.blk.cell 2, hS8.out.box.blk.cell 3⟩)
            go_wp2_with fail
            clear k0 k1 k2 k3 z0 z1 z2 z3 m0 m1 m2 m3 e0 e1 e2 hs8m
            generalize ((((w8.setCell ⟨g, 0, none⟩ (Value.int .i64 (pi : Int))).setCell ⟨g, 1, none⟩ (Value.int .i64 v8)).setCell ⟨g, 2, none⟩ (Value.int .i64 m8)).setCell ⟨g, 3, none⟩ (Value.slice (some ad8) n8 c8)) = w3 at *
            go_loopw [115] (fun i wr => ∃ q : Nat, q ≤ n8 ∧ i = .int .i64 q ∧ Hid (StOk w n8 j g P.log (⟨(pi : Int), v8, m8, some ad8, n8, c8, l8⟩ : Cm) wr)) (fun i _ => n8 - (intOf i).toNat)
            case atStart => exact ⟨0, Nat.zero_le _, rfl, hS8.out⟩
            clear hS8
            case round =>
              obtain ⟨q, hqn, rfl, hS8⟩ := hrel
              obtain ⟨k0, k1, k2, k3⟩ := (show wr.cell? ⟨g, 0, none⟩ = some (Value.int .i64 (pi : Int)) ∧ wr.cell? ⟨g, 1, none⟩ = some (Value.int .i64 v8) ∧ wr.cell? ⟨g, 2, none⟩ = some (Value.int .i64 m8) ∧ wr.cell? ⟨g, 3, none⟩ = some (Value.slice (some ad8) n8 c8) from ⟨hS8.out.box.blk.cell 0, hS8.out.box.blk.cell 1, hS8.out.box.blk.cell 2, hS8.out.box.blk.cell 3⟩)
              by_cases hql : q < n8
              · have hql8 : q < l8.length := by omega
                have hq0 : (0 : Int) ≤ q := by omega
                have hq1 : (q : Int) < n8 := by omega
                obtain ⟨adq, hAq, -, e0, -, e2⟩ := sv_cells hS8.out.box.at_.at_ hql
                (try simp only at hAq)
                injection hAq with hAq
                subst hAq
                have hqm := Lib.hid (hS8.out.box.at_.els _ (List.getElem_mem hql8))
                have hqv : Hid (l8[q].up = true → l8[q].log.map Em.val = P.log) := by
                  intro hu
                  have e : (Cm.val (⟨(pi : Int), v8, m8, some ad8, n8, c8, l8⟩ : Cm)).servers[q]? = some l8[q].val := by
                    show (l8.map Sm.val)[q]? = _
                    rw [List.getElem?_map, List.getElem?_eq_getElem hql8]; rfl
                  rw [hPs.out] at e
                  obtain ⟨s, -, e9⟩ := bringS_at _ _ _ _ _ e
                  have h9 : l8[q].val.log = (if s.up then (⟨true, (Cm.val (⟨(pi : Int), v8, m8, some ad8, n8, c8, l8⟩ : Cm)).view, P.log⟩ : Sv) else s).log := congrArg Sv.log e9
                  have h8 : l8[q].val.up = (if s.up then (⟨true, (Cm.val (⟨(pi : Int), v8, m8, some ad8, n8, c8, l8⟩ : Cm)).view, P.log⟩ : Sv) else s).up := congrArg Sv.up e9
                  have h8 : true = (if s.up then (⟨true, (Cm.val (⟨(pi : Int), v8, m8, some ad8, n8, c8, l8⟩ : Cm)).view, P.log⟩ : Sv) else s).up := hu ▸ h8
                  by_cases hus : s.up = true
                  · rw [if_pos hus] at h9
                    exact h9
                  · rw [if_neg hus] at h8
                    exact absurd h8.symm hus
                have hpm : Hid (SmAt wr (fun b => b ≠ g) ⟨true, sview, sA, sn, sc, slog⟩) := hS8.out.box.at_.els _ (List.mem_of_getElem? hs8.out)
                generalize l8[q] = s at *
                obtain ⟨up, sviewq, qA, qn, qc, qlog⟩ := s
                simp only at e0 e2 hqv
                cases up with
                | true =>
                  have hqe := hqv.out rfl
                  have hqn5 : qn ≤ 5000 := by
                    have h1 : qlog.length = qn := LogAt.len hqm.out
                    have h2 := congrArg List.length hqe
                    have h3 := hpleq.out
                    rw [List.length_map] at h2
                    omega
                  have hsl := Lib.hid (sameLogL_any qA sA qn qc sn sc qlog slog wr hqm.out hpm.out hqn5)
                  rw [hqe, hslog.out, (eqLog_iff _ _).2 rfl] at hsl
                  clear hqe
                  go_wp2_with fail
                  refine hsl.out.mono ?_; rintro e w5 ⟨rfl, hq⟩
                  clear hsl k0 k1 k2 k3 e0 e2
                  have hS9 := Lib.hid (hS8.out.more hq)
                  clear hq hS8
                  go_wp2_with fail
                  go_roundw
                  case rel => exact ⟨q + 1, by omega, by go_num, hS9.out⟩
                  case measure => simp [intOf]; omega
                | false =>
                  go_wp2_with fail
                  go_roundw
                  case rel => exact ⟨q + 1, by omega, by go_num, hS8.out⟩
                  case measure => simp [intOf]; omega
              · go_wp2_with fail
                refine (hS8.out.com hm120).mono ?_; rintro e w4 ⟨⟨A6, n6, c6, C6, rfl, hL6, -, -, -, hC6⟩, hq⟩
                have hn6 : n6 = sn := by
                  have h1 := hL6.len
                  have h2 := congrArg List.length hC6
                  have h3 := hpleq.out
                  simp only [List.length_map] at h2
                  omega
                subst hn6
                have hS9 := Lib.hid (hS8.out.more hq)
                clear hq hL6 hC6 hS8 k0 k1 k2 k3
                obtain ⟨k0, k1, k2, k3⟩ := (show w4.cell? ⟨g, 0, none⟩ = some (Value.int .i64 (pi : Int)) ∧ w4.cell? ⟨g, 1, none⟩ = some (Value.int .i64 v8) ∧ w4.cell? ⟨g, 2, none⟩ = some (Value.int .i64 m8) ∧ w4.cell? ⟨g, 3, none⟩ = some (Value.slice (some ad8) n8 c8) from ⟨hS9.out.box.blk.cell 0, hS9.out.box.blk.cell 1, hS9.out.box.blk.cell 2, hS9.out.box.blk.cell 3⟩)
                go_wp2_with fail
                obtain ⟨hy1, hy2, hy3⟩ := submit_yes hS9.out.inv (by rw [val_len hS9.out.box.at_, hcu.out]; exact hmj) hPp.out data (by omega) (by have h3 := hpleq.out; show P.log.length < 4096; omega)
                have hcf := submit_from hS9.out.inv data 0
                refine (submit_any (⟨(pi : Int), v8, m8, some ad8, n8, c8, l8⟩ : Cm) dA dc data 0 w4 hS9.out.box.at_ (hS9.out.sm2 hm120) hS9.out.hp1 (hd.out.more hS9.out.below)).mono ?_; rintro e w5 ⟨⟨k7, rfl, hk7, hv7⟩, hq⟩
                rw [hy1, hy2]
                have hplI : (((P.log.length : Nat)) : Int) = (n6 : Int) := by have := hpleq.out; omega
                obtain ⟨p7, v7, m7, A7, n7, c7, l7⟩ := k7
                simp only [clV]
                have hS7 : Hid (StOk w n8 (j + 1) w5.heap.size (P.log ++ [⟨(Cm.val (⟨(pi : Int), v8, m8, some ad8, n8, c8, l8⟩ : Cm)).view, data⟩]) (⟨p7, v7, m7, A7, n7, c7, l7⟩ : Cm) (w5.alloc (.cells #[Value.int .i64 p7, Value.int .i64 v7, Value.int .i64 m7, Value.slice A7 n7 c7] 24))) := hS9.out.fresh hq hk7 hv7 hy3 hcf
                clear hk7 hv7 hy1 hy2 hy3 hcf hq hS9 k0 k1 k2 k3
                (try simp only)
                rw [hplI]
                obtain ⟨k0, k1, k2, k3⟩ := (show (w5.alloc (.cells #[Value.int .i64 p7, Value.int .i64 v7, Value.int .i64 m7, Value.slice A7 n7 c7] 24)).cell? ⟨w5.heap.size, 0, none⟩ = some (Value.int .i64 p7) ∧ (w5.alloc (.cells #[Value.int .i64 p7, Value.int .i64 v7, Value.int .i64 m7, Value.slice A7 n7 c7] 24)).cell? ⟨w5.heap.size, 1, none⟩ = some (Value.int .i64 v7) ∧ (w5.alloc (.cells #[Value.int .i64 p7, Value.int .i64 v7, Value.int .i64 m7, Value.slice A7 n7 c7] 24)).cell? ⟨w5.heap.size, 2, none⟩ = some (Value.int .i64 m7) ∧ (w5.alloc (.cells #[Value.int .i64 p7, Value.int .i64 v7, Value.int .i64 m7, Value.slice A7 n7 c7] 24)).cell? ⟨w5.heap.size, 3, none⟩ = some (Value.slice A7 n7 c7) from ⟨hS7.out.box.blk.cell 0, hS7.out.box.blk.cell 1, hS7.out.box.blk.cell 2, hS7.out.box.blk.cell 3⟩)
                go_wp2_with fail
                clear k0 k1 k2 k3
                refine (hS7.out.com1 (by omega)).mono ?_; rintro e w6 ⟨⟨A5, n5, c5, C5, rfl, hL5, hc5, -, hB5, hC5⟩, hq⟩
                have hb6 : Hid (Below w.heap.size w w6) := hS7.out.below.trans (hq.mono hS7.out.below.size)
                have hn5 : n5 = n6 + 1 := by
                  have h1 := hL5.len
                  have h2 := congrArg List.length hC5
                  have h3 := hpleq.out
                  simp only [List.length_map, List.length_append, List.length_cons, List.length_nil] at h2
                  omega
                have h5n : C5.length = n5 := hL5.len
                have hn6l : n6 < n5 := by omega
                have hdl5 : (C5[n6]'(by omega)).d = data := by
                  have e1 : (C5.map (·.d))[n6]? = some data := by
                    rw [hC5, List.map_append, List.getElem?_append_right (by rw [List.length_map]; have := hpleq.out; omega), List.length_map]
                    have := hpleq.out
                    rw [show n6 - P.log.length = 0 by omega]
                    rfl
                  rw [List.getElem?_map, List.getElem?_eq_getElem (by omega)] at e1
                  exact Option.some.inj e1
                obtain ⟨ad5, hA5, -, t0⟩ := s_cell hL5 hn6l
                have hb5 := hB5 _ (List.getElem_mem (show n6 < C5.length by omega))
                generalize C5[n6] = y5 at *
                obtain ⟨yA, yn, yc, yd⟩ := y5
                simp only at t0 hdl5
                subst hdl5
                subst hA5
                have heq := equal_any yA dA yn yc yd.length dc yd yd w6 _ _ hb5.at_ (hd.out.more hb6.out)
                rw [show decide (yd = yd) = true by simp] at heq
                replace heq := Lib.hid heq
                subst hn5
                have hn60 : (0 : Int) ≤ n6 := by omega
                have hn61 : (n6 : Int) < ((n6 + 1 : Nat) : Int) := by omega
                have hn6w : IntKind.i64.wrap ((n6 : Int) + 1) = ((n6 + 1 : Nat) : Int) := by rw [IntWalk.i64_in _ (by omega)]; omega
                clear hq hL5 hB5 hC5 hb5 hc5 h5n hS7
                go_wp2_with fail
                refine heq.out.mono ?_; rintro e w7 ⟨rfl, rfl⟩
                go_wp2_with fail
                go_ret
                exact ⟨rfl, hb6.out⟩
          · have hmN : ¬ n9 < 2 * m := fun h => hmj ((majN_iff _ _).2 h)
            have hmB : majN (Cm.val (⟨p9, v9, m9, A9, n9, c9, l9⟩ : Cm)).servers.length (countUp (Cm.val (⟨p9, v9, m9, A9, n9, c9, l9⟩ : Cm)).servers) = false := by
              rw [val_len hS.out.box.at_]
              show majN n9 (countUp (l9.map Sm.val)) = false
              rw [hup.out]
              simpa using hmj
            have hts := tick_still hmB
            have hS8 : Hid (StOk w n9 j g C (⟨p8, v8, m8, A8, n8, c8, l8⟩ : Cm) ((((w8.setCell ⟨g, 0, none⟩ (Value.int .i64 p8)).setCell ⟨g, 1, none⟩ (Value.int .i64 v8)).setCell ⟨g, 2, none⟩ (Value.int .i64 m8)).setCell ⟨g, 3, none⟩ (Value.slice A8 n8 c8))) := hS.out.store hq hk' (by rw [hv', hts]; exact hS.out.inv) hgd8 hlen8
            have hsn : Hid ((submitC (Cm.val (⟨p8, v8, m8, A8, n8, c8, l8⟩ : Cm)) data 0).2.2 = 24) := submit_no (by rw [hv', hts]; exact hmB) _ _
            clear hk' hv' hlen8 hgd8 hq hS hts hmB hV
            have hmi : 2 * (m : Int) ≤ n9 := by omega
            have hmd : decide (2 * (m : Int) ≤ (n9 : Int)) = true := by simp; omega
            obtain ⟨m0, m1, m2, m3⟩ := (show ((((w8.setCell ⟨g, 0, none⟩ (Value.int .i64 p8)).setCell ⟨g, 1, none⟩ (Value.int .i64 v8)).setCell ⟨g, 2, none⟩ (Value.int .i64 m8)).setCell ⟨g, 3, none⟩ (Value.slice A8 n8 c8)).cell? ⟨g, 0, none⟩ = some (Value.int .i64 p8) ∧ ((((w8.setCell ⟨g, 0, none⟩ (Value.int .i64 p8)).setCell ⟨g, 1, none⟩ (Value.int .i64 v8)).setCell ⟨g, 2, none⟩ (Value.int .i64 m8)).setCell ⟨g, 3, none⟩ (Value.slice A8 n8 c8)).cell? ⟨g, 1, none⟩ = some (Value.int .i64 v8) ∧ ((((w8.setCell ⟨g, 0, none⟩ (Value.int .i64 p8)).setCell ⟨g, 1, none⟩ (Value.int .i64 v8)).setCell ⟨g, 2, none⟩ (Value.int .i64 m8)).setCell ⟨g, 3, none⟩ (Value.slice A8 n8 c8)).cell? ⟨g, 2, none⟩ = some (Value.int .i64 m8) ∧ ((((w8.setCell ⟨g, 0, none⟩ (Value.int .i64 p8)).setCell ⟨g, 1, none⟩ (Value.int .i64 v8)).setCell ⟨g, 2, none⟩ (Value.int .i64 m8)).setCell ⟨g, 3, none⟩ (Value.slice A8 n8 c8)).cell? ⟨g, 3, none⟩ = some (Value.slice A8 n8 c8) from ⟨hS8.out.box.blk.cell 0, hS8.out.box.blk.cell 1, hS8.out.box.blk.cell 2, hS8.out.box.blk.cell 3⟩)
            go_wp2_with fail
            clear k0 k1 k2 k3 z0 z1 z2 z3 m0 m1 m2 m3
            generalize ((((w8.setCell ⟨g, 0, none⟩ (Value.int .i64 p8)).setCell ⟨g, 1, none⟩ (Value.int .i64 v8)).setCell ⟨g, 2, none⟩ (Value.int .i64 m8)).setCell ⟨g, 3, none⟩ (Value.slice A8 n8 c8)) = w3 at *
            refine (submit_any (⟨p8, v8, m8, A8, n8, c8, l8⟩ : Cm) dA dc data 0 w3 hS8.out.box.at_ (hS8.out.sm2 hm120) hS8.out.hp1 (hd.out.more hS8.out.below)).mono ?_; rintro e w4 ⟨⟨k7, rfl, -, -⟩, hq⟩
            have hb4 : Hid (Below w.heap.size w w4) := hS8.out.below.trans (hq.mono hS8.out.below.size)
            rw [hsn.out]
            obtain ⟨a9, ha9⟩ : ∃ a, a = (submitC (Cm.val (⟨p8, v8, m8, A8, n8, c8, l8⟩ : Cm)) data 0).2.1 := ⟨_, rfl⟩
            rw [← ha9]
            replace ha9 := Lib.hid ha9
            obtain ⟨p7, v7, m7, A7, n7, c7, l7⟩ := k7
            simp only [clV]
            clear hq hS8
            go_wp2_with fail
            go_ret
            exact ⟨rfl, hb4.out.alloc hb4.out.size _⟩
end Go.Proofs.Ytiapeenfggjpnaa
