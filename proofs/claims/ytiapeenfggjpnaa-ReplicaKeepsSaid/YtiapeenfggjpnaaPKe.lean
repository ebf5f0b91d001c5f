/- Replicated servers: the law ReplicaKeeps, walked. -/
import Derived.Test.YtiapeenfggjpnaaPV
import Derived.Test.YtiapeenfggjpnaaRW
set_option linter.unusedVariables false
set_option linter.unusedSimpArgs false
namespace Go.Proofs.Ytiapeenfggjpnaa
open Go.RowKit
theorem newR_zero {n : Int} (h : (newR n).2 = 0) : 1 ≤ n ∧ n ≤ 7 := by
  unfold newR at h
  split at h
  · cases h
  · omega
theorem newR_ok {n : Int} (h1 : 1 ≤ n) (h7 : n ≤ 7) : (newR n).1 = newC n := by
  unfold newR
  rw [if_neg (by omega)]
theorem StOk.clen {w0 w : World} {M m g : Nat} {C : List En} {k : Cm} (h : StOk w0 M m g C k w) : C.length ≤ m := by
  have h1 := (committed_eq h.inv).2.1
  rcases mem_best k.val with e | ⟨s, hs, e⟩
  · rw [e] at h1; simp only [List.length_nil] at h1; omega
  · rw [e] at h1
    have := (h.good.all s hs).2.2.1
    omega
/-- the data that were committed before, beside the box g -/
structure KsAt (w : World) (g : Nat) (C : List En) (A : Option Addr) (n c : Nat) (L : List Bs) : Prop where
  at_ : LAt sC 1 w w.heap.size A n L
  q : InQ (fun b => b ≠ g) n A
  els : ∀ b ∈ L, BsQ w (fun b => b ≠ g) b
  eq : L.map (·.d) = C.map (·.d)
theorem KsAt.nil (w : World) (g : Nat) : KsAt w g [] none 0 0 [] := ⟨LAt.nil sC_len _ _, fun h => absurd h (Nat.lt_irrefl 0), fun b hb => by simp at hb, rfl⟩
theorem KsAt.more {w w' : World} {g : Nat} {C : List En} {A : Option Addr} {n c : Nat} {L : List Bs} (h : KsAt w g C A n c L) (hb : Below w.heap.size w w') : KsAt w' g C A n c L := ⟨h.at_.more hb, h.q, fun b hx => (h.els b hx).more hb, h.eq⟩
theorem KsAt.st {w w' : World} {g : Nat} {C : List En} {A : Option Addr} {n c : Nat} {L : List Bs} (h : KsAt w g C A n c L) (hg : w.grownBy w' (some g)) : KsAt w' g C A n c L := ⟨LAt_grownO h.at_ (fun h0 ad e e2 => by injection e2 with e2; exact h.q h0 ad e e2) hg, h.q, fun b hx => (h.els b hx).st hg (fun b hb e => by injection e with e; exact hb e), h.eq⟩
/-- what call hands back, as one value and in its parts -/
def CaT (g : Nat) (r : Cv × Int × Int) (v : Value) (w : World) : Prop := ∃ k', v = .tuple #[clV k', .int .i64 r.2.1, .int .i64 r.2.2] ∧ CmAt w (fun b => b ≠ g) k' ∧ k'.val = r.1
def CaA (g : Nat) (r : Cv) (v : Value) (w : World) : Prop := ∃ k', v = clV k' ∧ CmAt w (fun b => b ≠ g) k' ∧ k'.val = r
theorem CaT.more {g : Nat} {r : Cv × Int × Int} {v : Value} {w w' : World} (h : CaT g r v w) (hb : Below w.heap.size w w') : CaT g r v w' := by
  obtain ⟨k', h0, h1, h2⟩ := h
  exact ⟨k', h0, h1.more hb, h2⟩
theorem CaA.more {g : Nat} {r : Cv} {v : Value} {w w' : World} (h : CaA g r v w) (hb : Below w.heap.size w w') : CaA g r v w' := by
  obtain ⟨k', h0, h1, h2⟩ := h
  exact ⟨k', h0, h1.more hb, h2⟩
theorem CaT.st {g : Nat} {r : Cv × Int × Int} {v : Value} {w w' : World} (h : CaT g r v w) (hg : w.grownBy w' (some g)) : CaT g r v w' := by
  obtain ⟨k', h0, h1, h2⟩ := h
  exact ⟨k', h0, h1.st hg (fun b hb e => by injection e with e; exact hb e), h2⟩
theorem CaA.st {g : Nat} {r : Cv} {v : Value} {w w' : World} (h : CaA g r v w) (hg : w.grownBy w' (some g)) : CaA g r v w' := by
  obtain ⟨k', h0, h1, h2⟩ := h
  exact ⟨k', h0, h1.st hg (fun b hb e => by injection e with e; exact hb e), h2⟩
def F4k (g n c j : Nat) (ad : Addr) (Xv Yv : Array Value) (r : Cv × Int × Int) : Tmp → Value → World → Prop
  | 1, v, _ => v = .slice (some ad) n c
  | 5, v, _ => v = .pointer (some ⟨g, 0, none⟩)
  | 8, v, _ => v = .int .i64 (j : Int)
  | 9, v, _ => v = .int .i64 r.2.1
  | 28, v, w => CaT g r v w
  | 29, v, _ => v = .agg Xv
  | 30, v, _ => v = .slice (some ad) n c
  | 31, v, _ => v = .int .i64 (j : Int)
  | 32, v, _ => v = .pointer (some (ad.add (j * 3)))
  | 33, v, _ => v = .agg Yv
  | 34, v, w => CaT g r v w
  | 35, v, w => CaA g r.1 v w
  | 36, v, _ => v = .int .i64 r.2.1
  | 37, v, _ => v = .int .i64 r.2.2
  | _, _, _ => True
theorem F4k_more {g n c j : Nat} {ad : Addr} {Xv Yv : Array Value} {r : Cv × Int × Int} (d t : Tmp) (v : Value) (w w' : World) (hR : Rb w w') (hne : t ≠ d) (hc : ([] : List (Tmp × Tmp)).contains (d, t) = false) (h : F4k g n c j ad Xv Yv r t v w) : F4k g n c j ad Xv Yv r t v w' := by
  unfold F4k at *
  split at h <;> first | exact h | exact CaT.more h hR | exact fun hg => CaT.more (h hg) hR | exact CaA.more h hR | exact fun hg => CaA.more (h hg) hR
theorem F4k_st {g n c j : Nat} {ad : Addr} {Xv Yv : Array Value} {r : Cv × Int × Int} (t : Tmp) (v : Value) (w w' : World) (hg : w.grownBy w' (some g)) (h : F4k g n c j ad Xv Yv r t v w) : F4k g n c j ad Xv Yv r t v w' := by
  unfold F4k at *
  split at h <;> first | exact h | exact CaT.st h hg | exact CaA.st h hg
set_option maxRecDepth 100000 in
set_option maxHeartbeats 8000000 in
theorem lawKeeps (num : Int) (A : Option Addr) (n c : Nat) (ops : List Ox) (w : World) (hnw : (Lit.int .i64 num).wf = true) (h : LAt oC 3 w w.heap.size A n ops) (ho : ∀ x ∈ ops, OxAt w x) : Calls Try.prog 4 #[.int .i64 num, .slice A n c] w fun e w' => e = .returned (.bool true) ∧ Below w.heap.size w w' := by
  have hni := wf_i64' hnw
  clear hnw
  have hln : Hid (ops.length = n) := h.len
  replace h := Lib.hid h
  replace ho := Lib.hid ho
  obtain ⟨E, hE⟩ : ∃ E, E = (newR num).2 := ⟨_, rfl⟩
  replace hE := Lib.hid hE
  go_enter Try.func4, Try.ntmps4
  go_wp2_with fail
  refine (new_any num w).mono ?_; rintro e w1 ⟨⟨k0, rfl, hk, hv⟩, hq⟩
  rw [← hE.out]
  obtain ⟨p1, v1, m1, A1, n1, c1, l1⟩ := k0
  simp only [clV]
  have hb1 : Hid (Below w.heap.size w (w1.alloc (.cells #[Value.int .i64 p1, Value.int .i64 v1, Value.int .i64 m1, Value.slice A1 n1 c1] 24))) := hq.alloc hq.size _
  replace hk := Lib.hid hk
  replace hv := Lib.hid hv
  replace hq := Lib.hid hq
  by_cases hE0 : E ≠ 0
  · have hE1 : (E == 0) = false := by simpa using hE0
    go_wp2_with fail
    refine (ex_any _).mono ?_; rintro e w5 ⟨rfl, hq⟩
    go_wp2_with fail
    go_ret
    exact ⟨rfl, hb1.out.trans (hq.mono hb1.out.size)⟩
  replace hE0 : E = 0 := by simpa using hE0
  subst hE0
  have hnr := newR_zero hE.out.symm
  obtain ⟨M, rfl⟩ : ∃ M : Nat, num = (M : Int) := ⟨num.toNat, by omega⟩
  have hS : Hid (StOk w M 0 w1.heap.size [] (⟨p1, v1, m1, A1, n1, c1, l1⟩ : Cm) (w1.alloc (.cells #[Value.int .i64 p1, Value.int .i64 v1, Value.int .i64 m1, Value.slice A1 n1 c1] 24))) := StOk.new (by omega) (by omega) hq.out hk.out (hv.out.trans (by rw [newR_ok (by omega) (by omega)]))
  have hvO : Hid (Cm.val (⟨p1, v1, m1, A1, n1, c1, l1⟩ : Cm) = newC M) := hv.out.trans (by rw [newR_ok (by omega) (by omega)])
  clear hE hq hk hv
  go_wp2_with fail
  refine (long_any A n c ops _ (h.out.more hb1.out)).mono ?_; rintro e w2 ⟨⟨b, rfl, hn120⟩, hq⟩
  have hb2 := Lib.hid (hb1.out.trans (hq.mono hb1.out.size))
  cases b with
  | true =>
    go_wp2_with fail
    refine (ex_any _).mono ?_; rintro e w5 ⟨rfl, hq⟩
    go_wp2_with fail
    go_ret
    exact ⟨rfl, hb2.out.trans (hq.mono hb2.out.size)⟩
  | false =>
  replace hn120 := hn120 rfl
  have hS2 := Lib.hid (hS.out.more hq)
  clear hS hq hb2 hb1
  go_wp2_with fail
  obtain ⟨g, hg⟩ : ∃ g, g = w1.heap.size := ⟨_, rfl⟩
  rw [← hg] at hS2 ⊢
  clear hg
  go_loopw [25, 7] (fun i v7 wr => ∃ (j : Nat) (C : List En) (k : Cm) (A7 : Option Addr) (n7 c7 : Nat) (L : List Bs), j ≤ n ∧ i = .int .i64 j ∧ v7 = .slice A7 n7 c7 ∧ Hid (StOk w M j g C k wr) ∧ Hid (KsAt wr g C A7 n7 c7 L)) (fun i _ _ => n - (intOf i).toNat)
  case atStart => exact ⟨0, [], _, none, 0, 0, [], Nat.zero_le _, rfl, rfl, hS2.out, KsAt.nil _ _⟩
  clear hS2
  case round =>
    obtain ⟨j, C, k, A7, n7, c7, L, hjn, rfl, rfl, hS, hL⟩ := hrel
    by_cases hlt : j < n
    · have hj0 : (0 : Int) ≤ j := by omega
      have hj1 : (j : Int) < n := by omega
      have hjl : j < ops.length := by have := hln.out; omega
      have hm120 : j ≤ 120 := by omega
      obtain ⟨ad, hA, -, -, -, -⟩ := ox_cells (h.out.below hS.out.below (Nat.le_refl _)) hlt
      subst hA
      have hcello0 : Hid (∀ wz, Below w.heap.size w wz → wz.cell? (ad.add (j * 3)) = some (Value.int .i64 ops[j].kind) ∧ wz.cell? ⟨(ad.add (j * 3)).block, (ad.add (j * 3)).off + 1, none⟩ = some (Value.int .i64 ops[j].num) ∧ wz.cell? ⟨(ad.add (j * 3)).block, (ad.add (j * 3)).off + 2, none⟩ = some (Value.slice ops[j].A ops[j].n ops[j].c)) := fun wz hz => by
        obtain ⟨ad', hA', -, e0, e1, e2⟩ := ox_cells (h.out.below hz (Nat.le_refl _)) hlt
        injection hA' with hA'
        subst hA'
        exact ⟨e0, e1, e2⟩
      have hox : Hid (OxAt w ops[j]) := ho.out _ (List.getElem_mem hjl)
      generalize ops[j] = x at *
      obtain ⟨kind, onum, oA, on, oc, od⟩ := x
      obtain rfl : od.length = on := hox.out.1.1.len
      (try simp only at hcello0)
      have hcello : Hid (∀ wz, Below wr.heap.size wr wz → wz.cell? (ad.add (j * 3)) = some (Value.int .i64 kind) ∧ wz.cell? ⟨(ad.add (j * 3)).block, (ad.add (j * 3)).off + 1, none⟩ = some (Value.int .i64 onum) ∧ wz.cell? ⟨(ad.add (j * 3)).block, (ad.add (j * 3)).off + 2, none⟩ = some (Value.slice oA od.length oc)) := fun wz hz => hcello0.out wz (hS.out.below.trans (hz.mono hS.out.below.size))
      obtain ⟨p9, v9, m9, A9, n9, c9, l9⟩ := k
      have hcell : Hid (∀ wz, Below wr.heap.size wr wz → wz.cell? ⟨g, 0, none⟩ = some (Value.int .i64 p9) ∧ wz.cell? ⟨g, 1, none⟩ = some (Value.int .i64 v9) ∧ wz.cell? ⟨g, 2, none⟩ = some (Value.int .i64 m9) ∧ wz.cell? ⟨g, 3, none⟩ = some (Value.slice A9 n9 c9)) := fun wz hz => by
        have q := hS.out.box.blk.below hz hS.out.box.blk.lt
        exact ⟨q.cell 0, q.cell 1, q.cell 2, q.cell 3⟩
      have hcellz : Hid (∀ wz, Below wr.heap.size wr wz → wz.cell? ⟨g, 0, none⟩ = some (Value.int .i64 p9) ∧ wz.cell? ⟨g, 1, none⟩ = some (Value.int .i64 v9) ∧ wz.cell? ⟨g, 2, none⟩ = some (Value.int .i64 m9) ∧ wz.cell? ⟨g, 3, none⟩ = some (Value.slice A9 n9 c9) ∧ wz.frozen? ⟨g, 0, none⟩ = false ∧ wz.frozen? ⟨g, 1, none⟩ = false ∧ wz.frozen? ⟨g, 2, none⟩ = false ∧ wz.frozen? ⟨g, 3, none⟩ = false) := fun wz hz => by
        have q := hS.out.box.blk.below hz hS.out.box.blk.lt
        exact ⟨q.cell 0, q.cell 1, q.cell 2, q.cell 3, q.frozen 0, q.frozen 1, q.frozen 2, q.frozen 3⟩
      obtain ⟨r, hr⟩ : ∃ r, r = callC (Cm.val (⟨p9, v9, m9, A9, n9, c9, l9⟩ : Cm)) (⟨kind, onum, od⟩ : Oc) := ⟨_, rfl⟩
      have hcl : Hid (∀ wz, Below wr.heap.size wr wz → Calls Try.prog 13 #[.agg #[Value.int .i64 p9, Value.int .i64 v9, Value.int .i64 m9, Value.slice A9 n9 c9], .agg #[Value.int .i64 kind, Value.int .i64 onum, Value.slice oA od.length oc]] wz fun e w' => (∃ v9, e = .returned v9 ∧ CaT g r v9 w') ∧ Below wz.heap.size wz w') := fun wz hz => ((hS.out.more hz).call hm120 (hox.out.more (hS.out.below.trans (hz.mono hS.out.below.size)))).mono (by
        rintro e w' ⟨⟨k', rfl, hk', hv'⟩, hq'⟩
        have hlt := (hS.out.more hz).box.blk.lt
        refine ⟨⟨_, rfl, k', by rw [hr]; rfl, hk'.imp (fun b hb => hb.elim (fun h => h) (fun h => by omega)), by rw [hr]; exact hv'⟩, hq'⟩)
      replace hr := Lib.hid hr
      go_wp2_with fail
      refine RW.region [] [] 12 10 (F := fun _ => F4k g n c j ad #[Value.int .i64 p9, Value.int .i64 v9, Value.int .i64 m9, Value.slice A9 n9 c9] #[Value.int .i64 kind, Value.int .i64 onum, Value.slice oA od.length oc] r) (W := fun ph wz => if ph = true then ∃ (w8 : World) (k' : Cm), Below wr.heap.size wr w8 ∧ wz = ((((w8.setCell ⟨g, 0, none⟩ (Value.int .i64 k'.primary)).setCell ⟨g, 1, none⟩ (Value.int .i64 k'.view)).setCell ⟨g, 2, none⟩ (Value.int .i64 k'.commit)).setCell ⟨g, 3, none⟩ (Value.slice k'.A k'.n k'.c)) ∧ CmAt w8 (fun b => b ≠ g) k' ∧ k'.val = r.1 else Below wr.heap.size wr wz) (R := fun _ => Rb) rfl (fun _ => F4k_more) (by kernel_rfl) (by kernel_rfl) (by kernel_rfl) (by kernel_rfl) (by kernel_rfl) (by kernel_rfl) (by decide) rfl rfl ?_ ?_ ?_ ?_ ?_
      · show if false = true then _ else _
        rw [if_neg (by decide)]
        exact (Below.refl _ _).drew
      · intro t ht
        unfold F4k
        split <;> first | trivial | exact rfl | (exact absurd ht (by decide))
      · intro ph i o hi his hpa ho
        have hcs : i = 0 ∨ i = 1 ∨ i = 2 ∨ i = 3 ∨ i = 4 ∨ i = 5 ∨ i = 6 ∨ i = 7 ∨ i = 8 ∨ i = 9 ∨ i = 11 := by omega
        rcases hcs with rfl | rfl | rfl | rfl | rfl | rfl | rfl | rfl | rfl | rfl | rfl <;> (injection ho with ho; subst ho)
        · have hph : ph = false := by
            cases ph with
            | false => rfl
            | true => exact absurd ((show RW.ahead _ 10 0 = true by kernel_rfl).symm.trans (hpa rfl)) (by decide)
          subst hph
          intro a w2 hw0 _ hf K hK
          have hK' : ∀ d v w', _ = some d → F4k g n c j ad #[Value.int .i64 p9, Value.int .i64 v9, Value.int .i64 m9, Value.slice A9 n9 c9] #[Value.int .i64 kind, Value.int .i64 onum, Value.slice oA od.length oc] r d v w' → (Below wr.heap.size wr w') → Rb w2 w' → _ → K (a.put (some d) v) w' := fun d v w' h1 h2 h3 h4 h5 => hK d v w' h1 h2 (by simpa using h3) h4 h5
          have hw : Below wr.heap.size wr w2 := by simpa using hw0
          have f0 := hf 5 rfl
          simp only [F4k] at f0
          clear hf
          obtain ⟨a0, a1, a2, a3⟩ := hcell.out w2 hw
          go_simp
          exact hK' _ _ _ rfl rfl hw (Below.refl _ _) (fun h => absurd h (by decide))
        · have hph : ph = false := by
            cases ph with
            | false => rfl
            | true => exact absurd ((show RW.ahead _ 10 1 = true by kernel_rfl).symm.trans (hpa rfl)) (by decide)
          subst hph
          intro a w2 hw0 _ hf K hK
          have hK' : ∀ d v w', _ = some d → F4k g n c j ad #[Value.int .i64 p9, Value.int .i64 v9, Value.int .i64 m9, Value.slice A9 n9 c9] #[Value.int .i64 kind, Value.int .i64 onum, Value.slice oA od.length oc] r d v w' → (Below wr.heap.size wr w') → Rb w2 w' → _ → K (a.put (some d) v) w' := fun d v w' h1 h2 h3 h4 h5 => hK d v w' h1 h2 (by simpa using h3) h4 h5
          have hw : Below wr.heap.size wr w2 := by simpa using hw0
          have f0 := hf 1 rfl
          simp only [F4k] at f0
          clear hf
          go_simp
          exact hK' _ _ _ rfl rfl hw (Below.refl _ _) (fun h => absurd h (by decide))
        · have hph : ph = false := by
            cases ph with
            | false => rfl
            | true => exact absurd ((show RW.ahead _ 10 2 = true by kernel_rfl).symm.trans (hpa rfl)) (by decide)
          subst hph
          intro a w2 hw0 _ hf K hK
          have hK' : ∀ d v w', _ = some d → F4k g n c j ad #[Value.int .i64 p9, Value.int .i64 v9, Value.int .i64 m9, Value.slice A9 n9 c9] #[Value.int .i64 kind, Value.int .i64 onum, Value.slice oA od.length oc] r d v w' → (Below wr.heap.size wr w') → Rb w2 w' → _ → K (a.put (some d) v) w' := fun d v w' h1 h2 h3 h4 h5 => hK d v w' h1 h2 (by simpa using h3) h4 h5
          have hw : Below wr.heap.size wr w2 := by simpa using hw0
          have f0 := hf 8 rfl
          simp only [F4k] at f0
          clear hf
          go_simp
          exact hK' _ _ _ rfl rfl hw (Below.refl _ _) (fun h => absurd h (by decide))
        · have hph : ph = false := by
            cases ph with
            | false => rfl
            | true => exact absurd ((show RW.ahead _ 10 3 = true by kernel_rfl).symm.trans (hpa rfl)) (by decide)
          subst hph
          intro a w2 hw0 _ hf K hK
          have hK' : ∀ d v w', _ = some d → F4k g n c j ad #[Value.int .i64 p9, Value.int .i64 v9, Value.int .i64 m9, Value.slice A9 n9 c9] #[Value.int .i64 kind, Value.int .i64 onum, Value.slice oA od.length oc] r d v w' → (Below wr.heap.size wr w') → Rb w2 w' → _ → K (a.put (some d) v) w' := fun d v w' h1 h2 h3 h4 h5 => hK d v w' h1 h2 (by simpa using h3) h4 h5
          have hw : Below wr.heap.size wr w2 := by simpa using hw0
          have f0 := hf 30 rfl
          have f1 := hf 31 rfl
          simp only [F4k] at f0 f1
          clear hf
          go_simp
          exact hK' _ _ _ rfl rfl hw (Below.refl _ _) (fun h => absurd h (by decide))
        · have hph : ph = false := by
            cases ph with
            | false => rfl
            | true => exact absurd ((show RW.ahead _ 10 4 = true by kernel_rfl).symm.trans (hpa rfl)) (by decide)
          subst hph
          intro a w2 hw0 _ hf K hK
          have hK' : ∀ d v w', _ = some d → F4k g n c j ad #[Value.int .i64 p9, Value.int .i64 v9, Value.int .i64 m9, Value.slice A9 n9 c9] #[Value.int .i64 kind, Value.int .i64 onum, Value.slice oA od.length oc] r d v w' → (Below wr.heap.size wr w') → Rb w2 w' → _ → K (a.put (some d) v) w' := fun d v w' h1 h2 h3 h4 h5 => hK d v w' h1 h2 (by simpa using h3) h4 h5
          have hw : Below wr.heap.size wr w2 := by simpa using hw0
          have f0 := hf 32 rfl
          simp only [F4k] at f0
          clear hf
          obtain ⟨o0, o1, o2⟩ := hcello.out w2 hw
          go_simp
          exact hK' _ _ _ rfl rfl hw (Below.refl _ _) (fun h => absurd h (by decide))
        · have hph : ph = false := by
            cases ph with
            | false => rfl
            | true => exact absurd ((show RW.ahead _ 10 5 = true by kernel_rfl).symm.trans (hpa rfl)) (by decide)
          subst hph
          intro a w2 hw0 _ hf K hK
          have hK' : ∀ d v w', _ = some d → F4k g n c j ad #[Value.int .i64 p9, Value.int .i64 v9, Value.int .i64 m9, Value.slice A9 n9 c9] #[Value.int .i64 kind, Value.int .i64 onum, Value.slice oA od.length oc] r d v w' → (Below wr.heap.size wr w') → Rb w2 w' → _ → K (a.put (some d) v) w' := fun d v w' h1 h2 h3 h4 h5 => hK d v w' h1 h2 (by simpa using h3) h4 h5
          have hw : Below wr.heap.size wr w2 := by simpa using hw0
          have f0 := hf 29 rfl
          have f1 := hf 33 rfl
          simp only [F4k] at f0 f1
          clear hf
          go_simp
          refine (hcl.out w2 hw).mono ?_; rintro e w5 ⟨hP, hbq⟩
          obtain ⟨v9, rfl, hT⟩ := hP
          exact hK' _ _ _ rfl hT (hw.trans (hbq.mono hw.size)) hbq (fun h => absurd h (by decide))
        · have hph : ph = false := by
            cases ph with
            | false => rfl
            | true => exact absurd ((show RW.ahead _ 10 6 = true by kernel_rfl).symm.trans (hpa rfl)) (by decide)
          subst hph
          intro a w2 hw0 _ hf K hK
          have hK' : ∀ d v w', _ = some d → F4k g n c j ad #[Value.int .i64 p9, Value.int .i64 v9, Value.int .i64 m9, Value.slice A9 n9 c9] #[Value.int .i64 kind, Value.int .i64 onum, Value.slice oA od.length oc] r d v w' → (Below wr.heap.size wr w') → Rb w2 w' → _ → K (a.put (some d) v) w' := fun d v w' h1 h2 h3 h4 h5 => hK d v w' h1 h2 (by simpa using h3) h4 h5
          have hw : Below wr.heap.size wr w2 := by simpa using hw0
          have f0 := hf 34 rfl
          simp only [F4k] at f0
          clear hf
          have hT := Lib.hid f0
          clear f0
          go_simp
          exact hK' _ _ _ rfl hT.out hw (Below.refl _ _) (fun h => absurd h (by decide))
        · have hph : ph = false := by
            cases ph with
            | false => rfl
            | true => exact absurd ((show RW.ahead _ 10 7 = true by kernel_rfl).symm.trans (hpa rfl)) (by decide)
          subst hph
          intro a w2 hw0 _ hf K hK
          have hK' : ∀ d v w', _ = some d → F4k g n c j ad #[Value.int .i64 p9, Value.int .i64 v9, Value.int .i64 m9, Value.slice A9 n9 c9] #[Value.int .i64 kind, Value.int .i64 onum, Value.slice oA od.length oc] r d v w' → (Below wr.heap.size wr w') → Rb w2 w' → _ → K (a.put (some d) v) w' := fun d v w' h1 h2 h3 h4 h5 => hK d v w' h1 h2 (by simpa using h3) h4 h5
          have hw : Below wr.heap.size wr w2 := by simpa using hw0
          have f0 := hf 28 rfl
          simp only [F4k] at f0
          clear hf
          obtain ⟨k', hv, h1, h2⟩ := f0
          replace h1 := Lib.hid h1
          replace h2 := Lib.hid h2
          simp only [clV] at hv
          go_simp
          exact hK' _ _ _ rfl ⟨k', rfl, h1.out, h2.out⟩ hw (Below.refl _ _) (fun h => absurd h (by decide))
        · intro a w2 hw _ hf K hK
          have f0 := hf 28 rfl
          simp only [F4k] at f0
          clear hf
          obtain ⟨k', hv, h1, h2⟩ := f0
          replace h1 := Lib.hid h1
          replace h2 := Lib.hid h2
          simp only [clV] at hv
          go_simp
          exact hK _ _ _ rfl rfl hw (Below.refl _ _) (fun h => absurd h (by decide))
        · intro a w2 hw _ hf K hK
          have f0 := hf 28 rfl
          simp only [F4k] at f0
          clear hf
          obtain ⟨k', hv, h1, h2⟩ := f0
          replace h1 := Lib.hid h1
          replace h2 := Lib.hid h2
          simp only [clV] at hv
          go_simp
          exact hK _ _ _ rfl rfl hw (Below.refl _ _) (fun h => absurd h (by decide))
        · intro a w2 hw _ hf K hK
          have f0 := hf 36 rfl
          simp only [F4k] at f0
          clear hf
          go_simp
          exact hK _ _ _ rfl rfl hw (Below.refl _ _) (fun h => absurd h (by decide))
      · intro o ho a w2 hw0 hf K hK
        injection ho with ho
        subst ho
        have hw : Below wr.heap.size wr w2 := by simpa using hw0
        have f0 := hf 5 rfl
        have f1 := hf 35 rfl
        simp only [F4k] at f0 f1
        clear hf
        obtain ⟨k9, hl9, q1, q2⟩ := f1
        have q1 := Lib.hid q1
        have q2 := Lib.hid q2
        simp only [clV] at hl9
        obtain ⟨a0, a1, a2, a3, z0, z1, z2, z3⟩ := hcellz.out w2 hw
        have hg1 := Lib.hid (grown_set4 w2 g (Value.int .i64 k9.primary) (Value.int .i64 k9.view) (Value.int .i64 k9.commit) (Value.slice k9.A k9.n k9.c))
        go_simp
        exact hK undef _ (by show if true = true then _ else _; rw [if_pos rfl]; exact ⟨w2, k9, hw, rfl, q1.out, q2.out⟩) (fun t u hF => F4k_st t u w2 _ hg1.out hF)
      · intro a' w9 hd hs hw hout hf
        replace hw : ∃ (w8 : World) (k' : Cm), Below wr.heap.size wr w8 ∧ w9 = ((((w8.setCell ⟨g, 0, none⟩ (Value.int .i64 k'.primary)).setCell ⟨g, 1, none⟩ (Value.int .i64 k'.view)).setCell ⟨g, 2, none⟩ (Value.int .i64 k'.commit)).setCell ⟨g, 3, none⟩ (Value.slice k'.A k'.n k'.c)) ∧ CmAt w8 (fun b => b ≠ g) k' ∧ k'.val = r.1 := by simpa using hw
        have h9 := hf 11 9 (by decide) rfl rfl
        simp only [F4k] at h9
        have h37 := hf 9 37 (by decide) rfl rfl
        simp only [F4k] at h37
        have e0 : _ = some (Value.int .i64 (M : Int)) := hout 0 rfl
        have e1 : _ = some (Value.slice (some ad) n c) := hout 1 rfl
        have e2 : _ = some (undef) := hout 2 rfl
        have e3 : _ = some (undef) := hout 3 rfl
        have e5 : _ = some (Value.pointer (some ⟨g, 0, none⟩)) := hout 5 rfl
        have e7 : _ = some (Value.slice A7 n7 c7) := hout 7 rfl
        have e8 : _ = some (Value.int .i64 (j : Int)) := hout 8 rfl
        have e11 : _ = some (Value.tuple #[.agg #[Value.int .i64 p1, Value.int .i64 v1, Value.int .i64 m1, Value.slice A1 n1 c1], .int .i64 0]) := hout 11 rfl
        have e12 : _ = some (Value.int .i64 (M : Int)) := hout 12 rfl
        have e13 : _ = some (Value.tuple #[.agg #[Value.int .i64 p1, Value.int .i64 v1, Value.int .i64 m1, Value.slice A1 n1 c1], .int .i64 0]) := hout 13 rfl
        have e14 : _ = some (Value.agg #[Value.int .i64 p1, Value.int .i64 v1, Value.int .i64 m1, Value.slice A1 n1 c1]) := hout 14 rfl
        have e15 : _ = some (Value.int .i64 0) := hout 15 rfl
        have e16 : _ = some (Value.int .i64 0) := hout 16 rfl
        have e17 : _ = some (Value.bool false) := hout 17 rfl
        have e18 : _ = some (Value.bool false) := hout 18 rfl
        have e19 : _ = some (Value.slice (some ad) n c) := hout 19 rfl
        have e20 : _ = some (Value.bool false) := hout 20 rfl
        have e21 : _ = some (Value.bool false) := hout 21 rfl
        have e22 : _ = some (undef) := hout 22 rfl
        have e23 : _ = some (Value.slice (some ad) n c) := hout 23 rfl
        have e24 : _ = some (Value.int .i64 (n : Int)) := hout 24 rfl
        have e25 : _ = some (Value.int .i64 (j : Int)) := hout 25 rfl
        have e26 : _ = some (Value.bool true) := hout 26 rfl
        have e27 : _ = some (Value.int .i64 (j : Int)) := hout 27 rfl
        have e89 : _ = some (undef) := hout 89 rfl
        obtain ⟨tm, df⟩ := a'
        simp only at hd hs h9 h37 e0 e1 e2 e3 e5 e7 e8 e11 e12 e13 e14 e15 e16 e17 e18 e19 e20 e21 e22 e23 e24 e25 e26 e27 e89
        have e := lit_arr tm 90 hs
        rw [show (List.range 90).map (fun i => tm[i]?.getD undef) = [tm[0]?.getD undef, tm[1]?.getD undef, tm[2]?.getD undef, tm[3]?.getD undef, tm[4]?.getD undef, tm[5]?.getD undef, tm[6]?.getD undef, tm[7]?.getD undef, tm[8]?.getD undef, tm[9]?.getD undef, tm[10]?.getD undef, tm[11]?.getD undef, tm[12]?.getD undef, tm[13]?.getD undef, tm[14]?.getD undef, tm[15]?.getD undef, tm[16]?.getD undef, tm[17]?.getD undef, tm[18]?.getD undef, tm[19]?.getD undef, tm[20]?.getD undef, tm[21]?.getD undef, tm[22]?.getD undef, tm[23]?.getD undef, tm[24]?.getD undef, tm[25]?.getD undef, tm[26]?.getD undef, tm[27]?.getD undef, tm[28]?.getD undef, tm[29]?.getD undef, tm[30]?.getD undef, tm[31]?.getD undef, tm[32]?.getD undef, tm[33]?.getD undef, tm[34]?.getD undef, tm[35]?.getD undef, tm[36]?.getD undef, tm[37]?.getD undef, tm[38]?.getD undef, tm[39]?.getD undef, tm[40]?.getD undef, tm[41]?.getD undef, tm[42]?.getD undef, tm[43]?.getD undef, tm[44]?.getD undef, tm[45]?.getD undef, tm[46]?.getD undef, tm[47]?.getD undef, tm[48]?.getD undef, tm[49]?.getD undef, tm[50]?.getD undef, tm[51]?.getD undef, tm[52]?.getD undef, tm[53]?.getD undef, tm[54]?.getD undef, tm[55]?.getD undef, tm[56]?.getD undef, tm[57]?.getD undef, tm[58]?.getD undef, tm[59]?.getD undef, tm[60]?.getD undef, tm[61]?.getD undef, tm[62]?.getD undef, tm[63]?.getD undef, tm[64]?.getD undef, tm[65]?.getD undef, tm[66]?.getD undef, tm[67]?.getD undef, tm[68]?.getD undef, tm[69]?.getD undef, tm[70]?.getD undef, tm[71]?.getD undef, tm[72]?.getD undef, tm[73]?.getD undef, tm[74]?.getD undef, tm[75]?.getD undef, tm[76]?.getD undef, tm[77]?.getD undef, tm[78]?.getD undef, tm[79]?.getD undef, tm[80]?.getD undef, tm[81]?.getD undef, tm[82]?.getD undef, tm[83]?.getD undef, tm[84]?.getD undef, tm[85]?.getD undef, tm[86]?.getD undef, tm[87]?.getD undef, tm[88]?.getD undef, tm[89]?.getD undef] from rfl] at e
        simp only [h9, h37, e0, e1, e2, e3, e5, e7, e8, e11, e12, e13, e14, e15, e16, e17, e18, e19, e20, e21, e22, e23, e24, e25, e26, e27, e89, Option.getD_some] at e
        clear hf hout hs
        rw [e, hd]
        clear e hd h9 h37 e0 e1 e2 e3 e5 e7 e8 e11 e12 e13 e14 e15 e16 e17 e18 e19 e20 e21 e22 e23 e24 e25 e26 e27 e89
        generalize tm[4]?.getD undef = u4x, tm[6]?.getD undef = u6x, tm[10]?.getD undef = u10x, tm[28]?.getD undef = u28x, tm[29]?.getD undef = u29x, tm[30]?.getD undef = u30x, tm[31]?.getD undef = u31x, tm[32]?.getD undef = u32x, tm[33]?.getD undef = u33x, tm[34]?.getD undef = u34x, tm[35]?.getD undef = u35x, tm[36]?.getD undef = u36x, tm[38]?.getD undef = u38x, tm[39]?.getD undef = u39x, tm[40]?.getD undef = u40x, tm[41]?.getD undef = u41x, tm[42]?.getD undef = u42x, tm[43]?.getD undef = u43x, tm[44]?.getD undef = u44x, tm[45]?.getD undef = u45x, tm[46]?.getD undef = u46x, tm[47]?.getD undef = u47x, tm[48]?.getD undef = u48x, tm[49]?.getD undef = u49x, tm[50]?.getD undef = u50x, tm[51]?.getD undef = u51x, tm[52]?.getD undef = u52x, tm[53]?.getD undef = u53x, tm[54]?.getD undef = u54x, tm[55]?.getD undef = u55x, tm[56]?.getD undef = u56x, tm[57]?.getD undef = u57x, tm[58]?.getD undef = u58x, tm[59]?.getD undef = u59x, tm[60]?.getD undef = u60x, tm[61]?.getD undef = u61x, tm[62]?.getD undef = u62x, tm[63]?.getD undef = u63x, tm[64]?.getD undef = u64x, tm[65]?.getD undef = u65x, tm[66]?.getD undef = u66x, tm[67]?.getD undef = u67x, tm[68]?.getD undef = u68x, tm[69]?.getD undef = u69x, tm[70]?.getD undef = u70x, tm[71]?.getD undef = u71x, tm[72]?.getD undef = u72x, tm[73]?.getD undef = u73x, tm[74]?.getD undef = u74x, tm[75]?.getD undef = u75x, tm[76]?.getD undef = u76x, tm[77]?.getD undef = u77x, tm[78]?.getD undef = u78x, tm[79]?.getD undef = u79x, tm[80]?.getD undef = u80x, tm[81]?.getD undef = u81x, tm[82]?.getD undef = u82x, tm[83]?.getD undef = u83x, tm[84]?.getD undef = u84x, tm[85]?.getD undef = u85x, tm[86]?.getD undef = u86x, tm[87]?.getD undef = u87x, tm[88]?.getD undef = u88x
        obtain ⟨w8, k', hw, hws, hk', hv'⟩ := hw
        subst hws
        obtain ⟨p8, v8, m8, A8, n8, c8, l8⟩ := k'
        obtain ⟨C', hpre, hi, hcc⟩ := call_inv hS.out.inv (⟨kind, onum, od⟩ : Oc)
        have hcf := call_from hS.out.inv (⟨kind, onum, od⟩ : Oc)
        rw [← hr.out] at hcf hi hcc
        have hS2 : Hid (StOk w M (j + 1) g C' (⟨p8, v8, m8, A8, n8, c8, l8⟩ : Cm) ((((w8.setCell ⟨g, 0, none⟩ (Value.int .i64 p8)).setCell ⟨g, 1, none⟩ (Value.int .i64 v8)).setCell ⟨g, 2, none⟩ (Value.int .i64 m8)).setCell ⟨g, 3, none⟩ (Value.slice A8 n8 c8))) := StOk.next hS.out hw (hk'.imp (fun b hb => Or.inl hb)) hv' hi hcf
        replace hpre := Lib.hid hpre
        replace hcc := Lib.hid hcc
        have hv8 := Lib.hid hv'
        have hcv := Lib.hid hcf.view
        have hq8 := Lib.hid hw
        clear hk' hv' hi hcf hw hcell hcellz hcl hcello
        try simp only
        have hL8 : Hid (KsAt ((((w8.setCell ⟨g, 0, none⟩ (Value.int .i64 p8)).setCell ⟨g, 1, none⟩ (Value.int .i64 v8)).setCell ⟨g, 2, none⟩ (Value.int .i64 m8)).setCell ⟨g, 3, none⟩ (Value.slice A8 n8 c8)) g C A7 n7 c7 L) := (hL.out.more hq8.out).st (grown_set4 w8 g (Value.int .i64 p8) (Value.int .i64 v8) (Value.int .i64 m8) (Value.slice A8 n8 c8))
        have hw8 : Hid (wr.heap.size ≤ w8.heap.size) := hq8.out.size
        clear hL hS hq8 hcv hv8
        obtain ⟨m0, m1, m2, m3⟩ := (show ((((w8.setCell ⟨g, 0, none⟩ (Value.int .i64 p8)).setCell ⟨g, 1, none⟩ (Value.int .i64 v8)).setCell ⟨g, 2, none⟩ (Value.int .i64 m8)).setCell ⟨g, 3, none⟩ (Value.slice A8 n8 c8)).cell? ⟨g, 0, none⟩ = some (Value.int .i64 p8) ∧ ((((w8.setCell ⟨g, 0, none⟩ (Value.int .i64 p8)).setCell ⟨g, 1, none⟩ (Value.int .i64 v8)).setCell ⟨g, 2, none⟩ (Value.int .i64 m8)).setCell ⟨g, 3, none⟩ (Value.slice A8 n8 c8)).cell? ⟨g, 1, none⟩ = some (Value.int .i64 v8) ∧ ((((w8.setCell ⟨g, 0, none⟩ (Value.int .i64 p8)).setCell ⟨g, 1, none⟩ (Value.int .i64 v8)).setCell ⟨g, 2, none⟩ (Value.int .i64 m8)).setCell ⟨g, 3, none⟩ (Value.slice A8 n8 c8)).cell? ⟨g, 2, none⟩ = some (Value.int .i64 m8) ∧ ((((w8.setCell ⟨g, 0, none⟩ (Value.int .i64 p8)).setCell ⟨g, 1, none⟩ (Value.int .i64 v8)).setCell ⟨g, 2, none⟩ (Value.int .i64 m8)).setCell ⟨g, 3, none⟩ (Value.slice A8 n8 c8)).cell? ⟨g, 3, none⟩ = some (Value.slice A8 n8 c8) from ⟨hS2.out.box.blk.cell 0, hS2.out.box.blk.cell 1, hS2.out.box.blk.cell 2, hS2.out.box.blk.cell 3⟩)
        go_wp2_with fail
        clear m0 m1 m2 m3
        generalize ((((w8.setCell ⟨g, 0, none⟩ (Value.int .i64 p8)).setCell ⟨g, 1, none⟩ (Value.int .i64 v8)).setCell ⟨g, 2, none⟩ (Value.int .i64 m8)).setCell ⟨g, 3, none⟩ (Value.slice A8 n8 c8)) = w3 at *
        refine (hS2.out.com1 (by omega)).mono ?_; rintro e w4 ⟨⟨A6, n6, c6, C6, rfl, hL6, hcp6, hQ6, hB6, hC6⟩, hq⟩
        have hg3 := hS2.out.box.blk.lt
        have hN : Hid (KsAt w4 g C' A6 n6 c6 C6) := ⟨hL6, hQ6.imp (fun b hb => by omega), fun b hb => (hB6 b hb).imp (fun b hb => by omega), hC6⟩
        have hcp : n6 ≤ c6 ∧ c6 ≤ 9223372036854775807 := by have := hcp6; simp only [maxLen] at this; omega
        have hS := Lib.hid (hS2.out.more hq)
        have hL := Lib.hid (hL8.out.more hq)
        have hop := hcello0.out w4 hS.out.below
        have hoxd := Lib.hid (hox.out.more hS.out.below)
        clear hL6 hcp6 hQ6 hB6 hC6 hq hg3 hS2 hL8
        have hlens : Hid (n7 = C.length ∧ n6 = C'.length) := by
          have e1 := congrArg List.length hL.out.eq
          have e2 := congrArg List.length hN.out.eq
          have e3 := hL.out.at_.len
          have e4 := hN.out.at_.len
          simp only [List.length_map] at e1 e2
          show _ ∧ _
          omega
        have h76 : n7 ≤ n6 := by
          have := hlens.out
          have e5 := hpre.out.length_le
          omega
        have hn6b : n6 ≤ 121 := by
          have := hlens.out
          have := StOk.clen hS.out
          omega
        have h76i : ¬ (n6 : Int) < (n7 : Int) := by omega
        have h76d : decide ((n6 : Int) < (n7 : Int)) = false := by simp; omega
        have h7c : n7 ≤ c6 := by omega
        have h7ci : (n7 : Int) ≤ (c6 : Int) := by omega
        have h70 : (0 : Int) ≤ (n7 : Int) := by omega
        have hsd := Lib.hid (sameData_any A6 A7 n7 c6 n7 c7 (C6.take n7) L w4 (LAt.take_ hN.out.at_ h76) hL.out.at_ (fun b hb => (hN.out.els b (List.mem_of_mem_take hb)).bs) (fun b hb => (hL.out.els b hb).bs) (by
          rw [List.map_take, hN.out.eq, hL.out.eq, hlens.out.1]
          obtain ⟨tl, htl⟩ := hpre.out
          rw [← htl, List.map_append, List.take_append_of_le_length (by rw [List.length_map]; omega), List.take_of_length_le (by rw [List.length_map]; omega)]) (by omega))
        go_wp2_with fail
        refine hsd.out.mono ?_; rintro e w5 ⟨rfl, rfl⟩
        clear hsd
        obtain ⟨o0, o1, o2⟩ := hop
        by_cases q1 : kind = 1
        · subst q1
          obtain ⟨E2, hE2⟩ : ∃ E2, E2 = r.2.2 := ⟨_, rfl⟩
          rw [← hE2]
          by_cases q2 : E2 = 0
          · subst q2
            obtain ⟨P, -, hat, hC'⟩ := hcc.out rfl hE2.symm
            obtain ⟨pl, hpl⟩ : ∃ pl, pl = P.log.length := ⟨_, rfl⟩
            have hn61 : n6 = pl + 1 := by
              have := hlens.out.2
              rw [hC', List.length_append] at this
              simp only [List.length_cons, List.length_nil] at this
              omega
            have hat' : r.2.1 = (pl : Int) := by rw [hat]; omega
            rw [hat']
            have hpn : pl < n6 := by omega
            have h5n : C6.length = n6 := hN.out.at_.len
            have hdl5 : (C6[pl]'(by omega)).d = od := by
              have e1 : (C6.map (·.d))[pl]? = some od := by
                rw [hN.out.eq, hC', List.map_append, List.getElem?_append_right (by rw [List.length_map]; omega), List.length_map, show pl - P.log.length = 0 by omega]
                rfl
              rw [List.getElem?_map, List.getElem?_eq_getElem (by omega)] at e1
              exact Option.some.inj e1
            obtain ⟨ad6, hA6, -, t0⟩ := s_cell hN.out.at_ hpn
            have hb5 := hN.out.els _ (List.getElem_mem (show pl < C6.length by omega))
            generalize C6[pl] = y5 at *
            obtain ⟨yA, yn, yc, yd⟩ := y5
            simp only at t0 hdl5
            subst hdl5
            subst hA6
            have heq := fun m => equal_any yA oA yn yc yd.length oc yd yd (w5.drewN m) _ _ (hb5.at_.drewN m) (hoxd.out.1.1.drewN m)
            rw [show decide (yd = yd) = true by simp] at heq
            have hp0 : (0 : Int) ≤ pl := by omega
            have hp1 : (pl : Int) < n6 := by omega
            have hp2 : ¬ (n6 : Int) ≤ (pl : Int) := by omega
            have hp2d : decide ((n6 : Int) ≤ (pl : Int)) = false := by simp; omega
            have hp3 : ¬ (pl : Int) < 0 := by omega
            have hp3d : decide ((pl : Int) < 0) = false := by simp
            have heqH := Lib.hid heq
            replace hcc := Lib.hid trivial
            clear heq hb5 hE2 hat hat' hC' hpl hn61 h5n
            go_wp2_with fail
            go_quiet (exact Calls.quiet_of_same (heqH.out _))
            go_wp2_with fail
            go_roundw
            case rel => exact ⟨j + 1, C', _, _, n6, c6, C6, by omega, by go_num, rfl, hS.out.more (below_drewN (Below.refl _ _) _), hN.out.more (below_drewN (Below.refl _ _) _)⟩
            case measure => simp [intOf]; omega
          · have q2d : (E2 == 0) = false := by simpa using q2
            replace hE2 := Lib.hid hE2
            clear hcc
            go_wp2_with fail
            go_quiet (fail)
            go_wp2_with fail
            go_roundw
            case rel => exact ⟨j + 1, C', _, _, n6, c6, C6, by omega, by go_num, rfl, hS.out.more (below_drewN (Below.refl _ _) _), hN.out.more (below_drewN (Below.refl _ _) _)⟩
            case measure => simp [intOf]; omega
        · have q1d : (kind == 1) = false := by simpa using q1
          obtain ⟨E2, hE2⟩ : ∃ E2, E2 = r.2.2 := ⟨_, rfl⟩
          obtain ⟨N2, hN2⟩ : ∃ N2, N2 = r.2.1 := ⟨_, rfl⟩
          rw [← hE2, ← hN2]
          clear hcc hE2 hN2
          go_wp2_with fail
          go_quiet (fail)
          go_wp2_with fail
          go_roundw
          case rel => exact ⟨j + 1, C', _, _, n6, c6, C6, by omega, by go_num, rfl, hS.out.more (below_drewN (Below.refl _ _) _), hN.out.more (below_drewN (Below.refl _ _) _)⟩
          case measure => simp [intOf]; omega
    · go_wp2_with fail
      refine (ex_any _).mono ?_; rintro e w5 ⟨rfl, hq⟩
      go_wp2_with fail
      go_ret
      exact ⟨rfl, hS.out.below.trans (hq.mono hS.out.below.size)⟩
end Go.Proofs.Ytiapeenfggjpnaa
