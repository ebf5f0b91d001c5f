/- Replicated servers: the reference's small questions, walked. -/
import Derived.Test.YtiapeenfggjpnaaPD
import Derived.Test.YtiapeenfggjpnaaRV
set_option linter.unusedVariables false
set_option linter.unusedSimpArgs false
namespace Go.Proofs.Ytiapeenfggjpnaa
open Go.RowKit
theorem arr3 {cs : Array Value} (h : cs.size = 3) : ∃ a b c, cs = #[a, b, c] := by
  obtain ⟨l⟩ := cs
  match l, h with
  | [a, b, c], _ => exact ⟨a, b, c, rfl⟩
theorem sv_set3 {w : World} {g : Nat} {a0 a1 a2 : Value} (h : Blk w g 47 #[a0, a1, a2]) (v0 v1 v2 : Value) : Blk (((w.setCell ⟨g, 0, none⟩ v0).setCell ⟨g, 1, none⟩ v1).setCell ⟨g, 2, none⟩ v2) g 47 #[v0, v1, v2] :=
  ((h.set_ 0 v0).set_ 1 v1).set_ 2 v2
theorem grown_set3 (w : World) (g : Nat) (v0 v1 v2 : Value) : w.grownBy (((w.setCell ⟨g, 0, none⟩ v0).setCell ⟨g, 1, none⟩ v1).setCell ⟨g, 2, none⟩ v2) (some g) :=
  only_set (only_set (only_set (World.grownBy.refl _ _) 0 _) 1 _) 2 _
def F55 (n c gx i j base : Nat) (ad : Addr) (a b : Sm) : Tmp → Value → World → Prop
  | 1, v, _ => v = .int .i64 (i : Int)
  | 2, v, _ => v = .int .i64 (j : Int)
  | 3, v, _ => v = .pointer (some ⟨gx, 0, none⟩)
  | 7, v, w => Var 47 3 base v w
  | 8, v, w => Var 47 3 base v w
  | 9, v, _ => v = .pointer (some ⟨gx, 3, none⟩)
  | 10, v, _ => v = .slice (some ad) n c
  | 11, v, _ => v = .int .i64 (i : Int)
  | 12, v, _ => v = .pointer (some (ad.add (i * 3)))
  | 13, v, _ => v = svV a
  | 14, v, _ => v = .pointer (some ⟨gx, 3, none⟩)
  | 15, v, _ => v = .slice (some ad) n c
  | 16, v, _ => v = .int .i64 (j : Int)
  | 17, v, _ => v = .pointer (some (ad.add (j * 3)))
  | 18, v, _ => v = svV b
  | _, _, _ => True
theorem F55_more {n c gx i j base : Nat} {ad : Addr} {a b : Sm} (d t : Tmp) (v : Value) (w w' : World) (hR : Rb w w') (hne : t ≠ d) (hc : ([] : List (Tmp × Tmp)).contains (d, t) = false) (h : F55 n c gx i j base ad a b t v w) : F55 n c gx i j base ad a b t v w' := by
  unfold F55 at *
  split at h <;> first | exact h | exact Var.more h hR | exact fun hg => Var.more (h hg) hR
theorem F55_lit (tm : Array Value) (hs : tm.size = 46) : tm = #[tm[0]?.getD undef, tm[1]?.getD undef, tm[2]?.getD undef, tm[3]?.getD undef, tm[4]?.getD undef, tm[5]?.getD undef, tm[6]?.getD undef, tm[7]?.getD undef, tm[8]?.getD undef, tm[9]?.getD undef, tm[10]?.getD undef, tm[11]?.getD undef, tm[12]?.getD undef, tm[13]?.getD undef, tm[14]?.getD undef, tm[15]?.getD undef, tm[16]?.getD undef, tm[17]?.getD undef, tm[18]?.getD undef, tm[19]?.getD undef, tm[20]?.getD undef, tm[21]?.getD undef, tm[22]?.getD undef, tm[23]?.getD undef, tm[24]?.getD undef, tm[25]?.getD undef, tm[26]?.getD undef, tm[27]?.getD undef, tm[28]?.getD undef, tm[29]?.getD undef, tm[30]?.getD undef, tm[31]?.getD undef, tm[32]?.getD undef, tm[33]?.getD undef, tm[34]?.getD undef, tm[35]?.getD undef, tm[36]?.getD undef, tm[37]?.getD undef, tm[38]?.getD undef, tm[39]?.getD undef, tm[40]?.getD undef, tm[41]?.getD undef, tm[42]?.getD undef, tm[43]?.getD undef, tm[44]?.getD undef, tm[45]?.getD undef] := lit_arr tm 46 hs
def G55 (a b : Sm) (base : Nat) : Tmp → Value → World → Prop
  | 7, v, w => VarIs 47 base #[Value.bool a.up, Value.int .i64 a.view, Value.slice a.A a.n a.c] v w
  | 8, v, w => VarIs 47 base #[Value.bool b.up, Value.int .i64 b.view, Value.slice b.A b.n b.c] v w
  | _, _, _ => True
theorem G55_more {a b : Sm} {base : Nat} (d t : Tmp) (v : Value) (w w' : World) (hR : Rb w w') (h : G55 a b base t v w) : G55 a b base t v w' := by
  unfold G55 at *
  split at h <;> first | exact h.more hR | exact h
theorem G55_st {a b : Sm} {base : Nat} (u : Value) (t : Tmp) (v : Value) (w w' : World) (hS : St 47 base u w w') (hne : v ≠ u) (h : G55 a b base t v w) : G55 a b base t v w' := by
  unfold G55 at *
  split at h <;> first | exact h.st hS hne | exact h
theorem F55_st {n c gx i j base : Nat} {ad : Addr} {a b : Sm} (u : Value) (t : Tmp) (v : Value) (w w' : World) (hS : St 47 base u w w') (h : F55 n c gx i j base ad a b t v w) : F55 n c gx i j base ad a b t v w' := by
  unfold F55 at *
  split at h <;> first | exact h | exact h.st hS
set_option maxRecDepth 100000 in
set_option maxHeartbeats 8000000 in
theorem rahead_any (k : Cm) (i j : Nat) (a b : Sm) (w : World) {Q : Nat → Prop} (h : CmAt w Q k) (hj : j < i) (hn : k.n ≤ 1000) (ha : k.servers[i]? = some a) (hb : k.servers[j]? = some b) :
    Calls Try.prog 55 #[clV k, .int .i64 i, .int .i64 j] w fun e w' => e = .returned (.bool (!(aheadM b a))) ∧ Below w.heap.size w w' := by
  have hl := h.len
  have hat := h.at_
  clear h
  obtain ⟨primary, view, commit, A, n, c, sl⟩ := k
  simp only [clV] at *
  obtain ⟨hil, ha⟩ := List.getElem?_eq_some_iff.1 ha
  obtain ⟨hjl, hb⟩ := List.getElem?_eq_some_iff.1 hb
  have hi : i < n := by omega
  obtain ⟨ad, rfl, -⟩ := hat.at_ hi
  replace hat := Lib.hid hat
  have hx0 := Lib.hid (Blk.new w 24 #[Value.int .i64 primary, Value.int .i64 view, Value.int .i64 commit, Value.slice (some ad) n c])
  have hb0 : Hid (Below w.heap.size w (w.alloc (.cells #[Value.int .i64 primary, Value.int .i64 view, Value.int .i64 commit, Value.slice (some ad) n c] 24))) := a1 w _
  obtain ⟨wb, hwb⟩ : ∃ wb, wb = (w.alloc (.cells #[Value.int .i64 primary, Value.int .i64 view, Value.int .i64 commit, Value.slice (some ad) n c] 24)) := ⟨_, rfl⟩
  rw [← hwb] at hx0 hb0
  have hac : Hid (∀ wz, Below wb.heap.size wb wz → wz.cell? (ad.add (i * 3)) = some (Value.bool a.up) ∧ wz.cell? ⟨(ad.add (i * 3)).block, (ad.add (i * 3)).off + 1, none⟩ = some (Value.int .i64 a.view) ∧ wz.cell? ⟨(ad.add (i * 3)).block, (ad.add (i * 3)).off + 2, none⟩ = some (Value.slice a.A a.n a.c)) := fun wz hz => by
    obtain ⟨ad', hA', -, q⟩ := sv_cells (hat.out.below (hb0.out.trans (hz.mono hb0.out.size)) (Nat.le_refl _)) (show i < n by omega)
    injection hA' with hA'
    subst hA'
    rw [← ha]; exact q
  have hbc : Hid (∀ wz, Below wb.heap.size wb wz → wz.cell? (ad.add (j * 3)) = some (Value.bool b.up) ∧ wz.cell? ⟨(ad.add (j * 3)).block, (ad.add (j * 3)).off + 1, none⟩ = some (Value.int .i64 b.view) ∧ wz.cell? ⟨(ad.add (j * 3)).block, (ad.add (j * 3)).off + 2, none⟩ = some (Value.slice b.A b.n b.c)) := fun wz hz => by
    obtain ⟨ad', hA', -, q⟩ := sv_cells (hat.out.below (hb0.out.trans (hz.mono hb0.out.size)) (Nat.le_refl _)) (show j < n by omega)
    injection hA' with hA'
    subst hA'
    rw [← hb]; exact q
  have hcc : Hid (∀ wz, Below wb.heap.size wb wz → wz.cell? ⟨w.heap.size, 0, none⟩ = some (Value.int .i64 primary) ∧ wz.cell? ⟨w.heap.size, 1, none⟩ = some (Value.int .i64 view) ∧ wz.cell? ⟨w.heap.size, 2, none⟩ = some (Value.int .i64 commit) ∧ wz.cell? ⟨w.heap.size, 3, none⟩ = some (Value.slice (some ad) n c)) := fun wz hz => by
    have q := hx0.out.below hz hx0.out.lt
    exact ⟨q.cell 0, q.cell 1, q.cell 2, q.cell 3⟩
  clear ha hb hat hl hil hjl
  have hi0 : (0 : Int) ≤ i := by omega
  have hj0 : (0 : Int) ≤ j := by omega
  have hi1 : (i : Int) < n := by omega
  have hj1 : (j : Int) < n := by omega
  go_enter Try.func55, Try.ntmps55
  go_wp2_with fail
  rw [← hwb]
  replace hwb := Lib.hid hwb
  refine RM.region [] [7, 8] (F := F55 n c w.heap.size i j wb.heap.size ad a b) (W := fun wz => Below wb.heap.size wb wz) (R := fun _ => Rb) (S := St 47 wb.heap.size) (G := G55 a b wb.heap.size) rfl F55_more G55_more F55_st G55_st (by kernel_rfl) (by kernel_rfl) (by kernel_rfl) (by kernel_rfl) (by kernel_rfl) ?_ ?_ ?_ (by kernel_rfl) ?_
  · exact (Below.refl _ _).drew
  · intro t ht
    unfold F55
    split <;> first | trivial | exact rfl | (exact absurd ht (by decide))
  · simp only [List.forall_mem_cons, List.not_mem_nil, false_implies, implies_true, and_true]
    refine ⟨?_, ?_, ?_, ?_, ?_, ?_, ?_, ?_, ?_, ?_, ?_, ?_, ?_, ?_⟩
    · intro a2 w2 hw _ hf K hK
      have f0 := hf 3 rfl
      simp only [F55] at f0
      clear hf
      go_simp
      exact hK _ _ _ rfl rfl hw (Below.refl _ _) (fun h => absurd h (by decide))
    · intro a2 w2 hw _ hf K hK
      have f0 := hf 9 rfl
      simp only [F55] at f0
      clear hf
      have e := (hcc.out w2 hw).2.2.2
      go_simp
      exact hK _ _ _ rfl rfl hw (Below.refl _ _) (fun h => absurd h (by decide))
    · intro a2 w2 hw _ hf K hK
      have f0 := hf 1 rfl
      simp only [F55] at f0
      clear hf
      go_simp
      exact hK _ _ _ rfl rfl hw (Below.refl _ _) (fun h => absurd h (by decide))
    · intro a2 w2 hw _ hf K hK
      have f0 := hf 10 rfl
      have f1 := hf 11 rfl
      simp only [F55] at f0 f1
      clear hf
      go_simp
      exact hK _ _ _ rfl rfl hw (Below.refl _ _) (fun h => absurd h (by decide))
    · intro a2 w2 hw _ hf K hK
      have f0 := hf 12 rfl
      simp only [F55] at f0
      clear hf
      obtain ⟨e0, e1, e2⟩ := hac.out w2 hw
      go_simp
      exact hK _ _ _ rfl rfl hw (Below.refl _ _) (fun h => absurd h (by decide))
    · intro a2 w2 hw _ hf K hK
      have f0 := hf 3 rfl
      simp only [F55] at f0
      clear hf
      go_simp
      exact hK _ _ _ rfl rfl hw (Below.refl _ _) (fun h => absurd h (by decide))
    · intro a2 w2 hw _ hf K hK
      have f0 := hf 14 rfl
      simp only [F55] at f0
      clear hf
      have e := (hcc.out w2 hw).2.2.2
      go_simp
      exact hK _ _ _ rfl rfl hw (Below.refl _ _) (fun h => absurd h (by decide))
    · intro a2 w2 hw _ hf K hK
      have f0 := hf 2 rfl
      simp only [F55] at f0
      clear hf
      go_simp
      exact hK _ _ _ rfl rfl hw (Below.refl _ _) (fun h => absurd h (by decide))
    · intro a2 w2 hw _ hf K hK
      have f0 := hf 15 rfl
      have f1 := hf 16 rfl
      simp only [F55] at f0 f1
      clear hf
      go_simp
      exact hK _ _ _ rfl rfl hw (Below.refl _ _) (fun h => absurd h (by decide))
    · intro a2 w2 hw _ hf K hK
      have f0 := hf 17 rfl
      simp only [F55] at f0
      clear hf
      obtain ⟨e0, e1, e2⟩ := hbc.out w2 hw
      go_simp
      exact hK _ _ _ rfl rfl hw (Below.refl _ _) (fun h => absurd h (by decide))
    · intro a2 w2 hw _ hf K hK
      clear hf
      go_simp
      refine hK _ _ _ rfl (Var.made w2 _ hw.size rfl) (below_new hw _) (a1 _ _) (fun _ t u ht hu hF => ?_)
      have ht : t = 7 ∨ t = 8 := by simpa using hu
      rcases ht with rfl | rfl
      · exact Var.fresh hF (Nat.le_refl _)
      · exact Var.fresh hF (Nat.le_refl _)
    · intro a2 w2 hw _ hf K hK
      clear hf
      go_simp
      refine hK _ _ _ rfl (Var.made w2 _ hw.size rfl) (below_new hw _) (a1 _ _) (fun _ t u ht hu hF => ?_)
      have ht : t = 7 ∨ t = 8 := by simpa using hu
      rcases ht with rfl | rfl
      · exact Var.fresh hF (Nat.le_refl _)
      · exact Var.fresh hF (Nat.le_refl _)
    · intro a2 w2 hw hf K hK
      have f0 := hf 7 rfl
      have f1 := hf 13 rfl
      simp only [F55] at f0 f1
      clear hf
      obtain ⟨g, e0, hg, cs, hbk, hn⟩ := f0
      obtain ⟨b0, b1, b2, rfl⟩ := arr3 hn
      obtain ⟨k0, k1, k2, z0, z1, z2⟩ := (show w2.cell? ⟨g, 0, none⟩ = some b0 ∧ w2.cell? ⟨g, 1, none⟩ = some b1 ∧ w2.cell? ⟨g, 2, none⟩ = some b2 ∧ w2.frozen? ⟨g, 0, none⟩ = false ∧ w2.frozen? ⟨g, 1, none⟩ = false ∧ w2.frozen? ⟨g, 2, none⟩ = false from ⟨hbk.cell 0, hbk.cell 1, hbk.cell 2, hbk.frozen 0, hbk.frozen 1, hbk.frozen 2⟩)
      replace hbk := Lib.hid hbk
      simp only [svV] at f1
      go_simp
      have hB := sv_set3 hbk.out (Value.bool a.up) (Value.int .i64 a.view) (Value.slice a.A a.n a.c)
      have hS : St 47 wb.heap.size (.pointer (some ⟨g, 0, none⟩)) w2 _ := ⟨g, _, _, rfl, hg, grown_set3 w2 g (Value.bool a.up) (Value.int .i64 a.view) (Value.slice a.A a.n a.c), hbk.out, hB, rfl⟩
      refine hK undef _ (hS.below hw (Nat.le_refl _)) ?_ ?_
      · show St _ _ (a2.tmps[7]?.getD undef) _ _; rw [e0]; exact hS
      · show G55 _ _ _ 7 (a2.tmps[7]?.getD undef) _; rw [e0]; exact ⟨g, rfl, hg, hB⟩
    · intro a2 w2 hw hf K hK
      have f0 := hf 8 rfl
      have f1 := hf 18 rfl
      simp only [F55] at f0 f1
      clear hf
      obtain ⟨g, e0, hg, cs, hbk, hn⟩ := f0
      obtain ⟨b0, b1, b2, rfl⟩ := arr3 hn
      obtain ⟨k0, k1, k2, z0, z1, z2⟩ := (show w2.cell? ⟨g, 0, none⟩ = some b0 ∧ w2.cell? ⟨g, 1, none⟩ = some b1 ∧ w2.cell? ⟨g, 2, none⟩ = some b2 ∧ w2.frozen? ⟨g, 0, none⟩ = false ∧ w2.frozen? ⟨g, 1, none⟩ = false ∧ w2.frozen? ⟨g, 2, none⟩ = false from ⟨hbk.cell 0, hbk.cell 1, hbk.cell 2, hbk.frozen 0, hbk.frozen 1, hbk.frozen 2⟩)
      replace hbk := Lib.hid hbk
      simp only [svV] at f1
      go_simp
      have hB := sv_set3 hbk.out (Value.bool b.up) (Value.int .i64 b.view) (Value.slice b.A b.n b.c)
      have hS : St 47 wb.heap.size (.pointer (some ⟨g, 0, none⟩)) w2 _ := ⟨g, _, _, rfl, hg, grown_set3 w2 g (Value.bool b.up) (Value.int .i64 b.view) (Value.slice b.A b.n b.c), hbk.out, hB, rfl⟩
      refine hK undef _ (hS.below hw (Nat.le_refl _)) ?_ ?_
      · show St _ _ (a2.tmps[8]?.getD undef) _ _; rw [e0]; exact hS
      · show G55 _ _ _ 8 (a2.tmps[8]?.getD undef) _; rw [e0]; exact ⟨g, rfl, hg, hB⟩
  · intro a' w9 hd hs hw hout hf hg
    simp only [List.forall_mem_cons] at hg
    have hG7 : G55 a b wb.heap.size 7 (a'.tmps[7]?.getD undef) w9 := hg.2.2.2.2.2.2.2.2.2.2.2.2.1 trivial
    have hG8 : G55 a b wb.heap.size 8 (a'.tmps[8]?.getD undef) w9 := hg.2.2.2.2.2.2.2.2.2.2.2.2.2.1 trivial
    clear hg
    have h7 := hf 7 rfl
    simp only [F55] at h7
    have h8 := hf 8 rfl
    simp only [F55] at h8
    have e0 : _ = some (Value.agg #[Value.int .i64 primary, Value.int .i64 view, Value.int .i64 commit, Value.slice (some ad) n c]) := hout 0 rfl
    have e1 : _ = some (Value.int .i64 (i : Int)) := hout 1 rfl
    have e2 : _ = some (Value.int .i64 (j : Int)) := hout 2 rfl
    have e3 : _ = some (Value.pointer (some ⟨w.heap.size, 0, none⟩)) := hout 3 rfl
    have e6 : _ = some (Value.bool false) := hout 6 rfl
    obtain ⟨tm, df⟩ := a'
    simp only at hd hs hG7 hG8 h7 h8 e0 e1 e2 e3 e6
    have e := F55_lit tm hs
    simp only [e0, e1, e2, e3, e6, Option.getD_some] at e
    clear hf hout hs
    rw [e, hd]
    clear e hd e0 e1 e2 e3 e6
    generalize tm[7]?.getD undef = u7x at h7 hG7 ⊢
    generalize tm[8]?.getD undef = u8x at h8 hG8 ⊢
    generalize tm[4]?.getD undef = u4x, tm[5]?.getD undef = u5x, tm[9]?.getD undef = u9x, tm[10]?.getD undef = u10x, tm[11]?.getD undef = u11x, tm[12]?.getD undef = u12x, tm[13]?.getD undef = u13x, tm[14]?.getD undef = u14x, tm[15]?.getD undef = u15x, tm[16]?.getD undef = u16x, tm[17]?.getD undef = u17x, tm[18]?.getD undef = u18x, tm[19]?.getD undef = u19x, tm[20]?.getD undef = u20x, tm[21]?.getD undef = u21x, tm[22]?.getD undef = u22x, tm[23]?.getD undef = u23x, tm[24]?.getD undef = u24x, tm[25]?.getD undef = u25x, tm[26]?.getD undef = u26x, tm[27]?.getD undef = u27x, tm[28]?.getD undef = u28x, tm[29]?.getD undef = u29x, tm[30]?.getD undef = u30x, tm[31]?.getD undef = u31x, tm[32]?.getD undef = u32x, tm[33]?.getD undef = u33x, tm[34]?.getD undef = u34x, tm[35]?.getD undef = u35x, tm[36]?.getD undef = u36x, tm[37]?.getD undef = u37x, tm[38]?.getD undef = u38x, tm[39]?.getD undef = u39x, tm[40]?.getD undef = u40x, tm[41]?.getD undef = u41x, tm[42]?.getD undef = u42x, tm[43]?.getD undef = u43x, tm[44]?.getD undef = u44x, tm[45]?.getD undef = u45x
    have hw9 : Hid (Below w.heap.size w w9) := hb0.out.trans (hw.mono hb0.out.size)
    clear hcc hac hbc hw
    obtain ⟨g7, h7, hg7, hb7⟩ := hG7
    obtain ⟨g8, h8, hg8, hb8⟩ := hG8
    subst h7
    subst h8
    obtain ⟨k0, k1, k2⟩ := cells3 (w9) (g7) (Value.bool a.up) (Value.int .i64 a.view) (Value.slice a.A a.n a.c) (hb7)
    obtain ⟨m0, m1, m2⟩ := cells3 (w9) (g8) (Value.bool b.up) (Value.int .i64 b.view) (Value.slice b.A b.n b.c) (hb8)
    clear hg7 hg8 hb7 hb8
    by_cases q : a.view = b.view
    · have qd : (a.view != b.view) = false := by simpa using q
      by_cases q2 : a.n = b.n
      · have q2d : ((a.n : Int) != (b.n : Int)) = false := by simp; omega
        have hF : Hid ((!(aheadM b a)) = decide (i < j)) := by
          show _ = _
          unfold aheadM
          rw [if_neg (by simp [q]), show decide (a.n ≤ b.n) = true by simp; omega, show decide (i < j) = false by simp; omega]
          rfl
        replace q := Lib.hid q
        replace q2 := Lib.hid q2
        go_wp2_with fail
        go_ret
        exact ⟨congrArg (fun e : Bool => Ending.returned (Value.bool e)) hF.out.symm, hw9.out⟩
      · have q2d : ((a.n : Int) != (b.n : Int)) = true := by simp; omega
        have hF : Hid ((!(aheadM b a)) = decide (b.n < a.n)) := by
          show _ = _
          unfold aheadM
          rw [if_neg (by simp [q]), ← decide_not, decide_eq_decide]
          omega
        replace q := Lib.hid q
        go_wp2_with fail
        go_ret
        exact ⟨congrArg (fun e : Bool => Ending.returned (Value.bool e)) hF.out.symm, hw9.out⟩
    · have qd : (a.view != b.view) = true := by simpa using q
      have hF : Hid ((!(aheadM b a)) = decide (b.view < a.view)) := by
        show _ = _
        unfold aheadM
        rw [if_pos (fun e => q e.symm), ← decide_not, decide_eq_decide]
        omega
      go_wp2_with fail
      go_ret
      exact ⟨congrArg (fun e : Bool => Ending.returned (Value.bool e)) hF.out.symm, hw9.out⟩
set_option maxRecDepth 100000 in
set_option maxHeartbeats 8000000 in
theorem rmajority_any (k : Cm) (w : World) {Q : Nat → Prop} (h : CmAt w Q k) (hn : k.n ≤ 7) :
    Calls Try.prog 56 #[clV k] w fun e w' => e = .returned (.bool (majN k.n (countUp (k.servers.map Sm.val)))) ∧ Below w.heap.size w w' := by
  have hl := Lib.hid h.len
  have hat := Lib.hid h.at_
  clear h
  obtain ⟨primary, view, commit, A, n, c, sl⟩ := k
  simp only [clV] at *
  have hx0 := Lib.hid (Blk.new w 24 #[Value.int .i64 primary, Value.int .i64 view, Value.int .i64 commit, Value.slice A n c])
  have hb0 : Hid (Below w.heap.size w (w.alloc (.cells #[Value.int .i64 primary, Value.int .i64 view, Value.int .i64 commit, Value.slice A n c] 24))) := a1 w _
  go_enter Try.func56, Try.ntmps56
  go_wp2_with fail
  generalize (w.alloc (.cells #[Value.int .i64 primary, Value.int .i64 view, Value.int .i64 commit, Value.slice A n c] 24)) = w0 at *
  go_loopw [4, 3] (fun i v wr => ∃ (k m : Nat), k ≤ n ∧ m ≤ k ∧ i = .int .i64 k ∧ v = .int .i64 m ∧ Hid (m = countUp ((sl.take k).map Sm.val)) ∧ Hid (Blk wr w.heap.size 24 #[Value.int .i64 primary, Value.int .i64 view, Value.int .i64 commit, Value.slice A n c]) ∧ Hid (Below w.heap.size w wr)) (fun i _ _ => n - (intOf i).toNat)
  case atStart => exact ⟨0, 0, Nat.zero_le _, Nat.le_refl _, rfl, rfl, rfl, hx0.out, hb0.out⟩
  case round =>
    obtain ⟨k, m, hkn, hmk, rfl, rfl, hm, hB, hb⟩ := hrel
    obtain ⟨k0, k1, k2, k3⟩ := cells4 (wr) (w.heap.size) (Value.int .i64 primary) (Value.int .i64 view) (Value.int .i64 commit) (Value.slice A n c) (hB.out)
    by_cases hlt : k < n
    · have hkl : k < sl.length := by have := hl.out; omega
      have hk0 : (0 : Int) ≤ k := by omega
      have hk1 : (k : Int) < n := by omega
      obtain ⟨ad, hA, -, e0, e1, e2⟩ := sv_cells (hat.out.below hb.out (Nat.le_refl _)) hlt
      have hst : Hid (countUp ((sl.take (k + 1)).map Sm.val) = m + if (sl[k]).up then 1 else 0) := by
        show _ = _
        rw [hm.out, List.take_succ_eq_append_getElem hkl]
        unfold countUp
        rw [List.map_append, List.countP_append, List.map_cons, List.map_nil, List.countP_cons, List.countP_nil]
        cases hu : sl[k].up <;> simp [Sm.val, hu]
      generalize sl[k] = s at *
      obtain ⟨up, sview, sA, sn, sc, slog⟩ := s
      simp only at e0 e1 e2 hst
      subst hA
      cases up with
      | true =>
        go_wp2_with fail
        go_roundw
        case rel => exact ⟨k + 1, m + 1, by omega, by omega, by go_num, by go_num, hst.out.symm, hB.out, hb.out⟩
        case measure => simp [intOf]; omega
      | false =>
        go_wp2_with fail
        go_roundw
        case rel => exact ⟨k + 1, m, by omega, by omega, by go_num, by go_num, hst.out.symm, hB.out, hb.out⟩
        case measure => simp [intOf]; omega
    · have hF : Hid (majN n (countUp (sl.map Sm.val)) = decide ((n : Int) < 2 * (m : Int))) := by
        show _ = _
        have e : countUp (sl.map Sm.val) = m := by rw [hm.out, List.take_of_length_le (by have := hl.out; omega)]
        rw [e, Bool.eq_iff_iff, majN_iff]
        simp
        omega
      have hm2 : (m : Int) ≤ 7 := by omega
      go_wp2_with fail
      go_ret
      exact ⟨congrArg (fun e : Bool => Ending.returned (Value.bool e)) hF.out.symm, hb.out⟩
theorem great_step (P : Sv → Bool) (L : List Sv) (k : Nat) (bo : Option (Nat × Sv)) (x : Sv) (h : L[k]? = some x) (r : Bool) (hr : better P bo x = r) (h0 : greatS P L = grF P (L.drop k) k bo) : greatS P L = grF P (L.drop (k + 1)) (k + 1) (if r then some (k, x) else bo) := by
  rw [h0, grF_cons P L k bo x h, hr]
set_option maxRecDepth 100000 in
set_option maxHeartbeats 8000000 in
theorem firstA_any (k : Cm) (w : World) {Q : Nat → Prop} (h : CmAt w Q k) (hn : k.n ≤ 1000) :
    Calls Try.prog 30 #[clV k, .bool false] w fun e w' => e = .returned (.int .i64 (idxO (greatS (fun _ : Sv => true) (k.servers.map Sm.val)))) ∧ Below w.heap.size w w' := by
  have hl := Lib.hid h.len
  have hat := Lib.hid h.at_
  have hs : Hid (∀ s ∈ k.servers, s.log.length = s.n) := fun s hs => (h.els s hs).len
  have hcm := Lib.hid h
  clear h
  obtain ⟨primary, view, commit, A, n, c, sl⟩ := k
  simp only [clV] at *
  have hx0 := Lib.hid (Blk.new w 24 #[Value.int .i64 primary, Value.int .i64 view, Value.int .i64 commit, Value.slice A n c])
  have hb0 : Hid (Below w.heap.size w (w.alloc (.cells #[Value.int .i64 primary, Value.int .i64 view, Value.int .i64 commit, Value.slice A n c] 24))) := a1 w _
  go_enter Try.func30, Try.ntmps30
  go_wp2_with fail
  generalize (w.alloc (.cells #[Value.int .i64 primary, Value.int .i64 view, Value.int .i64 commit, Value.slice A n c] 24)) = w0 at *
  go_loopw [6, 5] (fun i v wr => ∃ (k : Nat) (bo : Option (Nat × Sv)), k ≤ n ∧ i = .int .i64 k ∧ v = .int .i64 (idxO bo) ∧ Hid (greatS (fun _ : Sv => true) (sl.map Sm.val) = grF (fun _ : Sv => true) ((sl.map Sm.val).drop k) k bo) ∧ Hid (∀ q, bo = some q → q.1 < k ∧ (sl.map Sm.val)[q.1]? = some q.2) ∧ Hid (Blk wr w.heap.size 24 #[Value.int .i64 primary, Value.int .i64 view, Value.int .i64 commit, Value.slice A n c]) ∧ Hid (Below w.heap.size w wr)) (fun i _ _ => n - (intOf i).toNat)
  case atStart => exact ⟨0, none, Nat.zero_le _, rfl, rfl, rfl, fun q e => by simp at e, hx0.out, hb0.out⟩
  case round =>
    obtain ⟨k, bo, hkn, rfl, rfl, hst, hbo, hB, hb⟩ := hrel
    by_cases hlt : k < n
    · have hkl : k < sl.length := by have := hl.out; omega
      have hk0 : (0 : Int) ≤ k := by omega
      have hk1 : (k : Int) < n := by omega
      obtain ⟨ad, hA, -, e0, e1, e2⟩ := sv_cells (hat.out.below hb.out (Nat.le_refl _)) hlt
      obtain ⟨x, hx⟩ : ∃ x, x = sl[k] := ⟨_, rfl⟩
      rw [← hx] at e0 e1 e2
      have hLk : Hid ((sl.map Sm.val)[k]? = some x.val) := by show _ = _; rw [List.getElem?_map, List.getElem?_eq_getElem hkl, hx]; rfl
      have hsn : Hid (x.log.length = x.n) := hs.out x (by rw [hx]; exact List.getElem_mem hkl)
      have hsx : Hid (sl[k] = x) := hx.symm
      clear hx
      obtain ⟨up, sview, sA, sn, sc, slog⟩ := x
      simp only at e0 e1 e2
      obtain ⟨k0, k1, k2, k3⟩ := cells4 (wr) (w.heap.size) (Value.int .i64 primary) (Value.int .i64 view) (Value.int .i64 commit) (Value.slice A n c) (hB.out)
      cases bo with
      | none =>
        have hst2 : Hid (greatS (fun _ : Sv => true) (sl.map Sm.val) = grF (fun _ : Sv => true) ((sl.map Sm.val).drop (k + 1)) (k + 1) (some (k, _))) := great_step (fun _ : Sv => true) _ k _ _ hLk.out true (by unfold better; rfl) hst.out
        simp only [idxO] at *
        go_wp2_with fail
        go_roundw
        case rel => exact ⟨k + 1, some (k, _), by omega, by go_num, by go_num, hst2.out, fun q e => by injection e with e; subst e; exact ⟨Nat.lt_succ_self _, hLk.out⟩, hB.out, hb.out⟩
        case measure => simp [intOf]; omega
      | some q =>
        obtain ⟨j, y⟩ := q
        obtain ⟨hjk, hjy⟩ := hbo.out _ rfl
        simp only at hjk hjy
        have hjl : j < sl.length := by omega
        have hyv : y = (sl[j]).val := by
          rw [List.getElem?_map, List.getElem?_eq_getElem hjl] at hjy
          injection hjy with hjy
          exact hjy.symm
        subst hyv
        have hr0 := Lib.hid (rahead_any ⟨primary, view, commit, A, n, c, sl⟩ k j ⟨up, sview, sA, sn, sc, slog⟩ (sl[j]) wr (hcm.out.more hb.out) hjk (by simp only; omega) (by simp only; rw [List.getElem?_eq_getElem hkl, hsx.out]) (List.getElem?_eq_getElem hjl))
        obtain ⟨bf, hbf⟩ : ∃ bf, bf = aheadM (sl[j]) ⟨up, sview, sA, sn, sc, slog⟩ := ⟨_, rfl⟩
        rw [← hbf] at hr0
        have hbt : Hid (better (fun _ : Sv => true) (some (j, (sl[j]).val)) (Sm.val ⟨up, sview, sA, sn, sc, slog⟩) = !bf) := by
          show _ = _
          unfold better
          rw [hbf, aheadM_val (hs.out _ (List.getElem_mem hjl)) hsn.out]
          rfl
        clear hbf hjy hcm
        simp only [clV] at hr0
        have hj0 : ¬ (j : Int) < 0 := by omega
        have hj1 : decide ((j : Int) < 0) = false := decide_eq_false hj0
        simp only [idxO] at *
        subst hA
        go_wp2_with fail
        refine hr0.out.mono ?_; rintro e w5 ⟨rfl, hq⟩
        have hB := Lib.hid (hB.out.below hq hB.out.lt)
        have hb := Lib.hid (hb.out.trans (hq.mono hb.out.size))
        clear hq hr0 k0 k1 k2 k3
        cases bf with
        | true =>
          have hst2 : Hid (greatS (fun _ : Sv => true) (sl.map Sm.val) = grF (fun _ : Sv => true) ((sl.map Sm.val).drop (k + 1)) (k + 1) (some (j, _))) := great_step (fun _ : Sv => true) _ k _ _ hLk.out false (by exact hbt.out) hst.out
          go_wp2_with fail
          go_roundw
          case rel => exact ⟨k + 1, some (j, _), by omega, by go_num, by go_num, hst2.out, fun q e => ⟨Nat.lt_succ_of_lt (hbo.out q e).1, (hbo.out q e).2⟩, hB.out, hb.out⟩
          case measure => simp [intOf]; omega
        | false =>
          have hst2 : Hid (greatS (fun _ : Sv => true) (sl.map Sm.val) = grF (fun _ : Sv => true) ((sl.map Sm.val).drop (k + 1)) (k + 1) (some (k, _))) := great_step (fun _ : Sv => true) _ k _ _ hLk.out true (by exact hbt.out) hst.out
          go_wp2_with fail
          go_roundw
          case rel => exact ⟨k + 1, some (k, _), by omega, by go_num, by go_num, hst2.out, fun q e => by injection e with e; subst e; exact ⟨Nat.lt_succ_self _, hLk.out⟩, hB.out, hb.out⟩
          case measure => simp [intOf]; omega
    · have hF : Hid (greatS (fun _ : Sv => true) (sl.map Sm.val) = bo) := by show _ = _; rw [hst.out, List.drop_eq_nil_of_le (by have := hl.out; simp; omega)]; rfl
      obtain ⟨k0, k1, k2, k3⟩ := cells4 (wr) (w.heap.size) (Value.int .i64 primary) (Value.int .i64 view) (Value.int .i64 commit) (Value.slice A n c) (hB.out)
      go_wp2_with fail
      go_ret
      exact ⟨congrArg (fun e => Ending.returned (Value.int .i64 (idxO e))) hF.out.symm, hb.out⟩
set_option maxRecDepth 100000 in
set_option maxHeartbeats 8000000 in
theorem firstU_any (k : Cm) (w : World) {Q : Nat → Prop} (h : CmAt w Q k) (hn : k.n ≤ 1000) :
    Calls Try.prog 30 #[clV k, .bool true] w fun e w' => e = .returned (.int .i64 (idxO (greatS (fun s : Sv => s.up) (k.servers.map Sm.val)))) ∧ Below w.heap.size w w' := by
  have hl := Lib.hid h.len
  have hat := Lib.hid h.at_
  have hs : Hid (∀ s ∈ k.servers, s.log.length = s.n) := fun s hs => (h.els s hs).len
  have hcm := Lib.hid h
  clear h
  obtain ⟨primary, view, commit, A, n, c, sl⟩ := k
  simp only [clV] at *
  have hx0 := Lib.hid (Blk.new w 24 #[Value.int .i64 primary, Value.int .i64 view, Value.int .i64 commit, Value.slice A n c])
  have hb0 : Hid (Below w.heap.size w (w.alloc (.cells #[Value.int .i64 primary, Value.int .i64 view, Value.int .i64 commit, Value.slice A n c] 24))) := a1 w _
  go_enter Try.func30, Try.ntmps30
  go_wp2_with fail
  generalize (w.alloc (.cells #[Value.int .i64 primary, Value.int .i64 view, Value.int .i64 commit, Value.slice A n c] 24)) = w0 at *
  go_loopw [6, 5] (fun i v wr => ∃ (k : Nat) (bo : Option (Nat × Sv)), k ≤ n ∧ i = .int .i64 k ∧ v = .int .i64 (idxO bo) ∧ Hid (greatS (fun s : Sv => s.up) (sl.map Sm.val) = grF (fun s : Sv => s.up) ((sl.map Sm.val).drop k) k bo) ∧ Hid (∀ q, bo = some q → q.1 < k ∧ (sl.map Sm.val)[q.1]? = some q.2) ∧ Hid (Blk wr w.heap.size 24 #[Value.int .i64 primary, Value.int .i64 view, Value.int .i64 commit, Value.slice A n c]) ∧ Hid (Below w.heap.size w wr)) (fun i _ _ => n - (intOf i).toNat)
  case atStart => exact ⟨0, none, Nat.zero_le _, rfl, rfl, rfl, fun q e => by simp at e, hx0.out, hb0.out⟩
  case round =>
    obtain ⟨k, bo, hkn, rfl, rfl, hst, hbo, hB, hb⟩ := hrel
    by_cases hlt : k < n
    · have hkl : k < sl.length := by have := hl.out; omega
      have hk0 : (0 : Int) ≤ k := by omega
      have hk1 : (k : Int) < n := by omega
      obtain ⟨ad, hA, -, e0, e1, e2⟩ := sv_cells (hat.out.below hb.out (Nat.le_refl _)) hlt
      obtain ⟨x, hx⟩ : ∃ x, x = sl[k] := ⟨_, rfl⟩
      rw [← hx] at e0 e1 e2
      have hLk : Hid ((sl.map Sm.val)[k]? = some x.val) := by show _ = _; rw [List.getElem?_map, List.getElem?_eq_getElem hkl, hx]; rfl
      have hsn : Hid (x.log.length = x.n) := hs.out x (by rw [hx]; exact List.getElem_mem hkl)
      have hsx : Hid (sl[k] = x) := hx.symm
      clear hx
      obtain ⟨up, sview, sA, sn, sc, slog⟩ := x
      simp only at e0 e1 e2
      obtain ⟨k0, k1, k2, k3⟩ := cells4 (wr) (w.heap.size) (Value.int .i64 primary) (Value.int .i64 view) (Value.int .i64 commit) (Value.slice A n c) (hB.out)
      cases up with
      | false =>
        have hst2 : Hid (greatS (fun s : Sv => s.up) (sl.map Sm.val) = grF (fun s : Sv => s.up) ((sl.map Sm.val).drop (k + 1)) (k + 1) (bo)) := great_step (fun s : Sv => s.up) _ k _ _ hLk.out false (by unfold better Sm.val; rfl) hst.out
        subst hA
        go_wp2_with fail
        go_roundw
        case rel => exact ⟨k + 1, bo, by omega, by go_num, by go_num, hst2.out, fun q e => ⟨Nat.lt_succ_of_lt (hbo.out q e).1, (hbo.out q e).2⟩, hB.out, hb.out⟩
        case measure => simp [intOf]; omega
      | true =>
        have hup : Hid (true = true) := rfl
        cases bo with
        | none =>
          have hst2 : Hid (greatS (fun s : Sv => s.up) (sl.map Sm.val) = grF (fun s : Sv => s.up) ((sl.map Sm.val).drop (k + 1)) (k + 1) (some (k, _))) := great_step (fun s : Sv => s.up) _ k _ _ hLk.out true (by unfold better Sm.val; rfl) hst.out
          simp only [idxO] at *
          go_wp2_with fail
          go_roundw
          case rel => exact ⟨k + 1, some (k, _), by omega, by go_num, by go_num, hst2.out, fun q e => by injection e with e; subst e; exact ⟨Nat.lt_succ_self _, hLk.out⟩, hB.out, hb.out⟩
          case measure => simp [intOf]; omega
        | some q =>
          obtain ⟨j, y⟩ := q
          obtain ⟨hjk, hjy⟩ := hbo.out _ rfl
          simp only at hjk hjy
          have hjl : j < sl.length := by omega
          have hyv : y = (sl[j]).val := by
            rw [List.getElem?_map, List.getElem?_eq_getElem hjl] at hjy
            injection hjy with hjy
            exact hjy.symm
          subst hyv
          have hr0 := Lib.hid (rahead_any ⟨primary, view, commit, A, n, c, sl⟩ k j ⟨true, sview, sA, sn, sc, slog⟩ (sl[j]) wr (hcm.out.more hb.out) hjk (by simp only; omega) (by simp only; rw [List.getElem?_eq_getElem hkl, hsx.out]) (List.getElem?_eq_getElem hjl))
          obtain ⟨bf, hbf⟩ : ∃ bf, bf = aheadM (sl[j]) ⟨true, sview, sA, sn, sc, slog⟩ := ⟨_, rfl⟩
          rw [← hbf] at hr0
          have hbt : Hid (better (fun s : Sv => s.up) (some (j, (sl[j]).val)) (Sm.val ⟨true, sview, sA, sn, sc, slog⟩) = !bf) := by
            show _ = _
            unfold better
            rw [hbf, aheadM_val (hs.out _ (List.getElem_mem hjl)) hsn.out]
            show (true && _) = _; rfl
          clear hbf hjy hcm
          simp only [clV] at hr0
          have hj0 : ¬ (j : Int) < 0 := by omega
          have hj1 : decide ((j : Int) < 0) = false := decide_eq_false hj0
          simp only [idxO] at *
          subst hA
          go_wp2_with fail
          refine hr0.out.mono ?_; rintro e w5 ⟨rfl, hq⟩
          have hB := Lib.hid (hB.out.below hq hB.out.lt)
          have hb := Lib.hid (hb.out.trans (hq.mono hb.out.size))
          clear hq hr0 k0 k1 k2 k3
          cases bf with
          | true =>
            have hst2 : Hid (greatS (fun s : Sv => s.up) (sl.map Sm.val) = grF (fun s : Sv => s.up) ((sl.map Sm.val).drop (k + 1)) (k + 1) (some (j, _))) := great_step (fun s : Sv => s.up) _ k _ _ hLk.out false (by exact hbt.out) hst.out
            go_wp2_with fail
            go_roundw
            case rel => exact ⟨k + 1, some (j, _), by omega, by go_num, by go_num, hst2.out, fun q e => ⟨Nat.lt_succ_of_lt (hbo.out q e).1, (hbo.out q e).2⟩, hB.out, hb.out⟩
            case measure => simp [intOf]; omega
          | false =>
            have hst2 : Hid (greatS (fun s : Sv => s.up) (sl.map Sm.val) = grF (fun s : Sv => s.up) ((sl.map Sm.val).drop (k + 1)) (k + 1) (some (k, _))) := great_step (fun s : Sv => s.up) _ k _ _ hLk.out true (by exact hbt.out) hst.out
            go_wp2_with fail
            go_roundw
            case rel => exact ⟨k + 1, some (k, _), by omega, by go_num, by go_num, hst2.out, fun q e => by injection e with e; subst e; exact ⟨Nat.lt_succ_self _, hLk.out⟩, hB.out, hb.out⟩
            case measure => simp [intOf]; omega
    · have hF : Hid (greatS (fun s : Sv => s.up) (sl.map Sm.val) = bo) := by show _ = _; rw [hst.out, List.drop_eq_nil_of_le (by have := hl.out; simp; omega)]; rfl
      obtain ⟨k0, k1, k2, k3⟩ := cells4 (wr) (w.heap.size) (Value.int .i64 primary) (Value.int .i64 view) (Value.int .i64 commit) (Value.slice A n c) (hB.out)
      go_wp2_with fail
      go_ret
      exact ⟨congrArg (fun e => Ending.returned (Value.int .i64 (idxO e))) hF.out.symm, hb.out⟩
end Go.Proofs.Ytiapeenfggjpnaa
