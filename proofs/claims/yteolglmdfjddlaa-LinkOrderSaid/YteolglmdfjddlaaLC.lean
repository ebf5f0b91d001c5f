/- Links: copied, walked. -/
import Derived.Test.YteolglmdfjddlaaLA
set_option linter.unusedVariables false
set_option linter.unusedSimpArgs false
namespace Go.Proofs.Yteolglmdfjddlaa
open Go.RowKit
theorem lk_set6 {w : World} {g : Nat} {a0 a1 a2 a3 a4 a5 : Value} (h : Blk w g 25 #[a0, a1, a2, a3, a4, a5]) (v0 v1 v2 v3 v4 v5 : Value) : Blk ((((((w.setCell ⟨g, 0, none⟩ v0).setCell ⟨g, 1, none⟩ v1).setCell ⟨g, 2, none⟩ v2).setCell ⟨g, 3, none⟩ v3).setCell ⟨g, 4, none⟩ v4).setCell ⟨g, 5, none⟩ v5) g 25 #[v0, v1, v2, v3, v4, v5] :=
  (((((h.set_ 0 v0).set_ 1 v1).set_ 2 v2).set_ 3 v3).set_ 4 v4).set_ 5 v5
theorem below_set6 {B g : Nat} {a w : World} (h : Below B a w) (hg : B ≤ g) (v0 v1 v2 v3 v4 v5 : Value) : Below B a ((((((w.setCell ⟨g, 0, none⟩ v0).setCell ⟨g, 1, none⟩ v1).setCell ⟨g, 2, none⟩ v2).setCell ⟨g, 3, none⟩ v3).setCell ⟨g, 4, none⟩ v4).setCell ⟨g, 5, none⟩ v5) :=
  below_set (below_set (below_set (below_set (below_set (below_set h hg 0 _) hg 1 _) hg 2 _) hg 3 _) hg 4 _) hg 5 _
theorem grown_set6 (w : World) (g : Nat) (v0 v1 v2 v3 v4 v5 : Value) : w.grownBy ((((((w.setCell ⟨g, 0, none⟩ v0).setCell ⟨g, 1, none⟩ v1).setCell ⟨g, 2, none⟩ v2).setCell ⟨g, 3, none⟩ v3).setCell ⟨g, 4, none⟩ v4).setCell ⟨g, 5, none⟩ v5) (some g) :=
  only_set (only_set (only_set (only_set (only_set (only_set (World.grownBy.refl _ _) 0 _) 1 _) 2 _) 3 _) 4 _) 5 _
theorem lit_arr (tm : Array Value) (n : Nat) (h : tm.size = n) : tm = ((List.range n).map fun i => tm[i]?.getD undef).toArray := by
  subst h
  apply Array.ext'
  apply List.ext_getElem?
  intro i
  simp only [Array.getElem?_toList, List.getElem?_map]
  by_cases hi : i < tm.size
  · rw [List.getElem?_eq_getElem (by simpa using hi)]
    simp [hi]
  · rw [List.getElem?_eq_none (by simpa using hi)]
    simp [hi]
theorem map_set_val (L : List Pk) (k : Nat) (hk : k < L.length) (x : Pk) (hx : x.val = L[k].val) : (L.set k x).map Pk.val = L.map Pk.val := by
  rw [List.map_set]
  apply List.ext_getElem?
  intro i
  rw [List.getElem?_set]
  split
  · rename_i h; subst h; simp [hk, hx]
  · rfl
theorem take_set_succ (L : List Pk) (k : Nat) (x : Pk) (hk : k < L.length) : (L.set k x).take (k + 1) = L.take k ++ [x] := by
  rw [List.take_succ_eq_append_getElem (by simpa using hk)]
  simp [List.take_set_of_le]
theorem LAt_grown {α : Type} {f : α → List Value} {s n : Nat} {w w' : World} {A : Option Addr} {l : List α} {g : Nat} (h : LAt f s w w.heap.size A n l) (hne : 0 < n → ∀ ad, A = some ad → ad.block ≠ g) (hg : w.grownBy w' (some g)) : LAt f s w' w'.heap.size A n l := by
  refine ⟨h.1, h.2.1, fun hn => ?_⟩
  obtain ⟨ad, rfl, hb, hc⟩ := h.2.2 hn
  refine ⟨ad, rfl, Nat.lt_of_lt_of_le hb hg.size, fun j u hu => ?_⟩
  have hbl : (ad.add j).block = ad.block := add_block ad j
  have e := hc j u hu
  unfold World.cell? at e ⊢
  rw [hbl] at e ⊢
  rw [hg.block ad.block hb (by simp; exact hne hn ad rfl)]
  exact e
theorem PkAt_grown {w w' : World} {p : Pk} {g : Nat} (h : PkAt w p) (hne : 0 < p.n → ∀ ad, p.A = some ad → ad.block ≠ g) (hg : w.grownBy w' (some g)) : PkAt w' p := ⟨⟨LAt_grown h.1.1 hne hg, h.1.2⟩, h.2⟩
/-- the row of packets lies apart from what the link leads to besides -/
def LkSep (l : Lk) : Prop := (∀ ad a2, l.lA = some ad → l.bA = some a2 → ad.block ≠ a2.block) ∧ ∀ p ∈ l.box, 0 < p.n → ∀ ad, p.A = some ad → ∀ a2, l.bA = some a2 → ad.block ≠ a2.block
def F27 (g0 gp gB n c2 k base pc : Nat) (pA : Option Addr) (pd : List UInt8) : Tmp → Value → World → Prop
  | 1, v, _ => v = .pointer (some ⟨g0, 0, none⟩)
  | 3, v, _ => v = .int .i64 k
  | 4, v, _ => v = .pointer (some ⟨gp, 0, none⟩)
  | 16, v, _ => v = .int .i64 k
  | 21, v, _ => v = .pointer (some ⟨g0, 5, none⟩)
  | 22, v, _ => v = .slice (some ⟨gB, 0, none⟩) n c2
  | 23, v, _ => v = .int .i64 k
  | 24, v, _ => v = .pointer (some ⟨gp, 1, none⟩)
  | 25, v, _ => v = .slice pA pd.length pc
  | 26, v, w => BOwn w base v pd
  | 27, v, _ => v = .pointer (some ⟨gB, k * 2, none⟩)
  | 28, v, _ => v = .pointer (some ⟨gB, k * 2 + 1, none⟩)
  | _, _, _ => True
theorem F27_more {g0 gp gB n c2 k base pc : Nat} {pA : Option Addr} {pd : List UInt8} (d t : Tmp) (v : Value) (w w' : World) (hR : Rb w w') (hne : t ≠ d) (hc : ([] : List (Tmp × Tmp)).contains (d, t) = false) (h : F27 g0 gp gB n c2 k base pc pA pd t v w) : F27 g0 gp gB n c2 k base pc pA pd t v w' := by
  unfold F27 at *
  split at h <;> first | exact h | exact LOwn.kept h hR | exact fun hg => LOwn.kept (h hg) hR
def SF27 (gB k : Nat) (u : Value) (w w' : World) : Prop := u = .pointer (some ⟨gB, k * 2 + 1, none⟩) ∧ w.grownBy w' (some gB)
def GF27 (gB n c2 k base pb : Nat) (due : Int) (pd : List UInt8) (L : List Pk) : Tmp → Value → World → Prop
  | 28, v, w => v = .pointer (some ⟨gB, k * 2 + 1, none⟩) ∧ ∃ A' c', LOwn pkC 2 29 w pb (.slice (some ⟨gB, 0, none⟩) n c2) (L.set k ⟨due, A', pd.length, c', pd⟩) ∧ BOwn w base (.slice A' pd.length c') pd ∧ pd.length ≤ c' ∧ c' ≤ maxLen ∧ ∀ ad, A' = some ad → base ≤ ad.block
  | _, _, _ => True
theorem GF27_more {gB n c2 k base pb : Nat} {due : Int} {pd : List UInt8} {L : List Pk} (d t : Tmp) (v : Value) (w w' : World) (hR : Rb w w') (h : GF27 gB n c2 k base pb due pd L t v w) : GF27 gB n c2 k base pb due pd L t v w' := by
  unfold GF27 at *
  split at h
  · obtain ⟨h1, A', c', h2, h3, h4⟩ := h; exact ⟨h1, A', c', h2.kept hR, h3.kept hR, h4⟩
  · exact h
theorem GF27_st {gB n c2 k base pb : Nat} {due : Int} {pd : List UInt8} {L : List Pk} (u : Value) (t : Tmp) (v : Value) (w w' : World) (hS : SF27 gB k u w w') (hne : v ≠ u) (h : GF27 gB n c2 k base pb due pd L t v w) : GF27 gB n c2 k base pb due pd L t v w' := by
  unfold GF27 at *
  split at h
  · exact absurd (h.1.trans hS.1.symm) hne
  · exact h
theorem F27_st {g0 gp gB n c2 k base pc : Nat} {pA : Option Addr} {pd : List UInt8} (hgB : gB < base) (u : Value) (t : Tmp) (v : Value) (w w' : World) (hS : SF27 gB k u w w') (h : F27 g0 gp gB n c2 k base pc pA pd t v w) : F27 g0 gp gB n c2 k base pc pA pd t v w' := by
  unfold F27 at *
  split at h <;> first | exact h | exact h.far hS.2 hgB
set_option maxRecDepth 100000 in
set_option maxHeartbeats 8000000 in
theorem copied_any (l : Lk) (w : World) (h : LkOk w l) (hs : LkSm l) :
    Calls Try.prog 27 #[lkV l] w fun e w' => ∃ l', e = .returned (lkV l') ∧ LkOk w' l' ∧ l'.val = l.val ∧ LkFr w.heap.size l' ∧ LOwn pkC 2 29 w' w.heap.size (.slice l'.bA l'.bn l'.bc) l'.box ∧ LkSep l' ∧ Below w.heap.size w w' := by
  have hln := Lib.hid h.la.len
  have hbn := Lib.hid h.ba.len
  obtain ⟨now, delay, cut, count, lA, ln, lc, lose, bA, bn, bc, box⟩ := l
  obtain ⟨s1, s2, s3⟩ := hs
  simp only [lkV, Lk.val] at *
  have hln1 : ln ≤ 1000 := by have := hln.out; omega
  have hbn1 : bn ≤ 1000 := by have := hbn.out; omega
  replace h := Lib.hid h
  replace s3 := Lib.hid s3
  have hX0 := Lib.hid ((Blk.new w 25 #[Value.int .i64 now, Value.int .i64 delay, Value.bool cut, Value.int .i64 count, Value.slice lA ln lc, Value.slice bA bn bc]).alloc (.cells #[Value.int .i64 0, Value.int .i64 0, Value.bool false, Value.int .i64 0, Value.slice none 0 0, Value.slice none 0 0] 25))
  have hZ0 := Lib.hid (Blk.new (w.alloc (.cells #[Value.int .i64 now, Value.int .i64 delay, Value.bool cut, Value.int .i64 count, Value.slice lA ln lc, Value.slice bA bn bc] 25)) 25 #[Value.int .i64 0, Value.int .i64 0, Value.bool false, Value.int .i64 0, Value.slice none 0 0, Value.slice none 0 0])
  have hb0 : Hid (Below w.heap.size w ((w.alloc (.cells #[Value.int .i64 now, Value.int .i64 delay, Value.bool cut, Value.int .i64 count, Value.slice lA ln lc, Value.slice bA bn bc] 25)).alloc (.cells #[Value.int .i64 0, Value.int .i64 0, Value.bool false, Value.int .i64 0, Value.slice none 0 0, Value.slice none 0 0] 25))) := (a1 w _).alloc (by simp) _
  rw [show (w.alloc (.cells #[Value.int .i64 now, Value.int .i64 delay, Value.bool cut, Value.int .i64 count, Value.slice lA ln lc, Value.slice bA bn bc] 25)).heap.size = w.heap.size + 1 by simp] at hZ0
  obtain ⟨k0, k1, k2, k3, k4, k5⟩ := (show ((w.alloc (.cells #[Value.int .i64 now, Value.int .i64 delay, Value.bool cut, Value.int .i64 count, Value.slice lA ln lc, Value.slice bA bn bc] 25)).alloc (.cells #[Value.int .i64 0, Value.int .i64 0, Value.bool false, Value.int .i64 0, Value.slice none 0 0, Value.slice none 0 0] 25)).cell? ⟨w.heap.size, 0, none⟩ = some (Value.int .i64 now) ∧ ((w.alloc (.cells #[Value.int .i64 now, Value.int .i64 delay, Value.bool cut, Value.int .i64 count, Value.slice lA ln lc, Value.slice bA bn bc] 25)).alloc (.cells #[Value.int .i64 0, Value.int .i64 0, Value.bool false, Value.int .i64 0, Value.slice none 0 0, Value.slice none 0 0] 25)).cell? ⟨w.heap.size, 1, none⟩ = some (Value.int .i64 delay) ∧ ((w.alloc (.cells #[Value.int .i64 now, Value.int .i64 delay, Value.bool cut, Value.int .i64 count, Value.slice lA ln lc, Value.slice bA bn bc] 25)).alloc (.cells #[Value.int .i64 0, Value.int .i64 0, Value.bool false, Value.int .i64 0, Value.slice none 0 0, Value.slice none 0 0] 25)).cell? ⟨w.heap.size, 2, none⟩ = some (Value.bool cut) ∧ ((w.alloc (.cells #[Value.int .i64 now, Value.int .i64 delay, Value.bool cut, Value.int .i64 count, Value.slice lA ln lc, Value.slice bA bn bc] 25)).alloc (.cells #[Value.int .i64 0, Value.int .i64 0, Value.bool false, Value.int .i64 0, Value.slice none 0 0, Value.slice none 0 0] 25)).cell? ⟨w.heap.size, 3, none⟩ = some (Value.int .i64 count) ∧ ((w.alloc (.cells #[Value.int .i64 now, Value.int .i64 delay, Value.bool cut, Value.int .i64 count, Value.slice lA ln lc, Value.slice bA bn bc] 25)).alloc (.cells #[Value.int .i64 0, Value.int .i64 0, Value.bool false, Value.int .i64 0, Value.slice none 0 0, Value.slice none 0 0] 25)).cell? ⟨w.heap.size, 4, none⟩ = some (Value.slice lA ln lc) ∧ ((w.alloc (.cells #[Value.int .i64 now, Value.int .i64 delay, Value.bool cut, Value.int .i64 count, Value.slice lA ln lc, Value.slice bA bn bc] 25)).alloc (.cells #[Value.int .i64 0, Value.int .i64 0, Value.bool false, Value.int .i64 0, Value.slice none 0 0, Value.slice none 0 0] 25)).cell? ⟨w.heap.size, 5, none⟩ = some (Value.slice bA bn bc) from ⟨hX0.out.cell 0, hX0.out.cell 1, hX0.out.cell 2, hX0.out.cell 3, hX0.out.cell 4, hX0.out.cell 5⟩)
  go_enter Try.func27, Try.ntmps27
  go_wp2_with fail
  clear k0 k1 k2 k3 k4 k5
  generalize hw1 : (w.alloc (.cells #[Value.int .i64 now, Value.int .i64 delay, Value.bool cut, Value.int .i64 count, Value.slice lA ln lc, Value.slice bA bn bc] 25)).alloc (.cells #[Value.int .i64 0, Value.int .i64 0, Value.bool false, Value.int .i64 0, Value.slice none 0 0, Value.slice none 0 0] 25) = w1 at *
  replace hw1 := Lib.hid hw1
  refine (cloneI_any lA ln lc lose w1 (h.out.more hb0.out).la (by omega)).mono ?_; rintro e w2 ⟨v1, rfl, ho1, hb1⟩
  obtain ⟨A1, c1, rfl, hc1, hm1, hf1, hl1⟩ := ho1.form
  clear ho1
  have hX1 := Lib.hid (hX0.out.below hb1 hX0.out.lt)
  have hZ1 := Lib.hid (hZ0.out.below hb1 hZ0.out.lt)
  have hb2 := Lib.hid (hb0.out.trans (hb1.mono hb0.out.size))
  have hsz1 : Hid (w.heap.size + 2 ≤ w1.heap.size) := by show _ ≤ _; rw [← hw1.out]; simp
  have hsz2 : Hid (w.heap.size + 2 ≤ w2.heap.size) := Nat.le_trans hsz1.out hb1.size
  have hfr1 : Hid (∀ ad, A1 = some ad → w.heap.size + 2 ≤ ad.block ∧ ad.block < w2.heap.size) := fun ad e => ⟨Nat.le_trans hsz1.out (hf1 ad e).2.1, (hf1 ad e).2.2⟩
  clear hb1 hf1 hX0 hZ0 hb0
  rw [hln.out] at hc1 hl1 ⊢
  replace hl1 := Lib.hid hl1
  obtain ⟨k0, k1, k2, k3, k4, k5, z0, z1, z2, z3, z4, z5⟩ := (show w2.cell? ⟨w.heap.size, 0, none⟩ = some (Value.int .i64 now) ∧ w2.cell? ⟨w.heap.size, 1, none⟩ = some (Value.int .i64 delay) ∧ w2.cell? ⟨w.heap.size, 2, none⟩ = some (Value.bool cut) ∧ w2.cell? ⟨w.heap.size, 3, none⟩ = some (Value.int .i64 count) ∧ w2.cell? ⟨w.heap.size, 4, none⟩ = some (Value.slice lA ln lc) ∧ w2.cell? ⟨w.heap.size, 5, none⟩ = some (Value.slice bA bn bc) ∧ w2.frozen? ⟨w.heap.size, 0, none⟩ = false ∧ w2.frozen? ⟨w.heap.size, 1, none⟩ = false ∧ w2.frozen? ⟨w.heap.size, 2, none⟩ = false ∧ w2.frozen? ⟨w.heap.size, 3, none⟩ = false ∧ w2.frozen? ⟨w.heap.size, 4, none⟩ = false ∧ w2.frozen? ⟨w.heap.size, 5, none⟩ = false from ⟨hX1.out.cell 0, hX1.out.cell 1, hX1.out.cell 2, hX1.out.cell 3, hX1.out.cell 4, hX1.out.cell 5, hX1.out.frozen 0, hX1.out.frozen 1, hX1.out.frozen 2, hX1.out.frozen 3, hX1.out.frozen 4, hX1.out.frozen 5⟩)
  go_wp2_with fail
  have hX2 : Hid (Blk (w2.setCell ⟨w.heap.size, 4, none⟩ (Value.slice A1 ln c1)) w.heap.size 25 #[Value.int .i64 now, Value.int .i64 delay, Value.bool cut, Value.int .i64 count, Value.slice A1 ln c1, Value.slice bA bn bc]) := hX1.out.set_ 4 (Value.slice A1 ln c1)
  have hZ2 : Hid (Blk (w2.setCell ⟨w.heap.size, 4, none⟩ (Value.slice A1 ln c1)) (w.heap.size + 1) 25 #[Value.int .i64 0, Value.int .i64 0, Value.bool false, Value.int .i64 0, Value.slice none 0 0, Value.slice none 0 0]) := hZ1.out.far (p := ⟨w.heap.size, 4, none⟩) (by simp) _
  have hb3 : Hid (Below w.heap.size w (w2.setCell ⟨w.heap.size, 4, none⟩ (Value.slice A1 ln c1))) := below_set hb2.out (Nat.le_refl _) 4 _
  have hgr : Hid (w2.grownBy (w2.setCell ⟨w.heap.size, 4, none⟩ (Value.slice A1 ln c1)) (some w.heap.size)) := only_set (World.grownBy.refl _ _) 4 _
  generalize w2.setCell ⟨w.heap.size, 4, none⟩ (Value.slice A1 ln c1) = w3 at *
  clear k0 k1 k2 k3 k4 k5 z0 z1 z2 z3 z4 z5
  have hl3 : Hid (IAt w3 w3.heap.size A1 ln lose) := LAt_grown hl1.out (fun _ ad e => by have := (hfr1.out ad e).1; omega) hgr.out
  have hsz3 : Hid (w.heap.size + 2 ≤ w3.heap.size) := Nat.le_trans hsz2.out hgr.out.size
  replace hfr1 : Hid (∀ ad, A1 = some ad → w.heap.size + 2 ≤ ad.block ∧ ad.block < w3.heap.size) := fun ad e => ⟨(hfr1.out ad e).1, Nat.lt_of_lt_of_le (hfr1.out ad e).2 hgr.out.size⟩
  clear hl1 hgr hsz2
  obtain ⟨k0, k1, k2, k3, k4, k5⟩ := (show w3.cell? ⟨w.heap.size, 0, none⟩ = some (Value.int .i64 now) ∧ w3.cell? ⟨w.heap.size, 1, none⟩ = some (Value.int .i64 delay) ∧ w3.cell? ⟨w.heap.size, 2, none⟩ = some (Value.bool cut) ∧ w3.cell? ⟨w.heap.size, 3, none⟩ = some (Value.int .i64 count) ∧ w3.cell? ⟨w.heap.size, 4, none⟩ = some (Value.slice A1 ln c1) ∧ w3.cell? ⟨w.heap.size, 5, none⟩ = some (Value.slice bA bn bc) from ⟨hX2.out.cell 0, hX2.out.cell 1, hX2.out.cell 2, hX2.out.cell 3, hX2.out.cell 4, hX2.out.cell 5⟩)
  go_wp2_with fail
  refine (cloneP_any bA bn bc box w3 (h.out.more hb3.out).ba (by omega)).mono ?_; rintro e w4 ⟨v2, rfl, ho2, hb4⟩
  obtain ⟨A2, c2, rfl, hc2, hm2, hf2, -⟩ := ho2.form
  rw [hbn.out] at hc2 ho2 ⊢
  replace ho2 := Lib.hid ho2
  have hX3 := Lib.hid (hX2.out.below hb4 hX2.out.lt)
  have hZ3 := Lib.hid (hZ2.out.below hb4 hZ2.out.lt)
  have hl4 := Lib.hid (hl3.out.more hb4)
  have hb4' := Lib.hid (hb3.out.trans (hb4.mono hb3.out.size))
  have hfr2 : Hid (∀ ad, A2 = some ad → ad = ⟨ad.block, 0, none⟩ ∧ w3.heap.size ≤ ad.block ∧ ad.block < w4.heap.size) := hf2
  clear hb4 hf2 hX2 hZ2 hl3 hb3 k0 k1 k2 k3 k4 k5
  obtain ⟨k0, k1, k2, k3, k4, k5, z0, z1, z2, z3, z4, z5⟩ := (show w4.cell? ⟨w.heap.size, 0, none⟩ = some (Value.int .i64 now) ∧ w4.cell? ⟨w.heap.size, 1, none⟩ = some (Value.int .i64 delay) ∧ w4.cell? ⟨w.heap.size, 2, none⟩ = some (Value.bool cut) ∧ w4.cell? ⟨w.heap.size, 3, none⟩ = some (Value.int .i64 count) ∧ w4.cell? ⟨w.heap.size, 4, none⟩ = some (Value.slice A1 ln c1) ∧ w4.cell? ⟨w.heap.size, 5, none⟩ = some (Value.slice bA bn bc) ∧ w4.frozen? ⟨w.heap.size, 0, none⟩ = false ∧ w4.frozen? ⟨w.heap.size, 1, none⟩ = false ∧ w4.frozen? ⟨w.heap.size, 2, none⟩ = false ∧ w4.frozen? ⟨w.heap.size, 3, none⟩ = false ∧ w4.frozen? ⟨w.heap.size, 4, none⟩ = false ∧ w4.frozen? ⟨w.heap.size, 5, none⟩ = false from ⟨hX3.out.cell 0, hX3.out.cell 1, hX3.out.cell 2, hX3.out.cell 3, hX3.out.cell 4, hX3.out.cell 5, hX3.out.frozen 0, hX3.out.frozen 1, hX3.out.frozen 2, hX3.out.frozen 3, hX3.out.frozen 4, hX3.out.frozen 5⟩)
  go_wp2_with fail
  have hX2 : Hid (Blk (w4.setCell ⟨w.heap.size, 5, none⟩ (Value.slice A2 bn c2)) w.heap.size 25 #[Value.int .i64 now, Value.int .i64 delay, Value.bool cut, Value.int .i64 count, Value.slice A1 ln c1, Value.slice A2 bn c2]) := hX3.out.set_ 5 (Value.slice A2 bn c2)
  have hZ2 : Hid (Blk (w4.setCell ⟨w.heap.size, 5, none⟩ (Value.slice A2 bn c2)) (w.heap.size + 1) 25 #[Value.int .i64 0, Value.int .i64 0, Value.bool false, Value.int .i64 0, Value.slice none 0 0, Value.slice none 0 0]) := hZ3.out.far (p := ⟨w.heap.size, 5, none⟩) (by simp) _
  have hb3 : Hid (Below w.heap.size w (w4.setCell ⟨w.heap.size, 5, none⟩ (Value.slice A2 bn c2))) := below_set hb4'.out (Nat.le_refl _) 5 _
  have hgr : Hid (w4.grownBy (w4.setCell ⟨w.heap.size, 5, none⟩ (Value.slice A2 bn c2)) (some w.heap.size)) := only_set (World.grownBy.refl _ _) 5 _
  generalize w4.setCell ⟨w.heap.size, 5, none⟩ (Value.slice A2 bn c2) = w5 at *
  clear k0 k1 k2 k3 k4 k5 z0 z1 z2 z3 z4 z5
  have hl5 : Hid (IAt w5 w5.heap.size A1 ln lose) := LAt_grown hl4.out (fun _ ad e => by have := (hfr1.out ad e).1; omega) hgr.out
  have ho5 : Hid (LOwn pkC 2 29 w5 w3.heap.size (.slice A2 bn c2) box) := ho2.out.far hgr.out (by have := hsz3.out; omega)
  replace hfr2 : Hid (∀ ad, A2 = some ad → ad = ⟨ad.block, 0, none⟩ ∧ w3.heap.size ≤ ad.block ∧ ad.block < w5.heap.size) := fun ad e => ⟨(hfr2.out ad e).1, (hfr2.out ad e).2.1, Nat.lt_of_lt_of_le (hfr2.out ad e).2.2 hgr.out.size⟩
  clear hl4 hgr ho2 hX3 hZ3 hb4'
  obtain ⟨k0, k1, k2, k3, k4, k5⟩ := (show w5.cell? ⟨w.heap.size, 0, none⟩ = some (Value.int .i64 now) ∧ w5.cell? ⟨w.heap.size, 1, none⟩ = some (Value.int .i64 delay) ∧ w5.cell? ⟨w.heap.size, 2, none⟩ = some (Value.bool cut) ∧ w5.cell? ⟨w.heap.size, 3, none⟩ = some (Value.int .i64 count) ∧ w5.cell? ⟨w.heap.size, 4, none⟩ = some (Value.slice A1 ln c1) ∧ w5.cell? ⟨w.heap.size, 5, none⟩ = some (Value.slice A2 bn c2) from ⟨hX2.out.cell 0, hX2.out.cell 1, hX2.out.cell 2, hX2.out.cell 3, hX2.out.cell 4, hX2.out.cell 5⟩)
  go_wp2_with fail
  clear k0 k1 k2 k3 k4 k5
  go_loopw [16] (fun i wr => ∃ (k : Nat) (L : List Pk), k ≤ bn ∧ i = .int .i64 k ∧ Hid (L.map Pk.val = box.map Pk.val) ∧ Hid (LOwn pkC 2 29 wr w3.heap.size (.slice A2 bn c2) L) ∧ Hid (∀ p ∈ L, PkAt wr p) ∧ Hid (∀ p ∈ L, 0 < p.n → ∀ ad, p.A = some ad → ∀ a2, A2 = some a2 → ad.block ≠ a2.block) ∧ Hid (∀ p ∈ L.take k, ∀ ad, p.A = some ad → w.heap.size + 2 ≤ ad.block) ∧ Hid (Blk wr w.heap.size 25 #[Value.int .i64 now, Value.int .i64 delay, Value.bool cut, Value.int .i64 count, Value.slice A1 ln c1, Value.slice A2 bn c2]) ∧ Hid (Blk wr (w.heap.size + 1) 25 #[Value.int .i64 0, Value.int .i64 0, Value.bool false, Value.int .i64 0, Value.slice none 0 0, Value.slice none 0 0]) ∧ Hid (Below w.heap.size w wr) ∧ Hid (IAt wr wr.heap.size A1 ln lose) ∧ Hid (L.length = bn)) (fun i _ => bn - (intOf i).toNat)
  case atStart =>
    refine ⟨0, box, Nat.zero_le _, rfl, rfl, ho5.out, fun p hp => (h.out.bd p hp).more hb3.out, ?_, fun p hp => by simp at hp, hX2.out, hZ2.out, hb3.out, hl5.out, hbn.out⟩
    intro p hp h0 ad e a2 e2
    obtain ⟨ad', e', hb', -⟩ := (h.out.bd p hp).1.1.2.2 h0
    rw [e] at e'; cases e'
    have := (hfr2.out a2 e2).2.1
    have := hsz3.out
    omega
  case round =>
    obtain ⟨k, L, hkn, rfl, hval, hL, hold, hfrB, hfre, hXr, hZr, hbr, hlr, hlen⟩ := hrel
    have hbn' := hlen
    by_cases hlt : k < bn
    · have hkl : k < L.length := by have := hlen.out; omega
      have hk0 : (0 : Int) ≤ k := by omega
      have hk1 : (k : Int) < bn := by omega
      obtain ⟨A9, c9, e9, -, -, -, hat⟩ := hL.out.form
      rw [hlen.out] at hat e9
      injection e9 with e9 _ e10
      subst e9; subst e10
      obtain ⟨ad, hA, hbl, e0, e1⟩ := pk_cells hat hlt
      obtain ⟨hadf, hgb3, hgb5⟩ := hfr2.out ad hA
      obtain ⟨gB, hgBe⟩ : ∃ gB, gB = ad.block := ⟨_, rfl⟩
      rw [← hgBe] at hadf hgb3 hgb5 hbl
      clear hgBe
      subst hadf
      subst hA
      simp only [add_row] at e0 e1
      have hdi := Lib.hid (hold.out _ (List.getElem_mem hkl)).2
      have hpa := Lib.hid (hold.out _ (List.getElem_mem hkl))
      have hpn := Lib.hid (hfrB.out _ (List.getElem_mem hkl))
      have hsd : Hid ((L[k]).d.length ≤ 100000) := by
        have : L[k].val ∈ box.map Pk.val := by rw [← hval.out]; exact List.mem_map_of_mem (List.getElem_mem hkl)
        obtain ⟨q, hq, e⟩ := List.mem_map.1 this
        have e2 : q.d = L[k].d := congrArg Prod.snd e
        show _ ≤ _
        rw [← e2]; exact s3.out q hq
      have hset : Hid (L.set k L[k] = L) := List.set_getElem_self hkl
      have hgk : Hid (L[k] = L[k]) := rfl
      generalize hp : L[k] = p at e0 e1 hdi hpa hpn hsd hset
      obtain ⟨due, pA, pn, pc, pd⟩ := p
      obtain rfl : pd.length = pn := hpa.out.1.1.len
      replace hgk := Lib.hid hp
      clear hp
      simp only at e0 e1
      obtain ⟨k0, k1, k2, k3, k4, k5⟩ := (show wr.cell? ⟨w.heap.size, 0, none⟩ = some (Value.int .i64 now) ∧ wr.cell? ⟨w.heap.size, 1, none⟩ = some (Value.int .i64 delay) ∧ wr.cell? ⟨w.heap.size, 2, none⟩ = some (Value.bool cut) ∧ wr.cell? ⟨w.heap.size, 3, none⟩ = some (Value.int .i64 count) ∧ wr.cell? ⟨w.heap.size, 4, none⟩ = some (Value.slice A1 ln c1) ∧ wr.cell? ⟨w.heap.size, 5, none⟩ = some (Value.slice (some ⟨gB, 0, none⟩) bn c2) from ⟨hXr.out.cell 0, hXr.out.cell 1, hXr.out.cell 2, hXr.out.cell 3, hXr.out.cell 4, hXr.out.cell 5⟩)
      go_wp2_with fail
      clear k0 k1 k2 k3 k4 k5 e0 e1 hat
      have hP := Lib.hid (Blk.new wr 29 #[Value.int .i64 due, Value.slice pA pd.length pc])
      have hp7 := Lib.hid (hXr.out.alloc (.cells #[Value.int .i64 due, Value.slice pA pd.length pc] 29))
      have hz7 := Lib.hid (hZr.out.alloc (.cells #[Value.int .i64 due, Value.slice pA pd.length pc] 29))
      have hb7 : Hid (Below w.heap.size w (wr.alloc (.cells #[Value.int .i64 due, Value.slice pA pd.length pc] 29))) := hbr.out.alloc hbr.out.size _
      have hA7 : Below wr.heap.size wr (wr.alloc (.cells #[Value.int .i64 due, Value.slice pA pd.length pc] 29)) := a1 wr _
      have hL7 := Lib.hid (hL.out.kept hA7)
      have hl7 := Lib.hid (hlr.out.more hA7)
      replace hold : Hid (∀ p ∈ L, PkAt (wr.alloc (.cells #[Value.int .i64 due, Value.slice pA pd.length pc] 29)) p) := fun p hp => (hold.out p hp).more hA7
      replace hpa := Lib.hid (hpa.out.more hA7)
      obtain ⟨gp, hgp⟩ : ∃ gp, gp = wr.heap.size := ⟨_, rfl⟩
      have hgB : Hid (gB < (wr.alloc (.cells #[Value.int .i64 due, Value.slice pA pd.length pc] 29)).heap.size) := by show _ < _; simp; omega
      have hgpB : Hid (gp ≠ gB) := by show _ ≠ _; omega
      have hgB3 : Hid (w3.heap.size ≤ gB) := hgb3
      have hgw : Hid (w.heap.size ≤ gB) := by show _ ≤ _; have := hsz3.out; omega
      have hgne : Hid (w.heap.size ≠ gB) := by show _ ≠ _; have := hsz3.out; omega
      have hgne1 : Hid (w.heap.size + 1 ≠ gB) := by show _ ≠ _; have := hsz3.out; omega
      have hsz7 : Hid (w.heap.size + 2 ≤ (wr.alloc (.cells #[Value.int .i64 due, Value.slice pA pd.length pc] 29)).heap.size) := by show _ ≤ _; have := hsz3.out; have := hgB.out; omega
      rw [← hgp] at hP ⊢
      replace hgp := Lib.hid hgp
      clear hA7 hL hlr hXr hZr hbr hbl hgb3 hgb5
      generalize wr.alloc (.cells #[Value.int .i64 due, Value.slice pA pd.length pc] 29) = w7 at *
      have hcell : Hid (∀ wz, w7.grownBy wz (some gB) → wz.cell? ⟨w.heap.size, 5, none⟩ = some (Value.slice (some ⟨gB, 0, none⟩) bn c2) ∧ wz.cell? ⟨gp, 1, none⟩ = some (Value.slice pA pd.length pc)) := fun wz hz => ⟨(hp7.out.grown hz (by simp; exact hgne.out)).cell 5, (hP.out.grown hz (by simp; exact hgpB.out)).cell 1⟩
      have hcl : Hid (∀ wz, w7.grownBy wz (some gB) → Calls Try.prog 28 #[.slice pA pd.length pc] wz fun e w' => ∃ v, e = .returned v ∧ BOwn w' w7.heap.size v pd ∧ Below wz.heap.size wz w') := fun wz hz => by
        have q := PkAt_grown hpa.out (fun h0 ad e => hpn.out h0 ad e _ rfl) hz
        refine (cloneB_any pA pd.length pc pd wz q.1.1 (by have := hsd.out; omega)).mono ?_
        rintro e w5 ⟨v, rfl, ho, hbq⟩
        exact ⟨v, rfl, ho.mono hz.size, hbq⟩
      clear hP hpn hpa
      refine RM.region [] [28] (F := F27 w.heap.size gp gB bn c2 k w7.heap.size pc pA pd) (W := fun wz => w7.grownBy wz (some gB) ∧ ∃ q : Pk, q.due = due ∧ LOwn pkC 2 29 wz w3.heap.size (.slice (some ⟨gB, 0, none⟩) bn c2) (L.set k q)) (R := fun _ => Rb) (S := SF27 gB k) (G := GF27 gB bn c2 k w7.heap.size w3.heap.size due pd L) rfl F27_more GF27_more (F27_st hgB.out) GF27_st (by kernel_rfl) (by kernel_rfl) (by kernel_rfl) (by kernel_rfl) (by kernel_rfl) ?_ ?_ ?_ (by kernel_rfl) ?_
      · exact ⟨only_of_below (below_dr (Below.refl _ _)) _, ⟨due, pA, pd.length, pc, pd⟩, rfl, by rw [hset.out]; exact hL7.out.drew⟩
      · intro t ht
        unfold F27
        split <;> first | trivial | exact rfl | (exact absurd ht (by decide))
      · simp only [List.forall_mem_cons, List.not_mem_nil, false_implies, implies_true, and_true]
        refine ⟨?_, ?_, ?_, ?_, ?_, ?_, ?_, ?_, ?_⟩
        · intro a w2 hw _ hf K hK
          have f0 := hf 1 rfl
          simp only [F27] at f0
          clear hf
          go_simp
          exact hK _ _ _ rfl rfl hw (Below.refl _ _) (fun h => absurd h (by decide))
        · intro a w2 hw _ hf K hK
          have f0 := hf 21 rfl
          simp only [F27] at f0
          clear hf
          have e := (hcell.out w2 hw.1).1
          go_simp
          exact hK _ _ _ rfl rfl hw (Below.refl _ _) (fun h => absurd h (by decide))
        · intro a w2 hw _ hf K hK
          have f0 := hf 3 rfl
          simp only [F27] at f0
          clear hf
          go_simp
          exact hK _ _ _ rfl rfl hw (Below.refl _ _) (fun h => absurd h (by decide))
        · intro a w2 hw _ hf K hK
          have f0 := hf 4 rfl
          simp only [F27] at f0
          clear hf
          go_simp
          exact hK _ _ _ rfl rfl hw (Below.refl _ _) (fun h => absurd h (by decide))
        · intro a w2 hw _ hf K hK
          have f0 := hf 24 rfl
          simp only [F27] at f0
          clear hf
          have e := (hcell.out w2 hw.1).2
          go_simp
          exact hK _ _ _ rfl rfl hw (Below.refl _ _) (fun h => absurd h (by decide))
        · intro a w2 hw _ hf K hK
          have f0 := hf 25 rfl
          simp only [F27] at f0
          clear hf
          go_simp
          refine (hcl.out w2 hw.1).mono ?_; rintro e w5 ⟨v, rfl, ho, hbq⟩
          exact hK _ _ _ rfl ho ⟨hw.1.trans (only_of_below hbq _), hw.2.elim fun q hq => ⟨q, hq.1, hq.2.kept hbq⟩⟩ hbq (fun h => absurd h (by decide))
        · intro a w2 hw _ hf K hK
          have f0 := hf 22 rfl
          have f1 := hf 23 rfl
          simp only [F27] at f0 f1
          clear hf
          go_simp
          exact hK _ _ _ rfl (by show _ = _; first | rfl | rw [add_row]) hw (Below.refl _ _) (fun h => absurd h (by decide))
        · intro a w2 hw _ hf K hK
          have f0 := hf 27 rfl
          simp only [F27] at f0
          clear hf
          go_simp
          exact hK _ _ _ rfl rfl hw (Below.refl _ _) (fun _ t u hne ht _ => absurd (by simpa using ht) hne)
        · intro a w2 hw hf K hK
          have f0 := hf 28 rfl
          have f1 := hf 26 rfl
          simp only [F27] at f0 f1
          clear hf
          obtain ⟨q, hq, hL⟩ := hw.2
          obtain ⟨A', c', hv, hcc, hcm, hAd, hAt⟩ := f1.form
          rw [hv] at f1
          have z5 : w2.frozen? ⟨gB, k * 2 + 1, none⟩ = false := hL.frozenAt (by simp [hbn'.out]) _
          have k5 : w2.cell? ⟨gB, k * 2 + 1, none⟩ = some (Value.slice q.A q.n q.c) := by
            rw [hL.cellAt (by simp [hbn'.out]) (k := k) (by simp; exact hkl) (j := 1) (by decide)]
            simp [pkC]
          replace hL := Lib.hid hL
          replace hcc := Lib.hid hcc
          replace hcm := Lib.hid hcm
          replace hAd := Lib.hid hAd
          replace hAt := Lib.hid hAt
          have hf1 := Lib.hid f1
          clear f1
          go_simp
          have hx8 : ∀ j, j < 2 → (pkC (⟨due, A', pd.length, c', pd⟩ : Pk))[j]? = if 1 ≤ j ∧ j < 1 + [Value.slice A' pd.length c'].length then ([Value.slice A' pd.length c'] : List Value)[j - 1]? else (pkC ((L.set k q)[k]'(by simp; exact hkl)))[j]? := by
            intro j hj
            have : j = 0 ∨ j = 1 := by omega
            rcases this with rfl | rfl
            · simp [pkC, hq]
            · simp [pkC]
          have hst := hL.out.storep (by simp [hbn'.out]) (k := k) (by simp; exact hkl) (⟨due, A', pd.length, c', pd⟩ : Pk) 1 [Value.slice A' pd.length c'] (by simp) hx8
          obtain ⟨hs1, hs2⟩ := hst
          rw [List.set_set] at hs1
          refine hK undef _ ⟨hw.1.trans hs2, ⟨due, A', pd.length, c', pd⟩, rfl, hs1⟩ ?_ ?_
          · exact ⟨f0, hs2⟩
          · exact ⟨f0, A', c', hs1, hf1.out.far hs2 hgB.out, hcc.out, hcm.out, fun ad h => (hAd.out ad h).2.1⟩
      · intro a' w9 hd hs hw hout hf hg
        simp only [List.forall_mem_cons] at hg
        have hG : GF27 gB bn c2 k w7.heap.size w3.heap.size due pd L 28 _ w9 := hg.2.2.2.2.2.2.2.2.1 trivial
        obtain ⟨-, A', c', hL9, hB9, hcc9, hcm9, hfr9⟩ := hG
        clear hg
        have e0 : _ = some (Value.agg #[Value.int .i64 now, Value.int .i64 delay, Value.bool cut, Value.int .i64 count, Value.slice lA ln lc, Value.slice bA bn bc]) := hout 0 rfl
        have e5 : _ = some (Value.pointer (some ⟨w.heap.size, 4, none⟩)) := hout 5 rfl
        have e6 : _ = some (Value.slice lA ln lc) := hout 6 rfl
        have e7 : _ = some (Value.slice A1 ln c1) := hout 7 rfl
        have e8 : _ = some (Value.pointer (some ⟨w.heap.size, 4, none⟩)) := hout 8 rfl
        have e9 : _ = some (Value.pointer (some ⟨w.heap.size, 5, none⟩)) := hout 9 rfl
        have e10 : _ = some (Value.slice bA bn bc) := hout 10 rfl
        have e11 : _ = some (Value.slice (some ⟨gB, 0, none⟩) bn c2) := hout 11 rfl
        have e12 : _ = some (Value.pointer (some ⟨w.heap.size, 5, none⟩)) := hout 12 rfl
        have e13 : _ = some (Value.pointer (some ⟨w.heap.size, 5, none⟩)) := hout 13 rfl
        have e30 : _ = some (undef) := hout 30 rfl
        have e1 : _ = some (Value.pointer (some ⟨w.heap.size, 0, none⟩)) := hout 1 rfl
        have e2 : _ = some (Value.pointer (some ⟨w.heap.size + 1, 0, none⟩)) := hout 2 rfl
        have e14 : _ = some (Value.slice (some ⟨gB, 0, none⟩) bn c2) := hout 14 rfl
        have e15 : _ = some (Value.int .i64 bn) := hout 15 rfl
        have e16 : _ = some (Value.int .i64 k) := hout 16 rfl
        obtain ⟨tm, df⟩ := a'
        simp only at hd hs e0 e5 e6 e7 e8 e9 e10 e11 e12 e13 e30 e1 e2 e14 e15 e16
        have e := lit_arr tm 31 hs
        rw [show (List.range 31).map (fun i => tm[i]?.getD undef) = [tm[0]?.getD undef, tm[1]?.getD undef, tm[2]?.getD undef, tm[3]?.getD undef, tm[4]?.getD undef, tm[5]?.getD undef, tm[6]?.getD undef, tm[7]?.getD undef, tm[8]?.getD undef, tm[9]?.getD undef, tm[10]?.getD undef, tm[11]?.getD undef, tm[12]?.getD undef, tm[13]?.getD undef, tm[14]?.getD undef, tm[15]?.getD undef, tm[16]?.getD undef, tm[17]?.getD undef, tm[18]?.getD undef, tm[19]?.getD undef, tm[20]?.getD undef, tm[21]?.getD undef, tm[22]?.getD undef, tm[23]?.getD undef, tm[24]?.getD undef, tm[25]?.getD undef, tm[26]?.getD undef, tm[27]?.getD undef, tm[28]?.getD undef, tm[29]?.getD undef, tm[30]?.getD undef] from rfl] at e
        simp only [e0, e5, e6, e7, e8, e9, e10, e11, e12, e13, e30, e1, e2, e14, e15, e16, Option.getD_some] at e
        clear hf hout hs
        rw [e, hd]
        clear e hd e0 e5 e6 e7 e8 e9 e10 e11 e12 e13 e30 e1 e2 e14 e15 e16
        generalize tm[3]?.getD undef = u3x
        generalize tm[4]?.getD undef = u4x
        generalize tm[17]?.getD undef = u17x
        generalize tm[18]?.getD undef = u18x
        generalize tm[19]?.getD undef = u19x
        generalize tm[20]?.getD undef = u20x
        generalize tm[21]?.getD undef = u21x
        generalize tm[22]?.getD undef = u22x
        generalize tm[23]?.getD undef = u23x
        generalize tm[24]?.getD undef = u24x
        generalize tm[25]?.getD undef = u25x
        generalize tm[26]?.getD undef = u26x
        generalize tm[27]?.getD undef = u27x
        generalize tm[28]?.getD undef = u28x
        generalize tm[29]?.getD undef = u29x
        obtain ⟨hw, -⟩ := hw
        have pB9 := Lib.hid ((hp7.out.grown hw (by simp; exact hgne.out)))
        have pZ9 := Lib.hid ((hz7.out.grown hw (by simp; exact hgne1.out)))
        have hb9 : Hid (Below w.heap.size w w9) := hb7.out.grown hw hb7.out.size (fun g hg => by simp at hg; rw [← hg]; exact hgw.out)
        have hL9 := Lib.hid hL9
        have hB9 := Lib.hid hB9
        have hcc9 := Lib.hid hcc9
        have hcm9 := Lib.hid hcm9
        have hfr9 := Lib.hid hfr9
        clear hcell hcl
        go_wp2_with fail
        go_roundw
        case rel =>
          refine ⟨k + 1, L.set k ⟨due, A', pd.length, c', pd⟩, by omega, by go_num, ?_, hL9.out, ?_, ?_, ?_, pB9.out, pZ9.out, hb9.out, ?_, ?_⟩
          · show _ = _; rw [← hval.out]; exact map_set_val L k hkl ⟨due, A', pd.length, c', pd⟩ (by rw [hgk.out]; rfl)
          · intro p hp
            rcases List.mem_or_eq_of_mem_set hp with hp | rfl
            · have h8 := hold.out p hp
              exact PkAt_grown (hold.out p hp) (fun h0 ad e => hfrB.out p hp h0 ad e _ rfl) hw
            · refine ⟨⟨?_, hcc9.out, hcm9.out⟩, hdi.out⟩
              obtain ⟨A8, c8, e8, -, -, -, h8⟩ := hB9.out.form
              cases e8; exact h8
          · intro p hp
            rcases List.mem_or_eq_of_mem_set hp with hp | rfl
            · exact hfrB.out p hp
            · intro _ ad had a2 e8
              cases e8
              have := hfr9.out ad had
              have := hgB.out
              show ad.block ≠ gB
              omega
          · intro p hp
            rw [take_set_succ _ _ _ hkl] at hp
            rcases List.mem_append.1 hp with hp | hp
            · exact hfre.out p hp
            · simp at hp; subst hp
              intro ad had
              have := hfr9.out ad had
              have := hsz7.out
              omega
          · exact LAt_grown hl7.out (fun _ ad e => by have := (hfr1.out ad e).2; have := hgB3.out; omega) hw
          · show _ = _; simp; exact hlen.out
        case measure => simp [intOf]; omega
    · obtain ⟨k0, k1, k2, k3, k4, k5⟩ := (show wr.cell? ⟨w.heap.size, 0, none⟩ = some (Value.int .i64 now) ∧ wr.cell? ⟨w.heap.size, 1, none⟩ = some (Value.int .i64 delay) ∧ wr.cell? ⟨w.heap.size, 2, none⟩ = some (Value.bool cut) ∧ wr.cell? ⟨w.heap.size, 3, none⟩ = some (Value.int .i64 count) ∧ wr.cell? ⟨w.heap.size, 4, none⟩ = some (Value.slice A1 ln c1) ∧ wr.cell? ⟨w.heap.size, 5, none⟩ = some (Value.slice A2 bn c2) from ⟨hXr.out.cell 0, hXr.out.cell 1, hXr.out.cell 2, hXr.out.cell 3, hXr.out.cell 4, hXr.out.cell 5⟩)
      obtain ⟨u0, u1, u2, u3, u4, u5, z0, z1, z2, z3, z4, z5⟩ := (show wr.cell? ⟨(w.heap.size + 1), 0, none⟩ = some (Value.int .i64 0) ∧ wr.cell? ⟨(w.heap.size + 1), 1, none⟩ = some (Value.int .i64 0) ∧ wr.cell? ⟨(w.heap.size + 1), 2, none⟩ = some (Value.bool false) ∧ wr.cell? ⟨(w.heap.size + 1), 3, none⟩ = some (Value.int .i64 0) ∧ wr.cell? ⟨(w.heap.size + 1), 4, none⟩ = some (Value.slice none 0 0) ∧ wr.cell? ⟨(w.heap.size + 1), 5, none⟩ = some (Value.slice none 0 0) ∧ wr.frozen? ⟨(w.heap.size + 1), 0, none⟩ = false ∧ wr.frozen? ⟨(w.heap.size + 1), 1, none⟩ = false ∧ wr.frozen? ⟨(w.heap.size + 1), 2, none⟩ = false ∧ wr.frozen? ⟨(w.heap.size + 1), 3, none⟩ = false ∧ wr.frozen? ⟨(w.heap.size + 1), 4, none⟩ = false ∧ wr.frozen? ⟨(w.heap.size + 1), 5, none⟩ = false from ⟨hZr.out.cell 0, hZr.out.cell 1, hZr.out.cell 2, hZr.out.cell 3, hZr.out.cell 4, hZr.out.cell 5, hZr.out.frozen 0, hZr.out.frozen 1, hZr.out.frozen 2, hZr.out.frozen 3, hZr.out.frozen 4, hZr.out.frozen 5⟩)
      go_wp2_with fail
      (try simp only [Exit.inBlock, Exit.then])
      have hB := lk_set6 hZr.out (Value.int .i64 now) (Value.int .i64 delay) (Value.bool cut) (Value.int .i64 count) (Value.slice A1 ln c1) (Value.slice A2 bn c2)
      have hbF := below_set6 hbr.out (Nat.le_succ w.heap.size) (Value.int .i64 now) (Value.int .i64 delay) (Value.bool cut) (Value.int .i64 count) (Value.slice A1 ln c1) (Value.slice A2 bn c2)
      have hgF := grown_set6 wr (w.heap.size + 1) (Value.int .i64 now) (Value.int .i64 delay) (Value.bool cut) (Value.int .i64 count) (Value.slice A1 ln c1) (Value.slice A2 bn c2)
      refine bodyPost_ret (v := .agg #[Value.int .i64 now, Value.int .i64 delay, Value.bool cut, Value.int .i64 count, Value.slice A1 ln c1, Value.slice A2 bn c2]) ?_ rfl ?_
      · exact results_cell_row (h := rfl) _ _ (w.heap.size + 1) 25 _ (0, 0) _ rfl hB Try.underlying25 rfl (by kernel_rfl)
      · clear hB
        generalize ((((((wr.setCell ⟨(w.heap.size + 1), 0, none⟩ (Value.int .i64 now)).setCell ⟨(w.heap.size + 1), 1, none⟩ (Value.int .i64 delay)).setCell ⟨(w.heap.size + 1), 2, none⟩ (Value.bool cut)).setCell ⟨(w.heap.size + 1), 3, none⟩ (Value.int .i64 count)).setCell ⟨(w.heap.size + 1), 4, none⟩ (Value.slice A1 ln c1)).setCell ⟨(w.heap.size + 1), 5, none⟩ (Value.slice A2 bn c2)) = wF at *
        obtain ⟨A9, c9, e9, -, -, -, hat⟩ := hL.out.form
        rw [hlen.out] at hat e9
        injection e9 with e9 _ e10
        subst e9; subst e10
        have hk : k = bn := by omega
        have hall : L.take k = L := List.take_of_length_le (by have := hlen.out; omega)
        have hfre := hfre.out
        rw [hall] at hfre
        refine ⟨⟨now, delay, cut, count, A1, ln, c1, lose, A2, bn, c2, L⟩, rfl, ⟨?_, ⟨hc1, hm1⟩, h.out.li, ?_, ⟨hc2, hm2⟩, ?_, h.out.ii⟩, ?_, ⟨?_, ?_, ?_⟩, ?_, ⟨?_, ?_⟩, hbF⟩
        · exact LAt_grown hlr.out (fun _ ad e => by have := (hfr1.out ad e).1; omega) hgF
        · exact LAt_grown hat (fun _ ad e => by have := (hfr2.out ad e).2.1; have := hsz3.out; omega) hgF
        · exact fun p hp => PkAt_grown (hold.out p hp) (fun _ ad e => by have := hfre p hp ad e; omega) hgF
        · show Lk.val _ = _
          simp only [Lk.val, hval.out]
        · intro ad e; have := (hfr1.out ad e).1; omega
        · intro ad e; have := (hfr2.out ad e).2.1; have := hsz3.out; omega
        · intro p hp ad e; have := hfre p hp ad e; omega
        · exact (hL.out.far hgF (by have := hsz3.out; omega)).mono (by have := hsz3.out; omega)
        · intro ad a2 e e2; have := (hfr1.out ad e).2; have := (hfr2.out a2 e2).2.1; omega
        · exact hfrB.out
end Go.Proofs.Yteolglmdfjddlaa
