/- Certs: the examples. -/
import Derived.Test.YtiggpgeldigknaaCM
import Derived.Test.YtiggpgeldigknaaRV
set_option linter.unusedVariables false
set_option linter.unusedSimpArgs false
namespace Go.Proofs.Ytiggpgeldigknaa
open Go.RowKit
def rI : Ct := ⟨1, ⟨#[114, 111, 111, 116]⟩, ⟨#[114, 111, 111, 116]⟩, 0, 1000, true, 7, 12217286180542865105⟩
def cI : Ct := ⟨2, ⟨#[108, 101, 97, 102]⟩, ⟨#[114, 111, 111, 116]⟩, 10, 500, false, 9, 5033556202336685493⟩
def dI : Ct := ⟨2, ⟨#[108, 101, 97, 102]⟩, ⟨#[114, 111, 111, 116]⟩, 10, 500, false, 8, 5033556202336685493⟩
theorem rI_eq : rootR rootC = (rI, 0) := by kernel_rfl
theorem cI_eq : issueR leafC rI = (cI, 0) := by kernel_rfl
theorem gI_eq : issueR cI cI = (noCt, 14) := by kernel_rfl
theorem v1 : verR [cI] [rI] [] 10 = 0 := by kernel_rfl
theorem v2 : verR [cI] [rI] [] 9 = 12 := by kernel_rfl
theorem v3 : verR [cI] [rI] [2] 10 = 13 := by kernel_rfl
theorem v4 : verR [dI] [rI] [] 10 = 7 := by kernel_rfl
theorem v5 : verR [] [rI] [] 10 = 1 := by kernel_rfl
theorem v6 : validE rI = 0 := by kernel_rfl
theorem rootC_ok : CtOk (selfC rootC) := ⟨by decide, by decide, by decide, by decide, by decide⟩
theorem leafC_ok : CtOk (issC leafC rI) := ⟨by decide, by decide, by decide, by decide, by decide⟩
theorem cI_ok : CtOk cI := ⟨by decide, by decide, by decide, by decide, by decide⟩
theorem gI_ok : CtOk (issC cI cI) := ⟨by decide, by decide, by decide, by decide, by decide⟩
theorem dI_ok : CtOk dI := ⟨by decide, by decide, by decide, by decide, by decide⟩
theorem root_ex (w : World) : Calls Try.prog 34 #[.agg (ctC rootC).toArray] w fun e w' => e = .returned (.tuple #[.agg #[Value.int .i64 1, Value.string ⟨#[114, 111, 111, 116]⟩, Value.string ⟨#[114, 111, 111, 116]⟩, Value.int .i64 0, Value.int .i64 1000, Value.bool true, Value.int .u64 7, Value.int .u64 12217286180542865105], .int .i64 0]) ∧ Below w.heap.size w w' := by
  have h := root_any rootC w rootC_ok
  rw [rI_eq] at h
  exact h
theorem iss_ex (w : World) : Calls Try.prog 35 #[.agg (ctC leafC).toArray, .agg #[Value.int .i64 1, Value.string ⟨#[114, 111, 111, 116]⟩, Value.string ⟨#[114, 111, 111, 116]⟩, Value.int .i64 0, Value.int .i64 1000, Value.bool true, Value.int .u64 7, Value.int .u64 12217286180542865105]] w fun e w' => e = .returned (.tuple #[.agg #[Value.int .i64 2, Value.string ⟨#[108, 101, 97, 102]⟩, Value.string ⟨#[114, 111, 111, 116]⟩, Value.int .i64 10, Value.int .i64 500, Value.bool false, Value.int .u64 9, Value.int .u64 5033556202336685493], .int .i64 0]) ∧ Below w.heap.size w w' := by
  have h := issue_any leafC rI w leafC_ok
  rw [cI_eq] at h
  exact h
theorem iss_ex2 (w : World) : Calls Try.prog 35 #[.agg #[Value.int .i64 2, Value.string ⟨#[108, 101, 97, 102]⟩, Value.string ⟨#[114, 111, 111, 116]⟩, Value.int .i64 10, Value.int .i64 500, Value.bool false, Value.int .u64 9, Value.int .u64 5033556202336685493], .agg #[Value.int .i64 2, Value.string ⟨#[108, 101, 97, 102]⟩, Value.string ⟨#[114, 111, 111, 116]⟩, Value.int .i64 10, Value.int .i64 500, Value.bool false, Value.int .u64 9, Value.int .u64 5033556202336685493]] w fun e w' => e = .returned (.tuple #[.agg #[Value.int .i64 0, Value.string ⟨#[]⟩, Value.string ⟨#[]⟩, Value.int .i64 0, Value.int .i64 0, Value.bool false, Value.int .u64 0, Value.int .u64 0], .int .i64 14]) ∧ Below w.heap.size w w' := by
  have h := issue_any cI cI w gI_ok
  rw [gI_eq] at h
  exact h
theorem lat_blk {α : Type} {f : α → List Value} {s : Nat} (hf : ∀ a, (f a).length = s) {w : World} {g : Nat} {ty : TypeId} {cs : Array Value} (h : Blk w g ty cs) (l : List α) (n : Nat) (hn : l.length = n) (hc : cs.toList = flat f l) : LAt f s w w.heap.size (some ⟨g, 0, none⟩) n l := by
  subst hn
  refine ⟨⟨rfl, hf⟩, flat_len hf l, fun _ => ⟨_, rfl, h.lt, fun j u hu => ?_⟩⟩
  rw [add_row, cell_of_row _ _ j cs ty _ h, ← Array.getElem?_toList, hc]
  exact hu
theorem blk_set2 {w : World} {g : Nat} {ty : TypeId} {a0 a1 : Value} (h : Blk w g ty #[a0, a1]) (v0 v1 : Value) : Blk ((w.setCell ⟨g, 0, none⟩ v0).setCell ⟨g, 1, none⟩ v1) g ty #[v0, v1] := by
  have := ((h.set_ 0 v0).set_ 1 v1)
  simpa using this
def F2 (g1 base : Nat) : Tmp → Value → World → Prop
  | 1, v, _ => v = .pointer (some ⟨g1, 0, none⟩)
  | 17, v, _ => v = .agg (ctC leafC).toArray
  | 18, v, _ => v = .agg #[Value.int .i64 1, Value.string ⟨#[114, 111, 111, 116]⟩, Value.string ⟨#[114, 111, 111, 116]⟩, Value.int .i64 0, Value.int .i64 1000, Value.bool true, Value.int .u64 7, Value.int .u64 12217286180542865105]
  | 19, v, _ => v = .tuple #[.agg #[Value.int .i64 2, Value.string ⟨#[108, 101, 97, 102]⟩, Value.string ⟨#[114, 111, 111, 116]⟩, Value.int .i64 10, Value.int .i64 500, Value.bool false, Value.int .u64 9, Value.int .u64 5033556202336685493], .int .i64 0]
  | 16, v, _ => v = .tuple #[.agg #[Value.int .i64 2, Value.string ⟨#[108, 101, 97, 102]⟩, Value.string ⟨#[114, 111, 111, 116]⟩, Value.int .i64 10, Value.int .i64 500, Value.bool false, Value.int .u64 9, Value.int .u64 5033556202336685493], .int .i64 0]
  | 20, v, _ => v = .agg #[Value.int .i64 2, Value.string ⟨#[108, 101, 97, 102]⟩, Value.string ⟨#[114, 111, 111, 116]⟩, Value.int .i64 10, Value.int .i64 500, Value.bool false, Value.int .u64 9, Value.int .u64 5033556202336685493]
  | 21, v, _ => v = .int .i64 0
  | 4, v, _ => v = .int .i64 0
  | 3, v, w => Var 52 8 base v w
  | _, _, _ => True
def G2 (base : Nat) : Tmp → Value → World → Prop
  | 3, v, w => VarIs 52 base #[Value.int .i64 2, Value.string ⟨#[108, 101, 97, 102]⟩, Value.string ⟨#[114, 111, 111, 116]⟩, Value.int .i64 10, Value.int .i64 500, Value.bool false, Value.int .u64 9, Value.int .u64 5033556202336685493] v w
  | _, _, _ => True
def F5 (g1 base : Nat) : Tmp → Value → World → Prop
  | 1, v, _ => v = .pointer (some ⟨g1, 0, none⟩)
  | 38, v, _ => v = .agg #[Value.int .i64 1, Value.string ⟨#[114, 111, 111, 116]⟩, Value.string ⟨#[114, 111, 111, 116]⟩, Value.int .i64 0, Value.int .i64 1000, Value.bool true, Value.int .u64 7, Value.int .u64 12217286180542865105]
  | 41, v, _ => v = .agg #[Value.int .i64 1, Value.string ⟨#[114, 111, 111, 116]⟩, Value.string ⟨#[114, 111, 111, 116]⟩, Value.int .i64 0, Value.int .i64 1000, Value.bool true, Value.int .u64 7, Value.int .u64 12217286180542865105]
  | 39, v, w => LitIs 52 base 1 #[Value.int .i64 1, Value.string ⟨#[114, 111, 111, 116]⟩, Value.string ⟨#[114, 111, 111, 116]⟩, Value.int .i64 0, Value.int .i64 1000, Value.bool true, Value.int .u64 7, Value.int .u64 12217286180542865105] v w
  | 42, v, w => LitIs 52 base 1 #[Value.int .i64 1, Value.string ⟨#[114, 111, 111, 116]⟩, Value.string ⟨#[114, 111, 111, 116]⟩, Value.int .i64 0, Value.int .i64 1000, Value.bool true, Value.int .u64 7, Value.int .u64 12217286180542865105] v w
  | 43, v, w => LitIs 3 base 1 #[.int .i64 2] v w
  | 40, v, w => ∃ s, v = .agg #[s, .slice none 0 0] ∧ LitIs 52 base 1 #[Value.int .i64 1, Value.string ⟨#[114, 111, 111, 116]⟩, Value.string ⟨#[114, 111, 111, 116]⟩, Value.int .i64 0, Value.int .i64 1000, Value.bool true, Value.int .u64 7, Value.int .u64 12217286180542865105] s w
  | 44, v, w => ∃ s r, v = .agg #[s, r] ∧ LitIs 52 base 1 #[Value.int .i64 1, Value.string ⟨#[114, 111, 111, 116]⟩, Value.string ⟨#[114, 111, 111, 116]⟩, Value.int .i64 0, Value.int .i64 1000, Value.bool true, Value.int .u64 7, Value.int .u64 12217286180542865105] s w ∧ LitIs 3 base 1 #[.int .i64 2] r w
  | 5, v, w => Var 59 2 base v w
  | 6, v, w => Var 59 2 base v w
  | _, _, _ => True
def G5 (base : Nat) : Tmp → Value → World → Prop
  | 5, v, w => ∃ s, LitIs 52 base 1 #[Value.int .i64 1, Value.string ⟨#[114, 111, 111, 116]⟩, Value.string ⟨#[114, 111, 111, 116]⟩, Value.int .i64 0, Value.int .i64 1000, Value.bool true, Value.int .u64 7, Value.int .u64 12217286180542865105] s w ∧ VarIs 59 base #[s, .slice none 0 0] v w
  | 6, v, w => ∃ s r, LitIs 52 base 1 #[Value.int .i64 1, Value.string ⟨#[114, 111, 111, 116]⟩, Value.string ⟨#[114, 111, 111, 116]⟩, Value.int .i64 0, Value.int .i64 1000, Value.bool true, Value.int .u64 7, Value.int .u64 12217286180542865105] s w ∧ LitIs 3 base 1 #[.int .i64 2] r w ∧ VarIs 59 base #[s, r] v w
  | _, _, _ => True
def Rb (a b : World) : Prop := Below a.heap.size a b
theorem F2_more {g1 base : Nat} (t : Tmp) (v : Value) (w w' : World) (hR : Rb w w') (h : F2 g1 base t v w) : F2 g1 base t v w' := by
  unfold F2 at *
  split at h <;> first | exact h | exact h.more hR
theorem F2_st {g1 base : Nat} (u : Value) (t : Tmp) (v : Value) (w w' : World) (hS : St 52 base u w w') (h : F2 g1 base t v w) : F2 g1 base t v w' := by
  unfold F2 at *
  split at h <;> first | exact h | exact h.st hS
theorem G2_more {base : Nat} (t : Tmp) (v : Value) (w w' : World) (hR : Rb w w') (h : G2 base t v w) : G2 base t v w' := by
  unfold G2 at *
  split at h <;> first | exact h | exact h.more hR
theorem G2_st {base : Nat} (u : Value) (t : Tmp) (v : Value) (w w' : World) (hS : St 52 base u w w') (hne : v ≠ u) (h : G2 base t v w) : G2 base t v w' := by
  unfold G2 at *
  split at h <;> first | exact h | exact h.st hS hne
theorem F5_more {g1 base : Nat} (t : Tmp) (v : Value) (w w' : World) (hR : Rb w w') (h : F5 g1 base t v w) : F5 g1 base t v w' := by
  unfold F5 at *
  split at h
  all_goals first | exact h | exact Var.more h hR | exact LitIs.more h hR | (obtain ⟨s, e, h⟩ := h; exact ⟨s, e, h.more hR⟩) | (obtain ⟨s, r, e, h, h2⟩ := h; exact ⟨s, r, e, h.more hR, h2.more hR⟩)
theorem F5_st {g1 base : Nat} (u : Value) (t : Tmp) (v : Value) (w w' : World) (hS : St 59 base u w w') (h : F5 g1 base t v w) : F5 g1 base t v w' := by
  unfold F5 at *
  split at h
  all_goals first | exact h | exact Var.st h hS | exact LitIs.st h hS (by decide) | (obtain ⟨s, e, h⟩ := h; exact ⟨s, e, h.st hS (by decide)⟩) | (obtain ⟨s, r, e, h, h2⟩ := h; exact ⟨s, r, e, h.st hS (by decide), h2.st hS (by decide)⟩)
theorem G5_more {base : Nat} (t : Tmp) (v : Value) (w w' : World) (hR : Rb w w') (h : G5 base t v w) : G5 base t v w' := by
  unfold G5 at *
  split at h
  all_goals first | exact h | (obtain ⟨s, h, h2⟩ := h; exact ⟨s, h.more hR, h2.more hR⟩) | (obtain ⟨s, r, h, h2, h3⟩ := h; exact ⟨s, r, h.more hR, h2.more hR, h3.more hR⟩)
theorem G5_st {base : Nat} (u : Value) (t : Tmp) (v : Value) (w w' : World) (hS : St 59 base u w w') (hne : v ≠ u) (h : G5 base t v w) : G5 base t v w' := by
  unfold G5 at *
  split at h
  all_goals first | exact h | (obtain ⟨s, h, h2⟩ := h; exact ⟨s, h.st hS (by decide), h2.st hS hne⟩) | (obtain ⟨s, r, h, h2, h3⟩ := h; exact ⟨s, r, h.st hS (by decide), h2.st hS (by decide), h3.st hS hne⟩)
theorem ver_ex {w : World} {gx ga : Nat} (c : Ct) (now : Int) (hx : Blk w gx 52 (ctC c).toArray) (ha : Blk w ga 52 (ctC rI).toArray) (hk : CtOk c) :
    Calls Try.prog 59 #[.slice (some ⟨gx, 0, none⟩) 1 1, .agg #[.slice (some ⟨ga, 0, none⟩) 1 1, .slice none 0 0], .int .i64 now] w fun e w' => e = .returned (.int .i64 (verR [c] [rI] [] now)) ∧ Below w.heap.size w w' :=
  verify_any _ _ _ 1 1 0 1 1 0 [c] [rI] [] now w (lat_blk ctC_len hx [c] 1 rfl (by simp [flat])) (lat_blk ctC_len ha [rI] 1 rfl (by simp [flat])) (LAt.nil iC_len _ _) (by decide) (by decide) (by decide) (by simpa using hk)
theorem ver_ex2 {w : World} {gx ga gc : Nat} (c : Ct) (now : Int) (hx : Blk w gx 52 (ctC c).toArray) (ha : Blk w ga 52 (ctC rI).toArray) (hc : Blk w gc 3 #[.int .i64 2]) (hk : CtOk c) :
    Calls Try.prog 59 #[.slice (some ⟨gx, 0, none⟩) 1 1, .agg #[.slice (some ⟨ga, 0, none⟩) 1 1, .slice (some ⟨gc, 0, none⟩) 1 1], .int .i64 now] w fun e w' => e = .returned (.int .i64 (verR [c] [rI] [2] now)) ∧ Below w.heap.size w w' :=
  verify_any _ _ _ 1 1 1 1 1 1 [c] [rI] [2] now w (lat_blk ctC_len hx [c] 1 rfl (by simp [flat])) (lat_blk ctC_len ha [rI] 1 rfl (by simp [flat])) (lat_blk iC_len hc [2] 1 rfl (by simp [flat, iC])) (by decide) (by decide) (by decide) (by simpa using hk)
theorem ver_ex0 {w : World} {ga : Nat} (now : Int) (ha : Blk w ga 52 (ctC rI).toArray) :
    Calls Try.prog 59 #[.slice none 0 0, .agg #[.slice (some ⟨ga, 0, none⟩) 1 1, .slice none 0 0], .int .i64 now] w fun e w' => e = .returned (.int .i64 (verR [] [rI] [] now)) ∧ Below w.heap.size w w' :=
  verify_any _ _ _ 0 1 0 0 1 0 [] [rI] [] now w (LAt.nil ctC_len _ _) (lat_blk ctC_len ha [rI] 1 rfl (by simp [flat])) (LAt.nil iC_len _ _) (by decide) (by decide) (by decide) (by simp)
set_option maxRecDepth 100000 in
set_option maxHeartbeats 8000000 in
theorem awake_any (w : World) : Calls Try.prog 51 #[] w fun e w' => e = .returned (.bool true) ∧ Below w.heap.size w w' := by
  go_enter Try.func51, Try.ntmps51
  go_wp2_with fail
  refine (rootC_any _).mono ?_; rintro e w1 ⟨rfl, hq⟩
  have hb := Lib.hid hq
  clear hq
  go_wp2_with fail
  refine (root_ex _).mono ?_; rintro e w2 ⟨rfl, hq⟩
  have hb : Hid (Below w.heap.size w w2) := hb.out.trans (hq.mono hb.out.size)
  clear hq
  go_wp2_with fail
  have p1 := Lib.hid (Blk.new w2 52 #[Value.int .i64 1, Value.string ⟨#[114, 111, 111, 116]⟩, Value.string ⟨#[114, 111, 111, 116]⟩, Value.int .i64 0, Value.int .i64 1000, Value.bool true, Value.int .u64 7, Value.int .u64 12217286180542865105])
  have hb : Hid (Below w.heap.size w (w2.alloc (.cells #[Value.int .i64 1, Value.string ⟨#[114, 111, 111, 116]⟩, Value.string ⟨#[114, 111, 111, 116]⟩, Value.int .i64 0, Value.int .i64 1000, Value.bool true, Value.int .u64 7, Value.int .u64 12217286180542865105] 52))) := below_new hb.out _
  generalize hw3 : w2.alloc (.cells #[Value.int .i64 1, Value.string ⟨#[114, 111, 111, 116]⟩, Value.string ⟨#[114, 111, 111, 116]⟩, Value.int .i64 0, Value.int .i64 1000, Value.bool true, Value.int .u64 7, Value.int .u64 12217286180542865105] 52) = w3 at *
  generalize w2.heap.size = g1 at *
  clear hw3
  refine RJ.region [3] (F := F2 g1 w3.heap.size) (W := fun wz => Below w3.heap.size w3 wz) (R := Rb) (S := St 52 w3.heap.size) (G := G2 w3.heap.size) rfl F2_more G2_more F2_st G2_st (by kernel_rfl) (by kernel_rfl) (by kernel_rfl) (by kernel_rfl) (by kernel_rfl) ?_ ?_ ?_ ?_
  · exact (Below.refl _ _).drew
  · intro t ht
    unfold F2
    split <;> first | trivial | exact rfl | (exact absurd ht (by decide))
  · have hcell : Hid (∀ wz, Below w3.heap.size w3 wz → wz.cell? ⟨g1, 0, none⟩ = some (Value.int .i64 1) ∧ wz.cell? ⟨g1, 1, none⟩ = some (Value.string ⟨#[114, 111, 111, 116]⟩) ∧ wz.cell? ⟨g1, 2, none⟩ = some (Value.string ⟨#[114, 111, 111, 116]⟩) ∧ wz.cell? ⟨g1, 3, none⟩ = some (Value.int .i64 0) ∧ wz.cell? ⟨g1, 4, none⟩ = some (Value.int .i64 1000) ∧ wz.cell? ⟨g1, 5, none⟩ = some (Value.bool true) ∧ wz.cell? ⟨g1, 6, none⟩ = some (Value.int .u64 7) ∧ wz.cell? ⟨g1, 7, none⟩ = some (Value.int .u64 12217286180542865105)) := fun wz h => by
      have q := p1.out.below h p1.out.lt
      exact ⟨q.cell 0, q.cell 1, q.cell 2, q.cell 3, q.cell 4, q.cell 5, q.cell 6, q.cell 7⟩
    simp only [List.forall_mem_cons, List.not_mem_nil, false_implies, implies_true, and_true]
    refine ⟨?_, ?_, ?_, ?_, ?_, ?_, ?_, ?_, ?_⟩
    · intro a w2 hw hf K hK
      clear hf
      go_simp
      refine (leafC_any w2).mono ?_; rintro e w5 ⟨rfl, hb⟩
      exact hK _ _ _ rfl rfl (hw.trans (hb.mono hw.size)) hb (fun h => absurd h (by decide))
    · intro a w2 hw hf K hK
      have f0 := hf 1 rfl
      simp only [F2] at f0
      clear hf
      obtain ⟨c0, c1, c2, c3, c4, c5, c6, c7⟩ := hcell.out w2 hw
      go_simp
      exact hK _ _ _ rfl rfl hw (Below.refl _ _) (fun h => absurd h (by decide))
    · intro a w2 hw hf K hK
      have f0 := hf 17 rfl
      have f1 := hf 18 rfl
      simp only [F2] at f0 f1
      clear hf
      go_simp
      refine (iss_ex w2).mono ?_; rintro e w5 ⟨rfl, hb⟩
      exact hK _ _ _ rfl rfl (hw.trans (hb.mono hw.size)) hb (fun h => absurd h (by decide))
    · intro a w2 hw hf K hK
      have f0 := hf 19 rfl
      simp only [F2] at f0
      clear hf
      go_simp
      exact hK _ _ _ rfl rfl hw (Below.refl _ _) (fun h => absurd h (by decide))
    · intro a w2 hw hf K hK
      have f0 := hf 16 rfl
      simp only [F2] at f0
      clear hf
      go_simp
      exact hK _ _ _ rfl rfl hw (Below.refl _ _) (fun h => absurd h (by decide))
    · intro a w2 hw hf K hK
      have f0 := hf 16 rfl
      simp only [F2] at f0
      clear hf
      go_simp
      exact hK _ _ _ rfl rfl hw (Below.refl _ _) (fun h => absurd h (by decide))
    · intro a w2 hw hf K hK
      clear hf
      go_simp
      refine hK _ _ _ rfl (Var.made w2 _ hw.size rfl) (below_new hw _) (a1 _ _) (fun _ t u ht hu => ?_)
      obtain rfl : t = 3 := by simpa using ht
      exact Var.fresh hu (Nat.le_refl _)
    · intro a w2 hw hf K hK
      have f0 := hf 3 rfl
      have f1 := hf 20 rfl
      simp only [F2] at f0 f1
      clear hf
      obtain ⟨g, e0, hg, cs, hbk, hn⟩ := f0
      obtain ⟨b0, b1, b2, b3, b4, b5, b6, b7, rfl⟩ := arr8 hn
      obtain ⟨k0, k1, k2, k3, k4, k5, k6, k7, z0, z1, z2, z3, z4, z5, z6, z7⟩ := (show w2.cell? ⟨g, 0, none⟩ = some b0 ∧ w2.cell? ⟨g, 1, none⟩ = some b1 ∧ w2.cell? ⟨g, 2, none⟩ = some b2 ∧ w2.cell? ⟨g, 3, none⟩ = some b3 ∧ w2.cell? ⟨g, 4, none⟩ = some b4 ∧ w2.cell? ⟨g, 5, none⟩ = some b5 ∧ w2.cell? ⟨g, 6, none⟩ = some b6 ∧ w2.cell? ⟨g, 7, none⟩ = some b7 ∧ w2.frozen? ⟨g, 0, none⟩ = false ∧ w2.frozen? ⟨g, 1, none⟩ = false ∧ w2.frozen? ⟨g, 2, none⟩ = false ∧ w2.frozen? ⟨g, 3, none⟩ = false ∧ w2.frozen? ⟨g, 4, none⟩ = false ∧ w2.frozen? ⟨g, 5, none⟩ = false ∧ w2.frozen? ⟨g, 6, none⟩ = false ∧ w2.frozen? ⟨g, 7, none⟩ = false from ⟨hbk.cell 0, hbk.cell 1, hbk.cell 2, hbk.cell 3, hbk.cell 4, hbk.cell 5, hbk.cell 6, hbk.cell 7, hbk.frozen 0, hbk.frozen 1, hbk.frozen 2, hbk.frozen 3, hbk.frozen 4, hbk.frozen 5, hbk.frozen 6, hbk.frozen 7⟩)
      replace hbk := Lib.hid hbk
      go_simp
      have hB := ct_set8 hbk.out (Value.int .i64 2) (Value.string ⟨#[108, 101, 97, 102]⟩) (Value.string ⟨#[114, 111, 111, 116]⟩) (Value.int .i64 10) (Value.int .i64 500) (Value.bool false) (Value.int .u64 9) (Value.int .u64 5033556202336685493)
      have hS : St 52 w3.heap.size (.pointer (some ⟨g, 0, none⟩)) w2 _ := ⟨g, _, _, rfl, hg, (only_set (only_set (only_set (only_set (only_set (only_set (only_set (only_set (World.grownBy.refl _ _) 0 _) 1 _) 2 _) 3 _) 4 _) 5 _) 6 _) 7 _), hbk.out, hB, rfl⟩
      refine hK undef _ (hS.below hw (Nat.le_refl _)) ?_ ?_
      · show St _ _ (a.tmps[3]?.getD undef) _ _; rw [e0]; exact hS
      · show VarIs _ _ _ (a.tmps[3]?.getD undef) _; rw [e0]; exact ⟨g, rfl, hg, hB⟩
    · intro a w2 hw hf K hK
      have f0 := hf 21 rfl
      simp only [F2] at f0
      clear hf
      go_simp
      exact hK _ _ _ rfl rfl hw (Below.refl _ _) (fun h => absurd h (by decide))
  · intro a' w4 hd hs hw hout hf hg
    simp only [List.forall_mem_cons] at hg
    have f3 : VarIs 52 w3.heap.size #[Value.int .i64 2, Value.string ⟨#[108, 101, 97, 102]⟩, Value.string ⟨#[114, 111, 111, 116]⟩, Value.int .i64 10, Value.int .i64 500, Value.bool false, Value.int .u64 9, Value.int .u64 5033556202336685493] (a'.tmps[3]?.getD undef) w4 := hg.2.2.2.2.2.2.2.1 trivial
    have f4 := hf 4
    simp only [F2] at f4
    have e0 : _ = some (Value.bool false) := hout 0 rfl
    have e1 : _ = some (Value.pointer (some ⟨g1, 0, none⟩)) := hout 1 rfl
    have e2 : _ = some (Value.int .i64 0) := hout 2 rfl
    obtain ⟨tm, df⟩ := a'
    simp only at hd hs f3 f4 e0 e1 e2
    have e := lit_arr tm 92 hs
    rw [show (List.range 92).map (fun i => tm[i]?.getD undef) = [tm[0]?.getD undef, tm[1]?.getD undef, tm[2]?.getD undef, tm[3]?.getD undef, tm[4]?.getD undef, tm[5]?.getD undef, tm[6]?.getD undef, tm[7]?.getD undef, tm[8]?.getD undef, tm[9]?.getD undef, tm[10]?.getD undef, tm[11]?.getD undef, tm[12]?.getD undef, tm[13]?.getD undef, tm[14]?.getD undef, tm[15]?.getD undef, tm[16]?.getD undef, tm[17]?.getD undef, tm[18]?.getD undef, tm[19]?.getD undef, tm[20]?.getD undef, tm[21]?.getD undef, tm[22]?.getD undef, tm[23]?.getD undef, tm[24]?.getD undef, tm[25]?.getD undef, tm[26]?.getD undef, tm[27]?.getD undef, tm[28]?.getD undef, tm[29]?.getD undef, tm[30]?.getD undef, tm[31]?.getD undef, tm[32]?.getD undef, tm[33]?.getD undef, tm[34]?.getD undef, tm[35]?.getD undef, tm[36]?.getD undef, tm[37]?.getD undef, tm[38]?.getD undef, tm[39]?.getD undef, tm[40]?.getD undef, tm[41]?.getD undef, tm[42]?.getD undef, tm[43]?.getD undef, tm[44]?.getD undef, tm[45]?.getD undef, tm[46]?.getD undef, tm[47]?.getD undef, tm[48]?.getD undef, tm[49]?.getD undef, tm[50]?.getD undef, tm[51]?.getD undef, tm[52]?.getD undef, tm[53]?.getD undef, tm[54]?.getD undef, tm[55]?.getD undef, tm[56]?.getD undef, tm[57]?.getD undef, tm[58]?.getD undef, tm[59]?.getD undef, tm[60]?.getD undef, tm[61]?.getD undef, tm[62]?.getD undef, tm[63]?.getD undef, tm[64]?.getD undef, tm[65]?.getD undef, tm[66]?.getD undef, tm[67]?.getD undef, tm[68]?.getD undef, tm[69]?.getD undef, tm[70]?.getD undef, tm[71]?.getD undef, tm[72]?.getD undef, tm[73]?.getD undef, tm[74]?.getD undef, tm[75]?.getD undef, tm[76]?.getD undef, tm[77]?.getD undef, tm[78]?.getD undef, tm[79]?.getD undef, tm[80]?.getD undef, tm[81]?.getD undef, tm[82]?.getD undef, tm[83]?.getD undef, tm[84]?.getD undef, tm[85]?.getD undef, tm[86]?.getD undef, tm[87]?.getD undef, tm[88]?.getD undef, tm[89]?.getD undef, tm[90]?.getD undef, tm[91]?.getD undef] from rfl] at e
    simp only [e0, e1, e2, f4, Option.getD_some] at e
    clear hf hout hs hg
    obtain ⟨g3, f3, hg3, p3⟩ := f3
    rw [f3] at e
    rw [e, hd]
    clear e hd f3 f4 e0 e1 e2
    generalize tm[5]?.getD undef = x5
    generalize tm[6]?.getD undef = x6
    generalize tm[7]?.getD undef = x7
    generalize tm[8]?.getD undef = x8
    generalize tm[9]?.getD undef = x9
    generalize tm[10]?.getD undef = x10
    generalize tm[11]?.getD undef = x11
    generalize tm[12]?.getD undef = x12
    generalize tm[13]?.getD undef = x13
    generalize tm[14]?.getD undef = x14
    generalize tm[15]?.getD undef = x15
    generalize tm[16]?.getD undef = x16
    generalize tm[17]?.getD undef = x17
    generalize tm[18]?.getD undef = x18
    generalize tm[19]?.getD undef = x19
    generalize tm[20]?.getD undef = x20
    generalize tm[21]?.getD undef = x21
    generalize tm[22]?.getD undef = x22
    generalize tm[23]?.getD undef = x23
    generalize tm[24]?.getD undef = x24
    generalize tm[25]?.getD undef = x25
    generalize tm[26]?.getD undef = x26
    generalize tm[27]?.getD undef = x27
    generalize tm[28]?.getD undef = x28
    generalize tm[29]?.getD undef = x29
    generalize tm[30]?.getD undef = x30
    generalize tm[31]?.getD undef = x31
    generalize tm[32]?.getD undef = x32
    generalize tm[33]?.getD undef = x33
    generalize tm[34]?.getD undef = x34
    generalize tm[35]?.getD undef = x35
    generalize tm[36]?.getD undef = x36
    generalize tm[37]?.getD undef = x37
    generalize tm[38]?.getD undef = x38
    generalize tm[39]?.getD undef = x39
    generalize tm[40]?.getD undef = x40
    generalize tm[41]?.getD undef = x41
    generalize tm[42]?.getD undef = x42
    generalize tm[43]?.getD undef = x43
    generalize tm[44]?.getD undef = x44
    generalize tm[45]?.getD undef = x45
    generalize tm[46]?.getD undef = x46
    generalize tm[47]?.getD undef = x47
    generalize tm[48]?.getD undef = x48
    generalize tm[49]?.getD undef = x49
    generalize tm[50]?.getD undef = x50
    generalize tm[51]?.getD undef = x51
    generalize tm[52]?.getD undef = x52
    generalize tm[53]?.getD undef = x53
    generalize tm[54]?.getD undef = x54
    generalize tm[55]?.getD undef = x55
    generalize tm[56]?.getD undef = x56
    generalize tm[57]?.getD undef = x57
    generalize tm[58]?.getD undef = x58
    generalize tm[59]?.getD undef = x59
    generalize tm[60]?.getD undef = x60
    generalize tm[61]?.getD undef = x61
    generalize tm[62]?.getD undef = x62
    generalize tm[63]?.getD undef = x63
    generalize tm[64]?.getD undef = x64
    generalize tm[65]?.getD undef = x65
    generalize tm[66]?.getD undef = x66
    generalize tm[67]?.getD undef = x67
    generalize tm[68]?.getD undef = x68
    generalize tm[69]?.getD undef = x69
    generalize tm[70]?.getD undef = x70
    generalize tm[71]?.getD undef = x71
    generalize tm[72]?.getD undef = x72
    generalize tm[73]?.getD undef = x73
    generalize tm[74]?.getD undef = x74
    generalize tm[75]?.getD undef = x75
    generalize tm[76]?.getD undef = x76
    generalize tm[77]?.getD undef = x77
    generalize tm[78]?.getD undef = x78
    generalize tm[79]?.getD undef = x79
    generalize tm[80]?.getD undef = x80
    generalize tm[81]?.getD undef = x81
    generalize tm[82]?.getD undef = x82
    generalize tm[83]?.getD undef = x83
    generalize tm[84]?.getD undef = x84
    generalize tm[85]?.getD undef = x85
    generalize tm[86]?.getD undef = x86
    generalize tm[87]?.getD undef = x87
    generalize tm[88]?.getD undef = x88
    generalize tm[89]?.getD undef = x89
    generalize tm[90]?.getD undef = x90
    generalize tm[91]?.getD undef = x91
    have p1 := Lib.hid (p1.out.below hw p1.out.lt)
    replace p3 := Lib.hid p3
    have hb := Lib.hid (hb.out.trans (hw.mono hb.out.size))
    clear hw hg3
    obtain ⟨k0, k1, k2, k3, k4, k5, k6, k7, c0, c1, c2, c3, c4, c5, c6, c7⟩ := (show w4.cell? ⟨g1, 0, none⟩ = some (Value.int .i64 1) ∧ w4.cell? ⟨g1, 1, none⟩ = some (Value.string ⟨#[114, 111, 111, 116]⟩) ∧ w4.cell? ⟨g1, 2, none⟩ = some (Value.string ⟨#[114, 111, 111, 116]⟩) ∧ w4.cell? ⟨g1, 3, none⟩ = some (Value.int .i64 0) ∧ w4.cell? ⟨g1, 4, none⟩ = some (Value.int .i64 1000) ∧ w4.cell? ⟨g1, 5, none⟩ = some (Value.bool true) ∧ w4.cell? ⟨g1, 6, none⟩ = some (Value.int .u64 7) ∧ w4.cell? ⟨g1, 7, none⟩ = some (Value.int .u64 12217286180542865105) ∧ w4.cell? ⟨g3, 0, none⟩ = some (Value.int .i64 2) ∧ w4.cell? ⟨g3, 1, none⟩ = some (Value.string ⟨#[108, 101, 97, 102]⟩) ∧ w4.cell? ⟨g3, 2, none⟩ = some (Value.string ⟨#[114, 111, 111, 116]⟩) ∧ w4.cell? ⟨g3, 3, none⟩ = some (Value.int .i64 10) ∧ w4.cell? ⟨g3, 4, none⟩ = some (Value.int .i64 500) ∧ w4.cell? ⟨g3, 5, none⟩ = some (Value.bool false) ∧ w4.cell? ⟨g3, 6, none⟩ = some (Value.int .u64 9) ∧ w4.cell? ⟨g3, 7, none⟩ = some (Value.int .u64 5033556202336685493) from ⟨p1.out.cell 0, p1.out.cell 1, p1.out.cell 2, p1.out.cell 3, p1.out.cell 4, p1.out.cell 5, p1.out.cell 6, p1.out.cell 7, p3.out.cell 0, p3.out.cell 1, p3.out.cell 2, p3.out.cell 3, p3.out.cell 4, p3.out.cell 5, p3.out.cell 6, p3.out.cell 7⟩)
    go_wp2_with fail
    clear k0 k1 k2 k3 k4 k5 k6 k7 c0 c1 c2 c3 c4 c5 c6 c7
    refine RJ.region [5, 6] (F := F5 g1 w4.heap.size) (W := fun wz => Below w4.heap.size w4 wz) (R := Rb) (S := St 59 w4.heap.size) (G := G5 w4.heap.size) rfl F5_more G5_more F5_st G5_st (by kernel_rfl) (by kernel_rfl) (by kernel_rfl) (by kernel_rfl) (by kernel_rfl) ?_ ?_ ?_ ?_
    · exact (Below.refl _ _).drew
    · intro t ht
      unfold F5
      split <;> first | trivial | exact rfl | (exact absurd ht (by decide))
    · have hcell : Hid (∀ wz, Below w4.heap.size w4 wz → wz.cell? ⟨g1, 0, none⟩ = some (Value.int .i64 1) ∧ wz.cell? ⟨g1, 1, none⟩ = some (Value.string ⟨#[114, 111, 111, 116]⟩) ∧ wz.cell? ⟨g1, 2, none⟩ = some (Value.string ⟨#[114, 111, 111, 116]⟩) ∧ wz.cell? ⟨g1, 3, none⟩ = some (Value.int .i64 0) ∧ wz.cell? ⟨g1, 4, none⟩ = some (Value.int .i64 1000) ∧ wz.cell? ⟨g1, 5, none⟩ = some (Value.bool true) ∧ wz.cell? ⟨g1, 6, none⟩ = some (Value.int .u64 7) ∧ wz.cell? ⟨g1, 7, none⟩ = some (Value.int .u64 12217286180542865105)) := fun wz h => by
        have q := p1.out.below h p1.out.lt
        exact ⟨q.cell 0, q.cell 1, q.cell 2, q.cell 3, q.cell 4, q.cell 5, q.cell 6, q.cell 7⟩
      simp only [List.forall_mem_cons, List.not_mem_nil, false_implies, implies_true, and_true]
      refine ⟨?_, ?_, ?_, ?_, ?_, ?_, ?_, ?_, ?_, ?_, ?_⟩
      · intro a w2 hw hf K hK
        have f0 := hf 1 rfl
        simp only [F5] at f0
        clear hf
        obtain ⟨c0, c1, c2, c3, c4, c5, c6, c7⟩ := hcell.out w2 hw
        go_simp
        exact hK _ _ _ rfl rfl hw (Below.refl _ _) (fun h => absurd h (by decide))
      · intro a w2 hw hf K hK
        have f0 := hf 38 rfl
        simp only [F5] at f0
        clear hf
        go_simp
        exact hK _ _ _ rfl (LitIs.made w2 _ hw.size 1) (below_new hw _) (a1 _ _) (fun h => absurd h (by decide))
      · intro a w2 hw hf K hK
        have f0 := hf 39 rfl
        simp only [F5] at f0
        clear hf
        have h39 := f0
        obtain ⟨g, f0, hg, hbk⟩ := f0
        rw [f0] at h39
        replace hbk := Lib.hid hbk
        replace h39 := Lib.hid h39
        go_simp
        exact hK _ _ _ rfl ⟨_, rfl, h39.out⟩ hw (Below.refl _ _) (fun h => absurd h (by decide))
      · intro a w2 hw hf K hK
        have f0 := hf 1 rfl
        simp only [F5] at f0
        clear hf
        obtain ⟨c0, c1, c2, c3, c4, c5, c6, c7⟩ := hcell.out w2 hw
        go_simp
        exact hK _ _ _ rfl rfl hw (Below.refl _ _) (fun h => absurd h (by decide))
      · intro a w2 hw hf K hK
        have f0 := hf 41 rfl
        simp only [F5] at f0
        clear hf
        go_simp
        exact hK _ _ _ rfl (LitIs.made w2 _ hw.size 1) (below_new hw _) (a1 _ _) (fun h => absurd h (by decide))
      · intro a w2 hw hf K hK
        clear hf
        go_simp
        exact hK _ _ _ rfl (LitIs.made w2 _ hw.size 1) (below_new hw _) (a1 _ _) (fun h => absurd h (by decide))
      · intro a w2 hw hf K hK
        have f0 := hf 42 rfl
        have f1 := hf 43 rfl
        simp only [F5] at f0 f1
        clear hf
        have h42 := f0
        have h43 := f1
        obtain ⟨g, f0, hg, hbk⟩ := f0
        obtain ⟨g', f1, hg', hbk'⟩ := f1
        rw [f0] at h42
        rw [f1] at h43
        replace hbk := Lib.hid hbk
        replace hbk' := Lib.hid hbk'
        replace h42 := Lib.hid h42
        replace h43 := Lib.hid h43
        go_simp
        exact hK _ _ _ rfl ⟨_, _, rfl, h42.out, h43.out⟩ hw (Below.refl _ _) (fun h => absurd h (by decide))
      · intro a w2 hw hf K hK
        clear hf
        go_simp
        refine hK _ _ _ rfl (Var.made w2 _ hw.size rfl) (below_new hw _) (a1 _ _) (fun _ t u ht hu => ?_)
        have ht : t = 5 ∨ t = 6 := by simpa using ht
        rcases ht with rfl | rfl
        · exact Var.fresh hu (Nat.le_refl _)
        · exact Var.fresh hu (Nat.le_refl _)
      · intro a w2 hw hf K hK
        clear hf
        go_simp
        refine hK _ _ _ rfl (Var.made w2 _ hw.size rfl) (below_new hw _) (a1 _ _) (fun _ t u ht hu => ?_)
        have ht : t = 5 ∨ t = 6 := by simpa using ht
        rcases ht with rfl | rfl
        · exact Var.fresh hu (Nat.le_refl _)
        · exact Var.fresh hu (Nat.le_refl _)
      · intro a w2 hw hf K hK
        have f0 := hf 5 rfl
        have f1 := hf 40 rfl
        simp only [F5] at f0 f1
        clear hf
        obtain ⟨s, f1, hl⟩ := f1
        have hx := hl
        obtain ⟨ga, rfl, hga, pa⟩ := hx
        replace pa := Lib.hid pa
        replace hl := Lib.hid hl
        obtain ⟨g, e0, hg, cs, hbk, hn⟩ := f0
        obtain ⟨b0, b1, rfl⟩ := arr2 hn
        obtain ⟨k0, k1, z0, z1⟩ := (show w2.cell? ⟨g, 0, none⟩ = some b0 ∧ w2.cell? ⟨g, 1, none⟩ = some b1 ∧ w2.frozen? ⟨g, 0, none⟩ = false ∧ w2.frozen? ⟨g, 1, none⟩ = false from ⟨hbk.cell 0, hbk.cell 1, hbk.frozen 0, hbk.frozen 1⟩)
        replace hbk := Lib.hid hbk
        go_simp
        have hB := blk_set2 hbk.out (.slice (some ⟨ga, 0, none⟩) 1 1) (.slice none 0 0)
        have hS : St 59 w4.heap.size (.pointer (some ⟨g, 0, none⟩)) w2 _ := ⟨g, _, _, rfl, hg, (only_set (only_set (World.grownBy.refl _ _) 0 _) 1 _), hbk.out, hB, rfl⟩
        refine hK undef _ (hS.below hw (Nat.le_refl _)) ?_ ?_
        · show St _ _ (a.tmps[5]?.getD undef) _ _; rw [e0]; exact hS
        · show G5 _ 5 (a.tmps[5]?.getD undef) _; rw [e0]; exact ⟨_, hl.out.st hS (by decide), ⟨g, rfl, hg, hB⟩⟩
      · intro a w2 hw hf K hK
        have f0 := hf 6 rfl
        have f1 := hf 44 rfl
        simp only [F5] at f0 f1
        clear hf
        obtain ⟨s, r, f1, hl, hl2⟩ := f1
        have hx := hl
        have hy := hl2
        obtain ⟨ga, rfl, hga, pa⟩ := hx
        obtain ⟨gb, rfl, hgb, pb⟩ := hy
        replace pa := Lib.hid pa
        replace pb := Lib.hid pb
        replace hl := Lib.hid hl
        replace hl2 := Lib.hid hl2
        obtain ⟨g, e0, hg, cs, hbk, hn⟩ := f0
        obtain ⟨b0, b1, rfl⟩ := arr2 hn
        obtain ⟨k0, k1, z0, z1⟩ := (show w2.cell? ⟨g, 0, none⟩ = some b0 ∧ w2.cell? ⟨g, 1, none⟩ = some b1 ∧ w2.frozen? ⟨g, 0, none⟩ = false ∧ w2.frozen? ⟨g, 1, none⟩ = false from ⟨hbk.cell 0, hbk.cell 1, hbk.frozen 0, hbk.frozen 1⟩)
        replace hbk := Lib.hid hbk
        go_simp
        have hB := blk_set2 hbk.out (.slice (some ⟨ga, 0, none⟩) 1 1) (.slice (some ⟨gb, 0, none⟩) 1 1)
        have hS : St 59 w4.heap.size (.pointer (some ⟨g, 0, none⟩)) w2 _ := ⟨g, _, _, rfl, hg, (only_set (only_set (World.grownBy.refl _ _) 0 _) 1 _), hbk.out, hB, rfl⟩
        refine hK undef _ (hS.below hw (Nat.le_refl _)) ?_ ?_
        · show St _ _ (a.tmps[6]?.getD undef) _ _; rw [e0]; exact hS
        · show G5 _ 6 (a.tmps[6]?.getD undef) _; rw [e0]; exact ⟨_, _, hl.out.st hS (by decide), hl2.out.st hS (by decide), ⟨g, rfl, hg, hB⟩⟩
    · intro a' w5 hd hs hw hout hf hg
      simp only [List.forall_mem_cons] at hg
      have f5 : G5 w4.heap.size 5 (a'.tmps[5]?.getD undef) w5 := hg.2.2.2.2.2.2.2.2.2.1 trivial
      have f6 : G5 w4.heap.size 6 (a'.tmps[6]?.getD undef) w5 := hg.2.2.2.2.2.2.2.2.2.2.1 trivial
      simp only [G5] at f5 f6
      have e0 : _ = some (Value.bool false) := hout 0 rfl
      have e1 : _ = some (Value.pointer (some ⟨g1, 0, none⟩)) := hout 1 rfl
      have e2 : _ = some (Value.int .i64 0) := hout 2 rfl
      have e3 : _ = some (Value.pointer (some ⟨g3, 0, none⟩)) := hout 3 rfl
      have e4 : _ = some (Value.int .i64 0) := hout 4 rfl
      obtain ⟨tm, df⟩ := a'
      simp only at hd hs f5 f6 e0 e1 e2 e3 e4
      have e := lit_arr tm 92 hs
      rw [show (List.range 92).map (fun i => tm[i]?.getD undef) = [tm[0]?.getD undef, tm[1]?.getD undef, tm[2]?.getD undef, tm[3]?.getD undef, tm[4]?.getD undef, tm[5]?.getD undef, tm[6]?.getD undef, tm[7]?.getD undef, tm[8]?.getD undef, tm[9]?.getD undef, tm[10]?.getD undef, tm[11]?.getD undef, tm[12]?.getD undef, tm[13]?.getD undef, tm[14]?.getD undef, tm[15]?.getD undef, tm[16]?.getD undef, tm[17]?.getD undef, tm[18]?.getD undef, tm[19]?.getD undef, tm[20]?.getD undef, tm[21]?.getD undef, tm[22]?.getD undef, tm[23]?.getD undef, tm[24]?.getD undef, tm[25]?.getD undef, tm[26]?.getD undef, tm[27]?.getD undef, tm[28]?.getD undef, tm[29]?.getD undef, tm[30]?.getD undef, tm[31]?.getD undef, tm[32]?.getD undef, tm[33]?.getD undef, tm[34]?.getD undef, tm[35]?.getD undef, tm[36]?.getD undef, tm[37]?.getD undef, tm[38]?.getD undef, tm[39]?.getD undef, tm[40]?.getD undef, tm[41]?.getD undef, tm[42]?.getD undef, tm[43]?.getD undef, tm[44]?.getD undef, tm[45]?.getD undef, tm[46]?.getD undef, tm[47]?.getD undef, tm[48]?.getD undef, tm[49]?.getD undef, tm[50]?.getD undef, tm[51]?.getD undef, tm[52]?.getD undef, tm[53]?.getD undef, tm[54]?.getD undef, tm[55]?.getD undef, tm[56]?.getD undef, tm[57]?.getD undef, tm[58]?.getD undef, tm[59]?.getD undef, tm[60]?.getD undef, tm[61]?.getD undef, tm[62]?.getD undef, tm[63]?.getD undef, tm[64]?.getD undef, tm[65]?.getD undef, tm[66]?.getD undef, tm[67]?.getD undef, tm[68]?.getD undef, tm[69]?.getD undef, tm[70]?.getD undef, tm[71]?.getD undef, tm[72]?.getD undef, tm[73]?.getD undef, tm[74]?.getD undef, tm[75]?.getD undef, tm[76]?.getD undef, tm[77]?.getD undef, tm[78]?.getD undef, tm[79]?.getD undef, tm[80]?.getD undef, tm[81]?.getD undef, tm[82]?.getD undef, tm[83]?.getD undef, tm[84]?.getD undef, tm[85]?.getD undef, tm[86]?.getD undef, tm[87]?.getD undef, tm[88]?.getD undef, tm[89]?.getD undef, tm[90]?.getD undef, tm[91]?.getD undef] from rfl] at e
      simp only [e0, e1, e2, e3, e4, Option.getD_some] at e
      clear hf hout hs hg
      obtain ⟨s5, ⟨ga, rfl, hga, pa⟩, g5, f5, hg5, p5⟩ := f5
      obtain ⟨s6, r6, ⟨gb, rfl, hgb, pb⟩, ⟨gc, rfl, hgc, pc⟩, g6, f6, hg6, p6⟩ := f6
      rw [f5, f6] at e
      rw [e, hd]
      clear e hd f5 f6 e0 e1 e2 e3 e4
      generalize tm[7]?.getD undef = y7
      generalize tm[8]?.getD undef = y8
      generalize tm[9]?.getD undef = y9
      generalize tm[10]?.getD undef = y10
      generalize tm[11]?.getD undef = y11
      generalize tm[12]?.getD undef = y12
      generalize tm[13]?.getD undef = y13
      generalize tm[14]?.getD undef = y14
      generalize tm[15]?.getD undef = y15
      generalize tm[16]?.getD undef = y16
      generalize tm[17]?.getD undef = y17
      generalize tm[18]?.getD undef = y18
      generalize tm[19]?.getD undef = y19
      generalize tm[20]?.getD undef = y20
      generalize tm[21]?.getD undef = y21
      generalize tm[22]?.getD undef = y22
      generalize tm[23]?.getD undef = y23
      generalize tm[24]?.getD undef = y24
      generalize tm[25]?.getD undef = y25
      generalize tm[26]?.getD undef = y26
      generalize tm[27]?.getD undef = y27
      generalize tm[28]?.getD undef = y28
      generalize tm[29]?.getD undef = y29
      generalize tm[30]?.getD undef = y30
      generalize tm[31]?.getD undef = y31
      generalize tm[32]?.getD undef = y32
      generalize tm[33]?.getD undef = y33
      generalize tm[34]?.getD undef = y34
      generalize tm[35]?.getD undef = y35
      generalize tm[36]?.getD undef = y36
      generalize tm[37]?.getD undef = y37
      generalize tm[38]?.getD undef = y38
      generalize tm[39]?.getD undef = y39
      generalize tm[40]?.getD undef = y40
      generalize tm[41]?.getD undef = y41
      generalize tm[42]?.getD undef = y42
      generalize tm[43]?.getD undef = y43
      generalize tm[44]?.getD undef = y44
      generalize tm[45]?.getD undef = y45
      generalize tm[46]?.getD undef = y46
      generalize tm[47]?.getD undef = y47
      generalize tm[48]?.getD undef = y48
      generalize tm[49]?.getD undef = y49
      generalize tm[50]?.getD undef = y50
      generalize tm[51]?.getD undef = y51
      generalize tm[52]?.getD undef = y52
      generalize tm[53]?.getD undef = y53
      generalize tm[54]?.getD undef = y54
      generalize tm[55]?.getD undef = y55
      generalize tm[56]?.getD undef = y56
      generalize tm[57]?.getD undef = y57
      generalize tm[58]?.getD undef = y58
      generalize tm[59]?.getD undef = y59
      generalize tm[60]?.getD undef = y60
      generalize tm[61]?.getD undef = y61
      generalize tm[62]?.getD undef = y62
      generalize tm[63]?.getD undef = y63
      generalize tm[64]?.getD undef = y64
      generalize tm[65]?.getD undef = y65
      generalize tm[66]?.getD undef = y66
      generalize tm[67]?.getD undef = y67
      generalize tm[68]?.getD undef = y68
      generalize tm[69]?.getD undef = y69
      generalize tm[70]?.getD undef = y70
      generalize tm[71]?.getD undef = y71
      generalize tm[72]?.getD undef = y72
      generalize tm[73]?.getD undef = y73
      generalize tm[74]?.getD undef = y74
      generalize tm[75]?.getD undef = y75
      generalize tm[76]?.getD undef = y76
      generalize tm[77]?.getD undef = y77
      generalize tm[78]?.getD undef = y78
      generalize tm[79]?.getD undef = y79
      generalize tm[80]?.getD undef = y80
      generalize tm[81]?.getD undef = y81
      generalize tm[82]?.getD undef = y82
      generalize tm[83]?.getD undef = y83
      generalize tm[84]?.getD undef = y84
      generalize tm[85]?.getD undef = y85
      generalize tm[86]?.getD undef = y86
      generalize tm[87]?.getD undef = y87
      generalize tm[88]?.getD undef = y88
      generalize tm[89]?.getD undef = y89
      generalize tm[90]?.getD undef = y90
      generalize tm[91]?.getD undef = y91
      have p1 := Lib.hid (p1.out.below hw p1.out.lt)
      have p3 := Lib.hid (p3.out.below hw p3.out.lt)
      replace p5 := Lib.hid p5
      replace p6 := Lib.hid p6
      replace pa := Lib.hid pa
      replace pb := Lib.hid pb
      replace pc := Lib.hid pc
      have hb := Lib.hid (hb.out.trans (hw.mono hb.out.size))
      clear hw hga hgb hgc hg5 hg6
      obtain ⟨c0, c1, c2, c3, c4, c5, c6, c7, d0, d1, d2, d3, d4, d5, d6, d7⟩ := (show w5.cell? ⟨g3, 0, none⟩ = some (Value.int .i64 2) ∧ w5.cell? ⟨g3, 1, none⟩ = some (Value.string ⟨#[108, 101, 97, 102]⟩) ∧ w5.cell? ⟨g3, 2, none⟩ = some (Value.string ⟨#[114, 111, 111, 116]⟩) ∧ w5.cell? ⟨g3, 3, none⟩ = some (Value.int .i64 10) ∧ w5.cell? ⟨g3, 4, none⟩ = some (Value.int .i64 500) ∧ w5.cell? ⟨g3, 5, none⟩ = some (Value.bool false) ∧ w5.cell? ⟨g3, 6, none⟩ = some (Value.int .u64 9) ∧ w5.cell? ⟨g3, 7, none⟩ = some (Value.int .u64 5033556202336685493) ∧ (w5.alloc (.cells #[Value.int .i64 2, Value.string ⟨#[108, 101, 97, 102]⟩, Value.string ⟨#[114, 111, 111, 116]⟩, Value.int .i64 10, Value.int .i64 500, Value.bool false, Value.int .u64 8, Value.int .u64 5033556202336685493] 52)).cell? ⟨g3, 0, none⟩ = some (Value.int .i64 2) ∧ (w5.alloc (.cells #[Value.int .i64 2, Value.string ⟨#[108, 101, 97, 102]⟩, Value.string ⟨#[114, 111, 111, 116]⟩, Value.int .i64 10, Value.int .i64 500, Value.bool false, Value.int .u64 8, Value.int .u64 5033556202336685493] 52)).cell? ⟨g3, 1, none⟩ = some (Value.string ⟨#[108, 101, 97, 102]⟩) ∧ (w5.alloc (.cells #[Value.int .i64 2, Value.string ⟨#[108, 101, 97, 102]⟩, Value.string ⟨#[114, 111, 111, 116]⟩, Value.int .i64 10, Value.int .i64 500, Value.bool false, Value.int .u64 8, Value.int .u64 5033556202336685493] 52)).cell? ⟨g3, 2, none⟩ = some (Value.string ⟨#[114, 111, 111, 116]⟩) ∧ (w5.alloc (.cells #[Value.int .i64 2, Value.string ⟨#[108, 101, 97, 102]⟩, Value.string ⟨#[114, 111, 111, 116]⟩, Value.int .i64 10, Value.int .i64 500, Value.bool false, Value.int .u64 8, Value.int .u64 5033556202336685493] 52)).cell? ⟨g3, 3, none⟩ = some (Value.int .i64 10) ∧ (w5.alloc (.cells #[Value.int .i64 2, Value.string ⟨#[108, 101, 97, 102]⟩, Value.string ⟨#[114, 111, 111, 116]⟩, Value.int .i64 10, Value.int .i64 500, Value.bool false, Value.int .u64 8, Value.int .u64 5033556202336685493] 52)).cell? ⟨g3, 4, none⟩ = some (Value.int .i64 500) ∧ (w5.alloc (.cells #[Value.int .i64 2, Value.string ⟨#[108, 101, 97, 102]⟩, Value.string ⟨#[114, 111, 111, 116]⟩, Value.int .i64 10, Value.int .i64 500, Value.bool false, Value.int .u64 8, Value.int .u64 5033556202336685493] 52)).cell? ⟨g3, 5, none⟩ = some (Value.bool false) ∧ (w5.alloc (.cells #[Value.int .i64 2, Value.string ⟨#[108, 101, 97, 102]⟩, Value.string ⟨#[114, 111, 111, 116]⟩, Value.int .i64 10, Value.int .i64 500, Value.bool false, Value.int .u64 8, Value.int .u64 5033556202336685493] 52)).cell? ⟨g3, 6, none⟩ = some (Value.int .u64 9) ∧ (w5.alloc (.cells #[Value.int .i64 2, Value.string ⟨#[108, 101, 97, 102]⟩, Value.string ⟨#[114, 111, 111, 116]⟩, Value.int .i64 10, Value.int .i64 500, Value.bool false, Value.int .u64 8, Value.int .u64 5033556202336685493] 52)).cell? ⟨g3, 7, none⟩ = some (Value.int .u64 5033556202336685493) from ⟨p3.out.cell 0, p3.out.cell 1, p3.out.cell 2, p3.out.cell 3, p3.out.cell 4, p3.out.cell 5, p3.out.cell 6, p3.out.cell 7, (p3.out.alloc (.cells #[Value.int .i64 2, Value.string ⟨#[108, 101, 97, 102]⟩, Value.string ⟨#[114, 111, 111, 116]⟩, Value.int .i64 10, Value.int .i64 500, Value.bool false, Value.int .u64 8, Value.int .u64 5033556202336685493] 52)).cell 0, (p3.out.alloc (.cells #[Value.int .i64 2, Value.string ⟨#[108, 101, 97, 102]⟩, Value.string ⟨#[114, 111, 111, 116]⟩, Value.int .i64 10, Value.int .i64 500, Value.bool false, Value.int .u64 8, Value.int .u64 5033556202336685493] 52)).cell 1, (p3.out.alloc (.cells #[Value.int .i64 2, Value.string ⟨#[108, 101, 97, 102]⟩, Value.string ⟨#[114, 111, 111, 116]⟩, Value.int .i64 10, Value.int .i64 500, Value.bool false, Value.int .u64 8, Value.int .u64 5033556202336685493] 52)).cell 2, (p3.out.alloc (.cells #[Value.int .i64 2, Value.string ⟨#[108, 101, 97, 102]⟩, Value.string ⟨#[114, 111, 111, 116]⟩, Value.int .i64 10, Value.int .i64 500, Value.bool false, Value.int .u64 8, Value.int .u64 5033556202336685493] 52)).cell 3, (p3.out.alloc (.cells #[Value.int .i64 2, Value.string ⟨#[108, 101, 97, 102]⟩, Value.string ⟨#[114, 111, 111, 116]⟩, Value.int .i64 10, Value.int .i64 500, Value.bool false, Value.int .u64 8, Value.int .u64 5033556202336685493] 52)).cell 4, (p3.out.alloc (.cells #[Value.int .i64 2, Value.string ⟨#[108, 101, 97, 102]⟩, Value.string ⟨#[114, 111, 111, 116]⟩, Value.int .i64 10, Value.int .i64 500, Value.bool false, Value.int .u64 8, Value.int .u64 5033556202336685493] 52)).cell 5, (p3.out.alloc (.cells #[Value.int .i64 2, Value.string ⟨#[108, 101, 97, 102]⟩, Value.string ⟨#[114, 111, 111, 116]⟩, Value.int .i64 10, Value.int .i64 500, Value.bool false, Value.int .u64 8, Value.int .u64 5033556202336685493] 52)).cell 6, (p3.out.alloc (.cells #[Value.int .i64 2, Value.string ⟨#[108, 101, 97, 102]⟩, Value.string ⟨#[114, 111, 111, 116]⟩, Value.int .i64 10, Value.int .i64 500, Value.bool false, Value.int .u64 8, Value.int .u64 5033556202336685493] 52)).cell 7⟩)
      go_wp2_with fail
      clear c0 c1 c2 c3 c4 c5 c6 c7 d0 d1 d2 d3 d4 d5 d6 d7
      have pd := Lib.hid (Blk.new w5 52 #[Value.int .i64 2, Value.string ⟨#[108, 101, 97, 102]⟩, Value.string ⟨#[114, 111, 111, 116]⟩, Value.int .i64 10, Value.int .i64 500, Value.bool false, Value.int .u64 8, Value.int .u64 5033556202336685493])
      have p1 := Lib.hid (p1.out.alloc (.cells #[Value.int .i64 2, Value.string ⟨#[108, 101, 97, 102]⟩, Value.string ⟨#[114, 111, 111, 116]⟩, Value.int .i64 10, Value.int .i64 500, Value.bool false, Value.int .u64 8, Value.int .u64 5033556202336685493] 52))
      have p3 := Lib.hid (p3.out.alloc (.cells #[Value.int .i64 2, Value.string ⟨#[108, 101, 97, 102]⟩, Value.string ⟨#[114, 111, 111, 116]⟩, Value.int .i64 10, Value.int .i64 500, Value.bool false, Value.int .u64 8, Value.int .u64 5033556202336685493] 52))
      have p5 := Lib.hid (p5.out.alloc (.cells #[Value.int .i64 2, Value.string ⟨#[108, 101, 97, 102]⟩, Value.string ⟨#[114, 111, 111, 116]⟩, Value.int .i64 10, Value.int .i64 500, Value.bool false, Value.int .u64 8, Value.int .u64 5033556202336685493] 52))
      have p6 := Lib.hid (p6.out.alloc (.cells #[Value.int .i64 2, Value.string ⟨#[108, 101, 97, 102]⟩, Value.string ⟨#[114, 111, 111, 116]⟩, Value.int .i64 10, Value.int .i64 500, Value.bool false, Value.int .u64 8, Value.int .u64 5033556202336685493] 52))
      have pa := Lib.hid (pa.out.alloc (.cells #[Value.int .i64 2, Value.string ⟨#[108, 101, 97, 102]⟩, Value.string ⟨#[114, 111, 111, 116]⟩, Value.int .i64 10, Value.int .i64 500, Value.bool false, Value.int .u64 8, Value.int .u64 5033556202336685493] 52))
      have pb := Lib.hid (pb.out.alloc (.cells #[Value.int .i64 2, Value.string ⟨#[108, 101, 97, 102]⟩, Value.string ⟨#[114, 111, 111, 116]⟩, Value.int .i64 10, Value.int .i64 500, Value.bool false, Value.int .u64 8, Value.int .u64 5033556202336685493] 52))
      have pc := Lib.hid (pc.out.alloc (.cells #[Value.int .i64 2, Value.string ⟨#[108, 101, 97, 102]⟩, Value.string ⟨#[114, 111, 111, 116]⟩, Value.int .i64 10, Value.int .i64 500, Value.bool false, Value.int .u64 8, Value.int .u64 5033556202336685493] 52))
      have hb := Lib.hid (below_new hb.out (.cells #[Value.int .i64 2, Value.string ⟨#[108, 101, 97, 102]⟩, Value.string ⟨#[114, 111, 111, 116]⟩, Value.int .i64 10, Value.int .i64 500, Value.bool false, Value.int .u64 8, Value.int .u64 5033556202336685493] 52))
      refine (iss_ex2 _).mono ?_; rintro e w6 ⟨rfl, hq⟩
      have p1 := Lib.hid (p1.out.below hq p1.out.lt)
      have p3 := Lib.hid (p3.out.below hq p3.out.lt)
      have p5 := Lib.hid (p5.out.below hq p5.out.lt)
      have p6 := Lib.hid (p6.out.below hq p6.out.lt)
      have pa := Lib.hid (pa.out.below hq pa.out.lt)
      have pb := Lib.hid (pb.out.below hq pb.out.lt)
      have pc := Lib.hid (pc.out.below hq pc.out.lt)
      have pd := Lib.hid (pd.out.below hq pd.out.lt)
      have hb := Lib.hid (hb.out.trans (hq.mono hb.out.size))
      clear hq
      generalize w5.heap.size = g7 at *
      obtain ⟨c0, c1, c2, c3, c4, c5, c6, c7, t0, t1⟩ := (show (w6.alloc (.cells #[Value.int .i64 0, Value.string ⟨#[]⟩, Value.string ⟨#[]⟩, Value.int .i64 0, Value.int .i64 0, Value.bool false, Value.int .u64 0, Value.int .u64 0] 52)).cell? ⟨g3, 0, none⟩ = some (Value.int .i64 2) ∧ (w6.alloc (.cells #[Value.int .i64 0, Value.string ⟨#[]⟩, Value.string ⟨#[]⟩, Value.int .i64 0, Value.int .i64 0, Value.bool false, Value.int .u64 0, Value.int .u64 0] 52)).cell? ⟨g3, 1, none⟩ = some (Value.string ⟨#[108, 101, 97, 102]⟩) ∧ (w6.alloc (.cells #[Value.int .i64 0, Value.string ⟨#[]⟩, Value.string ⟨#[]⟩, Value.int .i64 0, Value.int .i64 0, Value.bool false, Value.int .u64 0, Value.int .u64 0] 52)).cell? ⟨g3, 2, none⟩ = some (Value.string ⟨#[114, 111, 111, 116]⟩) ∧ (w6.alloc (.cells #[Value.int .i64 0, Value.string ⟨#[]⟩, Value.string ⟨#[]⟩, Value.int .i64 0, Value.int .i64 0, Value.bool false, Value.int .u64 0, Value.int .u64 0] 52)).cell? ⟨g3, 3, none⟩ = some (Value.int .i64 10) ∧ (w6.alloc (.cells #[Value.int .i64 0, Value.string ⟨#[]⟩, Value.string ⟨#[]⟩, Value.int .i64 0, Value.int .i64 0, Value.bool false, Value.int .u64 0, Value.int .u64 0] 52)).cell? ⟨g3, 4, none⟩ = some (Value.int .i64 500) ∧ (w6.alloc (.cells #[Value.int .i64 0, Value.string ⟨#[]⟩, Value.string ⟨#[]⟩, Value.int .i64 0, Value.int .i64 0, Value.bool false, Value.int .u64 0, Value.int .u64 0] 52)).cell? ⟨g3, 5, none⟩ = some (Value.bool false) ∧ (w6.alloc (.cells #[Value.int .i64 0, Value.string ⟨#[]⟩, Value.string ⟨#[]⟩, Value.int .i64 0, Value.int .i64 0, Value.bool false, Value.int .u64 0, Value.int .u64 0] 52)).cell? ⟨g3, 6, none⟩ = some (Value.int .u64 9) ∧ (w6.alloc (.cells #[Value.int .i64 0, Value.string ⟨#[]⟩, Value.string ⟨#[]⟩, Value.int .i64 0, Value.int .i64 0, Value.bool false, Value.int .u64 0, Value.int .u64 0] 52)).cell? ⟨g3, 7, none⟩ = some (Value.int .u64 5033556202336685493) ∧ ((w6.alloc (.cells #[Value.int .i64 0, Value.string ⟨#[]⟩, Value.string ⟨#[]⟩, Value.int .i64 0, Value.int .i64 0, Value.bool false, Value.int .u64 0, Value.int .u64 0] 52)).alloc (.cells #[Value.int .i64 2, Value.string ⟨#[108, 101, 97, 102]⟩, Value.string ⟨#[114, 111, 111, 116]⟩, Value.int .i64 10, Value.int .i64 500, Value.bool false, Value.int .u64 9, Value.int .u64 5033556202336685493] 52)).cell? ⟨g5, 0, none⟩ = some (Value.slice (some ⟨ga, 0, none⟩) 1 1) ∧ ((w6.alloc (.cells #[Value.int .i64 0, Value.string ⟨#[]⟩, Value.string ⟨#[]⟩, Value.int .i64 0, Value.int .i64 0, Value.bool false, Value.int .u64 0, Value.int .u64 0] 52)).alloc (.cells #[Value.int .i64 2, Value.string ⟨#[108, 101, 97, 102]⟩, Value.string ⟨#[114, 111, 111, 116]⟩, Value.int .i64 10, Value.int .i64 500, Value.bool false, Value.int .u64 9, Value.int .u64 5033556202336685493] 52)).cell? ⟨g5, 1, none⟩ = some (Value.slice none 0 0) from ⟨(p3.out.alloc (.cells #[Value.int .i64 0, Value.string ⟨#[]⟩, Value.string ⟨#[]⟩, Value.int .i64 0, Value.int .i64 0, Value.bool false, Value.int .u64 0, Value.int .u64 0] 52)).cell 0, (p3.out.alloc (.cells #[Value.int .i64 0, Value.string ⟨#[]⟩, Value.string ⟨#[]⟩, Value.int .i64 0, Value.int .i64 0, Value.bool false, Value.int .u64 0, Value.int .u64 0] 52)).cell 1, (p3.out.alloc (.cells #[Value.int .i64 0, Value.string ⟨#[]⟩, Value.string ⟨#[]⟩, Value.int .i64 0, Value.int .i64 0, Value.bool false, Value.int .u64 0, Value.int .u64 0] 52)).cell 2, (p3.out.alloc (.cells #[Value.int .i64 0, Value.string ⟨#[]⟩, Value.string ⟨#[]⟩, Value.int .i64 0, Value.int .i64 0, Value.bool false, Value.int .u64 0, Value.int .u64 0] 52)).cell 3, (p3.out.alloc (.cells #[Value.int .i64 0, Value.string ⟨#[]⟩, Value.string ⟨#[]⟩, Value.int .i64 0, Value.int .i64 0, Value.bool false, Value.int .u64 0, Value.int .u64 0] 52)).cell 4, (p3.out.alloc (.cells #[Value.int .i64 0, Value.string ⟨#[]⟩, Value.string ⟨#[]⟩, Value.int .i64 0, Value.int .i64 0, Value.bool false, Value.int .u64 0, Value.int .u64 0] 52)).cell 5, (p3.out.alloc (.cells #[Value.int .i64 0, Value.string ⟨#[]⟩, Value.string ⟨#[]⟩, Value.int .i64 0, Value.int .i64 0, Value.bool false, Value.int .u64 0, Value.int .u64 0] 52)).cell 6, (p3.out.alloc (.cells #[Value.int .i64 0, Value.string ⟨#[]⟩, Value.string ⟨#[]⟩, Value.int .i64 0, Value.int .i64 0, Value.bool false, Value.int .u64 0, Value.int .u64 0] 52)).cell 7, ((p5.out.alloc (.cells #[Value.int .i64 0, Value.string ⟨#[]⟩, Value.string ⟨#[]⟩, Value.int .i64 0, Value.int .i64 0, Value.bool false, Value.int .u64 0, Value.int .u64 0] 52)).alloc (.cells #[Value.int .i64 2, Value.string ⟨#[108, 101, 97, 102]⟩, Value.string ⟨#[114, 111, 111, 116]⟩, Value.int .i64 10, Value.int .i64 500, Value.bool false, Value.int .u64 9, Value.int .u64 5033556202336685493] 52)).cell 0, ((p5.out.alloc (.cells #[Value.int .i64 0, Value.string ⟨#[]⟩, Value.string ⟨#[]⟩, Value.int .i64 0, Value.int .i64 0, Value.bool false, Value.int .u64 0, Value.int .u64 0] 52)).alloc (.cells #[Value.int .i64 2, Value.string ⟨#[108, 101, 97, 102]⟩, Value.string ⟨#[114, 111, 111, 116]⟩, Value.int .i64 10, Value.int .i64 500, Value.bool false, Value.int .u64 9, Value.int .u64 5033556202336685493] 52)).cell 1⟩)
      go_wp2_with fail
      clear c0 c1 c2 c3 c4 c5 c6 c7 t0 t1
      have p1 := Lib.hid (p1.out.alloc (.cells #[Value.int .i64 0, Value.string ⟨#[]⟩, Value.string ⟨#[]⟩, Value.int .i64 0, Value.int .i64 0, Value.bool false, Value.int .u64 0, Value.int .u64 0] 52))
      have p3 := Lib.hid (p3.out.alloc (.cells #[Value.int .i64 0, Value.string ⟨#[]⟩, Value.string ⟨#[]⟩, Value.int .i64 0, Value.int .i64 0, Value.bool false, Value.int .u64 0, Value.int .u64 0] 52))
      have p5 := Lib.hid (p5.out.alloc (.cells #[Value.int .i64 0, Value.string ⟨#[]⟩, Value.string ⟨#[]⟩, Value.int .i64 0, Value.int .i64 0, Value.bool false, Value.int .u64 0, Value.int .u64 0] 52))
      have p6 := Lib.hid (p6.out.alloc (.cells #[Value.int .i64 0, Value.string ⟨#[]⟩, Value.string ⟨#[]⟩, Value.int .i64 0, Value.int .i64 0, Value.bool false, Value.int .u64 0, Value.int .u64 0] 52))
      have pa := Lib.hid (pa.out.alloc (.cells #[Value.int .i64 0, Value.string ⟨#[]⟩, Value.string ⟨#[]⟩, Value.int .i64 0, Value.int .i64 0, Value.bool false, Value.int .u64 0, Value.int .u64 0] 52))
      have pb := Lib.hid (pb.out.alloc (.cells #[Value.int .i64 0, Value.string ⟨#[]⟩, Value.string ⟨#[]⟩, Value.int .i64 0, Value.int .i64 0, Value.bool false, Value.int .u64 0, Value.int .u64 0] 52))
      have pc := Lib.hid (pc.out.alloc (.cells #[Value.int .i64 0, Value.string ⟨#[]⟩, Value.string ⟨#[]⟩, Value.int .i64 0, Value.int .i64 0, Value.bool false, Value.int .u64 0, Value.int .u64 0] 52))
      have pd := Lib.hid (pd.out.alloc (.cells #[Value.int .i64 0, Value.string ⟨#[]⟩, Value.string ⟨#[]⟩, Value.int .i64 0, Value.int .i64 0, Value.bool false, Value.int .u64 0, Value.int .u64 0] 52))
      have p1 := Lib.hid (p1.out.alloc (.cells #[Value.int .i64 2, Value.string ⟨#[108, 101, 97, 102]⟩, Value.string ⟨#[114, 111, 111, 116]⟩, Value.int .i64 10, Value.int .i64 500, Value.bool false, Value.int .u64 9, Value.int .u64 5033556202336685493] 52))
      have p3 := Lib.hid (p3.out.alloc (.cells #[Value.int .i64 2, Value.string ⟨#[108, 101, 97, 102]⟩, Value.string ⟨#[114, 111, 111, 116]⟩, Value.int .i64 10, Value.int .i64 500, Value.bool false, Value.int .u64 9, Value.int .u64 5033556202336685493] 52))
      have p5 := Lib.hid (p5.out.alloc (.cells #[Value.int .i64 2, Value.string ⟨#[108, 101, 97, 102]⟩, Value.string ⟨#[114, 111, 111, 116]⟩, Value.int .i64 10, Value.int .i64 500, Value.bool false, Value.int .u64 9, Value.int .u64 5033556202336685493] 52))
      have p6 := Lib.hid (p6.out.alloc (.cells #[Value.int .i64 2, Value.string ⟨#[108, 101, 97, 102]⟩, Value.string ⟨#[114, 111, 111, 116]⟩, Value.int .i64 10, Value.int .i64 500, Value.bool false, Value.int .u64 9, Value.int .u64 5033556202336685493] 52))
      have pa := Lib.hid (pa.out.alloc (.cells #[Value.int .i64 2, Value.string ⟨#[108, 101, 97, 102]⟩, Value.string ⟨#[114, 111, 111, 116]⟩, Value.int .i64 10, Value.int .i64 500, Value.bool false, Value.int .u64 9, Value.int .u64 5033556202336685493] 52))
      have pb := Lib.hid (pb.out.alloc (.cells #[Value.int .i64 2, Value.string ⟨#[108, 101, 97, 102]⟩, Value.string ⟨#[114, 111, 111, 116]⟩, Value.int .i64 10, Value.int .i64 500, Value.bool false, Value.int .u64 9, Value.int .u64 5033556202336685493] 52))
      have pc := Lib.hid (pc.out.alloc (.cells #[Value.int .i64 2, Value.string ⟨#[108, 101, 97, 102]⟩, Value.string ⟨#[114, 111, 111, 116]⟩, Value.int .i64 10, Value.int .i64 500, Value.bool false, Value.int .u64 9, Value.int .u64 5033556202336685493] 52))
      have pd := Lib.hid (pd.out.alloc (.cells #[Value.int .i64 2, Value.string ⟨#[108, 101, 97, 102]⟩, Value.string ⟨#[114, 111, 111, 116]⟩, Value.int .i64 10, Value.int .i64 500, Value.bool false, Value.int .u64 9, Value.int .u64 5033556202336685493] 52))
      have px := Blk.new (w6.alloc (.cells #[Value.int .i64 0, Value.string ⟨#[]⟩, Value.string ⟨#[]⟩, Value.int .i64 0, Value.int .i64 0, Value.bool false, Value.int .u64 0, Value.int .u64 0] 52)) 52 #[Value.int .i64 2, Value.string ⟨#[108, 101, 97, 102]⟩, Value.string ⟨#[114, 111, 111, 116]⟩, Value.int .i64 10, Value.int .i64 500, Value.bool false, Value.int .u64 9, Value.int .u64 5033556202336685493]
      have hb := Lib.hid (below_new (below_new hb.out (.cells #[Value.int .i64 0, Value.string ⟨#[]⟩, Value.string ⟨#[]⟩, Value.int .i64 0, Value.int .i64 0, Value.bool false, Value.int .u64 0, Value.int .u64 0] 52)) (.cells #[Value.int .i64 2, Value.string ⟨#[108, 101, 97, 102]⟩, Value.string ⟨#[114, 111, 111, 116]⟩, Value.int .i64 10, Value.int .i64 500, Value.bool false, Value.int .u64 9, Value.int .u64 5033556202336685493] 52))
      rw [show (w6.alloc (.cells #[Value.int .i64 0, Value.string ⟨#[]⟩, Value.string ⟨#[]⟩, Value.int .i64 0, Value.int .i64 0, Value.bool false, Value.int .u64 0, Value.int .u64 0] 52)).heap.size = w6.heap.size + 1 by simp] at px
      replace px := Lib.hid px
      refine (ver_ex cI 10 px.out pa.out cI_ok).mono ?_; rintro e w7 ⟨rfl, hq⟩
      rw [v1]
      have p1 := Lib.hid (p1.out.below hq p1.out.lt)
      have p3 := Lib.hid (p3.out.below hq p3.out.lt)
      have p5 := Lib.hid (p5.out.below hq p5.out.lt)
      have p6 := Lib.hid (p6.out.below hq p6.out.lt)
      have pa := Lib.hid (pa.out.below hq pa.out.lt)
      have pb := Lib.hid (pb.out.below hq pb.out.lt)
      have pc := Lib.hid (pc.out.below hq pc.out.lt)
      have pd := Lib.hid (pd.out.below hq pd.out.lt)
      have px := Lib.hid (px.out.below hq px.out.lt)
      have hb := Lib.hid (hb.out.trans (hq.mono hb.out.size))
      clear hq
      generalize w6.heap.size = g6x at *
      obtain ⟨t0, t1⟩ := (show w7.cell? ⟨g5, 0, none⟩ = some (Value.slice (some ⟨ga, 0, none⟩) 1 1) ∧ w7.cell? ⟨g5, 1, none⟩ = some (Value.slice none 0 0) from ⟨p5.out.cell 0, p5.out.cell 1⟩)
      go_wp2_with fail
      clear t0 t1
      refine (ver_ex cI 9 px.out pa.out cI_ok).mono ?_; rintro e w8 ⟨rfl, hq⟩
      rw [v2]
      have p1 := Lib.hid (p1.out.below hq p1.out.lt)
      have p3 := Lib.hid (p3.out.below hq p3.out.lt)
      have p5 := Lib.hid (p5.out.below hq p5.out.lt)
      have p6 := Lib.hid (p6.out.below hq p6.out.lt)
      have pa := Lib.hid (pa.out.below hq pa.out.lt)
      have pb := Lib.hid (pb.out.below hq pb.out.lt)
      have pc := Lib.hid (pc.out.below hq pc.out.lt)
      have pd := Lib.hid (pd.out.below hq pd.out.lt)
      have px := Lib.hid (px.out.below hq px.out.lt)
      have hb := Lib.hid (hb.out.trans (hq.mono hb.out.size))
      clear hq
      obtain ⟨t0, t1⟩ := (show w8.cell? ⟨g6, 0, none⟩ = some (Value.slice (some ⟨gb, 0, none⟩) 1 1) ∧ w8.cell? ⟨g6, 1, none⟩ = some (Value.slice (some ⟨gc, 0, none⟩) 1 1) from ⟨p6.out.cell 0, p6.out.cell 1⟩)
      go_wp2_with fail
      clear t0 t1
      refine (ver_ex2 cI 10 px.out pb.out pc.out cI_ok).mono ?_; rintro e w9 ⟨rfl, hq⟩
      rw [v3]
      have p1 := Lib.hid (p1.out.below hq p1.out.lt)
      have p3 := Lib.hid (p3.out.below hq p3.out.lt)
      have p5 := Lib.hid (p5.out.below hq p5.out.lt)
      have p6 := Lib.hid (p6.out.below hq p6.out.lt)
      have pa := Lib.hid (pa.out.below hq pa.out.lt)
      have pb := Lib.hid (pb.out.below hq pb.out.lt)
      have pc := Lib.hid (pc.out.below hq pc.out.lt)
      have pd := Lib.hid (pd.out.below hq pd.out.lt)
      have hb := Lib.hid (hb.out.trans (hq.mono hb.out.size))
      clear hq
      obtain ⟨d0, d1, d2, d3, d4, d5, d6, d7, t0, t1⟩ := (show w9.cell? ⟨g7, 0, none⟩ = some (Value.int .i64 2) ∧ w9.cell? ⟨g7, 1, none⟩ = some (Value.string ⟨#[108, 101, 97, 102]⟩) ∧ w9.cell? ⟨g7, 2, none⟩ = some (Value.string ⟨#[114, 111, 111, 116]⟩) ∧ w9.cell? ⟨g7, 3, none⟩ = some (Value.int .i64 10) ∧ w9.cell? ⟨g7, 4, none⟩ = some (Value.int .i64 500) ∧ w9.cell? ⟨g7, 5, none⟩ = some (Value.bool false) ∧ w9.cell? ⟨g7, 6, none⟩ = some (Value.int .u64 8) ∧ w9.cell? ⟨g7, 7, none⟩ = some (Value.int .u64 5033556202336685493) ∧ (w9.alloc (.cells #[Value.int .i64 2, Value.string ⟨#[108, 101, 97, 102]⟩, Value.string ⟨#[114, 111, 111, 116]⟩, Value.int .i64 10, Value.int .i64 500, Value.bool false, Value.int .u64 8, Value.int .u64 5033556202336685493] 52)).cell? ⟨g5, 0, none⟩ = some (Value.slice (some ⟨ga, 0, none⟩) 1 1) ∧ (w9.alloc (.cells #[Value.int .i64 2, Value.string ⟨#[108, 101, 97, 102]⟩, Value.string ⟨#[114, 111, 111, 116]⟩, Value.int .i64 10, Value.int .i64 500, Value.bool false, Value.int .u64 8, Value.int .u64 5033556202336685493] 52)).cell? ⟨g5, 1, none⟩ = some (Value.slice none 0 0) from ⟨pd.out.cell 0, pd.out.cell 1, pd.out.cell 2, pd.out.cell 3, pd.out.cell 4, pd.out.cell 5, pd.out.cell 6, pd.out.cell 7, (p5.out.alloc (.cells #[Value.int .i64 2, Value.string ⟨#[108, 101, 97, 102]⟩, Value.string ⟨#[114, 111, 111, 116]⟩, Value.int .i64 10, Value.int .i64 500, Value.bool false, Value.int .u64 8, Value.int .u64 5033556202336685493] 52)).cell 0, (p5.out.alloc (.cells #[Value.int .i64 2, Value.string ⟨#[108, 101, 97, 102]⟩, Value.string ⟨#[114, 111, 111, 116]⟩, Value.int .i64 10, Value.int .i64 500, Value.bool false, Value.int .u64 8, Value.int .u64 5033556202336685493] 52)).cell 1⟩)
      go_wp2_with fail
      clear d0 d1 d2 d3 d4 d5 d6 d7 t0 t1
      have p1 := Lib.hid (p1.out.alloc (.cells #[Value.int .i64 2, Value.string ⟨#[108, 101, 97, 102]⟩, Value.string ⟨#[114, 111, 111, 116]⟩, Value.int .i64 10, Value.int .i64 500, Value.bool false, Value.int .u64 8, Value.int .u64 5033556202336685493] 52))
      have p3 := Lib.hid (p3.out.alloc (.cells #[Value.int .i64 2, Value.string ⟨#[108, 101, 97, 102]⟩, Value.string ⟨#[114, 111, 111, 116]⟩, Value.int .i64 10, Value.int .i64 500, Value.bool false, Value.int .u64 8, Value.int .u64 5033556202336685493] 52))
      have p5 := Lib.hid (p5.out.alloc (.cells #[Value.int .i64 2, Value.string ⟨#[108, 101, 97, 102]⟩, Value.string ⟨#[114, 111, 111, 116]⟩, Value.int .i64 10, Value.int .i64 500, Value.bool false, Value.int .u64 8, Value.int .u64 5033556202336685493] 52))
      have p6 := Lib.hid (p6.out.alloc (.cells #[Value.int .i64 2, Value.string ⟨#[108, 101, 97, 102]⟩, Value.string ⟨#[114, 111, 111, 116]⟩, Value.int .i64 10, Value.int .i64 500, Value.bool false, Value.int .u64 8, Value.int .u64 5033556202336685493] 52))
      have pa := Lib.hid (pa.out.alloc (.cells #[Value.int .i64 2, Value.string ⟨#[108, 101, 97, 102]⟩, Value.string ⟨#[114, 111, 111, 116]⟩, Value.int .i64 10, Value.int .i64 500, Value.bool false, Value.int .u64 8, Value.int .u64 5033556202336685493] 52))
      have pb := Lib.hid (pb.out.alloc (.cells #[Value.int .i64 2, Value.string ⟨#[108, 101, 97, 102]⟩, Value.string ⟨#[114, 111, 111, 116]⟩, Value.int .i64 10, Value.int .i64 500, Value.bool false, Value.int .u64 8, Value.int .u64 5033556202336685493] 52))
      have pc := Lib.hid (pc.out.alloc (.cells #[Value.int .i64 2, Value.string ⟨#[108, 101, 97, 102]⟩, Value.string ⟨#[114, 111, 111, 116]⟩, Value.int .i64 10, Value.int .i64 500, Value.bool false, Value.int .u64 8, Value.int .u64 5033556202336685493] 52))
      have py := Lib.hid (Blk.new w9 52 #[Value.int .i64 2, Value.string ⟨#[108, 101, 97, 102]⟩, Value.string ⟨#[114, 111, 111, 116]⟩, Value.int .i64 10, Value.int .i64 500, Value.bool false, Value.int .u64 8, Value.int .u64 5033556202336685493])
      have hb := Lib.hid (below_new hb.out (.cells #[Value.int .i64 2, Value.string ⟨#[108, 101, 97, 102]⟩, Value.string ⟨#[114, 111, 111, 116]⟩, Value.int .i64 10, Value.int .i64 500, Value.bool false, Value.int .u64 8, Value.int .u64 5033556202336685493] 52))
      refine (ver_ex dI 10 py.out pa.out dI_ok).mono ?_; rintro e w10 ⟨rfl, hq⟩
      rw [v4]
      have p1 := Lib.hid (p1.out.below hq p1.out.lt)
      have p3 := Lib.hid (p3.out.below hq p3.out.lt)
      have p5 := Lib.hid (p5.out.below hq p5.out.lt)
      have p6 := Lib.hid (p6.out.below hq p6.out.lt)
      have pa := Lib.hid (pa.out.below hq pa.out.lt)
      have pb := Lib.hid (pb.out.below hq pb.out.lt)
      have pc := Lib.hid (pc.out.below hq pc.out.lt)
      have hb := Lib.hid (hb.out.trans (hq.mono hb.out.size))
      clear hq
      obtain ⟨k0, k1, k2, k3, k4, k5, k6, k7⟩ := (show w10.cell? ⟨g1, 0, none⟩ = some (Value.int .i64 1) ∧ w10.cell? ⟨g1, 1, none⟩ = some (Value.string ⟨#[114, 111, 111, 116]⟩) ∧ w10.cell? ⟨g1, 2, none⟩ = some (Value.string ⟨#[114, 111, 111, 116]⟩) ∧ w10.cell? ⟨g1, 3, none⟩ = some (Value.int .i64 0) ∧ w10.cell? ⟨g1, 4, none⟩ = some (Value.int .i64 1000) ∧ w10.cell? ⟨g1, 5, none⟩ = some (Value.bool true) ∧ w10.cell? ⟨g1, 6, none⟩ = some (Value.int .u64 7) ∧ w10.cell? ⟨g1, 7, none⟩ = some (Value.int .u64 12217286180542865105) from ⟨p1.out.cell 0, p1.out.cell 1, p1.out.cell 2, p1.out.cell 3, p1.out.cell 4, p1.out.cell 5, p1.out.cell 6, p1.out.cell 7⟩)
      go_wp2_with fail
      clear k0 k1 k2 k3 k4 k5 k6 k7
      refine (valid_any rI _).mono ?_; rintro e w11 ⟨rfl, hq⟩
      rw [v6]
      have p1 := Lib.hid (p1.out.below hq p1.out.lt)
      have p3 := Lib.hid (p3.out.below hq p3.out.lt)
      have p5 := Lib.hid (p5.out.below hq p5.out.lt)
      have p6 := Lib.hid (p6.out.below hq p6.out.lt)
      have pa := Lib.hid (pa.out.below hq pa.out.lt)
      have pb := Lib.hid (pb.out.below hq pb.out.lt)
      have pc := Lib.hid (pc.out.below hq pc.out.lt)
      have hb := Lib.hid (hb.out.trans (hq.mono hb.out.size))
      clear hq
      obtain ⟨t0, t1⟩ := (show w11.cell? ⟨g5, 0, none⟩ = some (Value.slice (some ⟨ga, 0, none⟩) 1 1) ∧ w11.cell? ⟨g5, 1, none⟩ = some (Value.slice none 0 0) from ⟨p5.out.cell 0, p5.out.cell 1⟩)
      go_wp2_with fail
      clear t0 t1
      refine (ver_ex0 10 pa.out).mono ?_; rintro e w12 ⟨rfl, hq⟩
      rw [v5]
      have hb := Lib.hid (hb.out.trans (hq.mono hb.out.size))
      clear hq
      go_wp2_with fail
      go_ret
      exact ⟨rfl, hb.out⟩
end Go.Proofs.Ytiggpgeldigknaa

