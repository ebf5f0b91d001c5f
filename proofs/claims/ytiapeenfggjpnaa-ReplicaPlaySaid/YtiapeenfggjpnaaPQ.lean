/- Replicated servers: the chapter's examples, walked. -/
import Derived.Test.YtiapeenfggjpnaaPP
import Derived.Test.YtiapeenfggjpnaaMd
import Derived.Lib.SmallJoins
set_option linter.unusedVariables false
set_option linter.unusedSimpArgs false
namespace Go.Proofs.Ytiapeenfggjpnaa
open Go.RowKit
def anyB (_ : Nat) : Prop := True
theorem lat_row {α : Type} {f : α → List Value} {s : Nat} (hf : ∀ a, (f a).length = s) {w : World} {g : Nat} {ty : TypeId} {cs : Array Value} {fr : Nat × Nat} (h : w.heap[g]? = some (.cells cs ty fr)) (l : List α) (hc : cs.toList = flat f l) : LAt f s w w.heap.size (some ⟨g, 0, none⟩) l.length l := by
  refine ⟨⟨rfl, hf⟩, flat_len hf l, fun _ => ⟨_, rfl, lt_of_heap h, fun j u hu => ?_⟩⟩
  rw [add_row, cell_of_row _ _ j cs ty fr h, ← Array.getElem?_toList, hc]
  exact hu
def smV (v : Cv) : Prop := 1 ≤ v.servers.length ∧ v.servers.length ≤ 7 ∧ ∀ s ∈ v.servers, s.log.length ≤ 5000 ∧ lenD s.log ≤ 990000
instance (v : Cv) : Decidable (smV v) := by unfold smV; infer_instance
theorem sumD_val (l : List Em) : lenD (l.map Em.val) = sumD l := by unfold lenD sumD; rw [List.map_map]; rfl
theorem sm2_of {w : World} {Q : Nat → Prop} {k : Cm} (h : CmAt w Q k) (hs : smV k.val) : CmSm2 k := by
  have hl : k.val.servers.length = k.n := by
    have : k.servers.length = k.n := h.at_.len
    show (k.servers.map _).length = _
    rw [List.length_map, this]
  obtain ⟨h1, h2, h3⟩ := hs
  refine ⟨by omega, by omega, fun s hs => ?_⟩
  obtain ⟨h4, h5⟩ := h3 s.val (List.mem_map_of_mem hs)
  have h6 : s.log.length = s.n := LogAt.len (h.els s hs)
  have h7 : s.val.log.length = s.log.length := by show (s.log.map _).length = _; rw [List.length_map]
  refine ⟨by omega, ?_⟩
  rw [← sumD_val]
  exact h5
theorem sm2_sm {k : Cm} (h : CmSm2 k) : CmSm k := by
  obtain ⟨h1, h2, h3⟩ := h
  exact ⟨h1, by omega, fun s hs => ⟨(h3 s hs).1, by have := (h3 s hs).2; omega⟩⟩
theorem cl_of {w : World} {Q : Nat → Prop} {k : Cm} {p v m : Int} {sv : List Sv} {n : Nat} (h : CmAt w Q k) (hv : k.val = ⟨p, v, m, sv⟩) (hn : sv.length = n) (Q' : Nat → Prop) (hQ : ∀ b, Q b → Q' b) :
    ∃ A c l, clV k = .agg #[Value.int .i64 p, Value.int .i64 v, Value.int .i64 m, Value.slice A n c] ∧ CmAt w Q' ⟨p, v, m, A, n, c, l⟩ ∧ Cm.val ⟨p, v, m, A, n, c, l⟩ = ⟨p, v, m, sv⟩ := by
  obtain ⟨p', v', m', A, n', c, l⟩ := k
  have hl : l.length = n' := h.at_.len
  simp only [Cm.val, Cv.mk.injEq] at hv
  obtain ⟨rfl, rfl, rfl, rfl⟩ := hv
  rw [List.length_map] at hn
  obtain rfl : n' = n := by omega
  exact ⟨A, c, l, rfl, h.imp hQ, rfl⟩
theorem sv_at {w : World} {Q : Nat → Prop} {p v m : Int} {A : Option Addr} {n c : Nat} {l : List Sm} {sv : List Sv} (h : CmAt w Q ⟨p, v, m, A, n, c, l⟩) (hv : Cm.val ⟨p, v, m, A, n, c, l⟩ = ⟨p, v, m, sv⟩) (hn : sv.length = n) :
    ∃ X : List (Option Addr × Nat), (0 < n → ∃ ad, A = some ad) ∧ ∀ ad, A = some ad → ∀ (j : Nat) (up : Bool) (vw : Int) (lg : List En), sv[j]? = some ⟨up, vw, lg⟩ → ∃ A' c', w.cell? (ad.add (j * 3)) = some (Value.bool up) ∧ w.cell? ⟨(ad.add (j * 3)).block, (ad.add (j * 3)).off + 1, none⟩ = some (Value.int .i64 vw) ∧ w.cell? ⟨(ad.add (j * 3)).block, (ad.add (j * 3)).off + 2, none⟩ = some (Value.slice A' lg.length c') := by
  simp only [Cm.val, Cv.mk.injEq, true_and] at hv
  subst hv
  rw [List.length_map] at hn
  refine ⟨[], fun h0 => ?_, fun ad hA j up vw lg hj => ?_⟩
  · obtain ⟨ad, h1, -⟩ := h.at_.at_ h0
    exact ⟨ad, h1⟩
  · rw [List.getElem?_map, Option.map_eq_some_iff] at hj
    obtain ⟨s, hs, e⟩ := hj
    obtain ⟨hjl, hse⟩ := List.getElem?_eq_some_iff.1 hs
    obtain ⟨ad', hA', -, q1, q2, q3⟩ := sv_cells h.at_ (k := j) (by show j < n; omega)
    have hA' : A = some ad' := hA'
    rw [hA] at hA'
    injection hA' with hA'
    subst hA'
    simp only [hse] at q1 q2 q3
    have hln : s.log.length = s.n := LogAt.len (h.els s (List.mem_of_getElem? hs))
    simp only [Sm.val, Sv.mk.injEq] at e
    obtain ⟨rfl, rfl, rfl⟩ := e
    rw [List.length_map, hln]
    exact ⟨s.A, s.c, q1, q2, q3⟩
set_option maxRecDepth 100000 in
set_option maxHeartbeats 8000000 in
theorem ex_any (w : World) : Calls Try.prog 12 #[] w fun e w' => e = .returned (.bool true) ∧ Below w.heap.size w w' := by
  have hb : Hid (Below w.heap.size w w) := Below.refl _ _
  go_enter Try.func12, Try.ntmps12
  go_wp2_with fail
  refine (new_any 3 w).mono ?_; rintro e w1 ⟨⟨k', rfl, hk', hv'⟩, hq⟩
  rw [show newR 3 = (⟨0, 1, 0, [⟨true, 1, []⟩, ⟨true, 1, []⟩, ⟨true, 1, []⟩]⟩, 0) from rfl] at hv' ⊢
  obtain ⟨A1, c1, l1, he', hk1, hv1⟩ := cl_of hk' hv' (n := 3) rfl anyB (fun _ _ => trivial)
  rw [he']
  clear he' hk' hv' k'
  replace hb := Lib.hid (hb.out.trans ((hq).mono hb.out.size))
  replace hk1 := Lib.hid hk1
  replace hv1 := Lib.hid hv1
  clear hq
  obtain ⟨g1, hg1⟩ : ∃ g, g = w1.heap.size := ⟨_, rfl⟩
  have hq := a1 w1 (.cells #[Value.int .i64 0, Value.int .i64 1, Value.int .i64 0, Value.slice A1 3 c1] 24)
  replace hb := Lib.hid (hb.out.trans ((hq).mono hb.out.size))
  replace hk1 := Lib.hid (hk1.out.more hq)
  have hB1 := Lib.hid (Blk.new w1 24 #[Value.int .i64 0, Value.int .i64 1, Value.int .i64 0, Value.slice A1 3 c1])
  clear hq
  rw [← hg1] at hB1
  go_wp2_with fail
  (try rw [← hg1])
  generalize (w1.alloc (.cells #[Value.int .i64 0, Value.int .i64 1, Value.int .i64 0, Value.slice A1 3 c1] 24)) = u1 at *
  clear hg1
  refine (new_any 0 u1).mono ?_; rintro e w2 ⟨⟨k', rfl, hk', hv'⟩, hq⟩
  rw [show newR 0 = (⟨0, 0, 0, []⟩, 2) from rfl] at hv' ⊢
  obtain ⟨A2, c2, l2, he', hk2, hv2⟩ := cl_of hk' hv' (n := 0) rfl anyB (fun _ _ => trivial)
  rw [he']
  clear he' hk' hv' k'
  replace hb := Lib.hid (hb.out.trans ((hq).mono hb.out.size))
  replace hk1 := Lib.hid (hk1.out.more hq)
  replace hB1 := Lib.hid (hB1.out.below hq hB1.out.lt)
  replace hk2 := Lib.hid hk2
  replace hv2 := Lib.hid hv2
  clear hq
  obtain ⟨g2, hg2⟩ : ∃ g, g = w2.heap.size := ⟨_, rfl⟩
  have hq := a1 w2 (.cells #[Value.int .i64 0, Value.int .i64 0, Value.int .i64 0, Value.slice A2 0 c2] 24)
  replace hb := Lib.hid (hb.out.trans ((hq).mono hb.out.size))
  replace hk1 := Lib.hid (hk1.out.more hq)
  replace hk2 := Lib.hid (hk2.out.more hq)
  replace hB1 := Lib.hid (hB1.out.below hq hB1.out.lt)
  have hB2 := Lib.hid (Blk.new w2 24 #[Value.int .i64 0, Value.int .i64 0, Value.int .i64 0, Value.slice A2 0 c2])
  clear hq
  rw [← hg2] at hB2
  go_wp2_with fail
  (try rw [← hg2])
  generalize (w2.alloc (.cells #[Value.int .i64 0, Value.int .i64 0, Value.int .i64 0, Value.slice A2 0 c2] 24)) = u2 at *
  clear hg2
  refine (new_any 8 u2).mono ?_; rintro e w3 ⟨⟨k', rfl, hk', hv'⟩, hq⟩
  rw [show newR 8 = (⟨0, 0, 0, []⟩, 2) from rfl] at hv' ⊢
  obtain ⟨A3, c3, l3, he', hk3, hv3⟩ := cl_of hk' hv' (n := 0) rfl anyB (fun _ _ => trivial)
  rw [he']
  clear he' hk' hv' k'
  replace hb := Lib.hid (hb.out.trans ((hq).mono hb.out.size))
  replace hk1 := Lib.hid (hk1.out.more hq)
  replace hk2 := Lib.hid (hk2.out.more hq)
  replace hB1 := Lib.hid (hB1.out.below hq hB1.out.lt)
  replace hB2 := Lib.hid (hB2.out.below hq hB2.out.lt)
  replace hk3 := Lib.hid hk3
  replace hv3 := Lib.hid hv3
  clear hq
  obtain ⟨g3, hg3⟩ : ∃ g, g = w3.heap.size := ⟨_, rfl⟩
  have hq := a1 w3 (.cells #[Value.int .i64 0, Value.int .i64 0, Value.int .i64 0, Value.slice A3 0 c3] 24)
  replace hb := Lib.hid (hb.out.trans ((hq).mono hb.out.size))
  replace hk1 := Lib.hid (hk1.out.more hq)
  replace hk2 := Lib.hid (hk2.out.more hq)
  replace hk3 := Lib.hid (hk3.out.more hq)
  replace hB1 := Lib.hid (hB1.out.below hq hB1.out.lt)
  replace hB2 := Lib.hid (hB2.out.below hq hB2.out.lt)
  have hB3 := Lib.hid (Blk.new w3 24 #[Value.int .i64 0, Value.int .i64 0, Value.int .i64 0, Value.slice A3 0 c3])
  clear hq
  rw [← hg3] at hB3
  obtain ⟨ka0, ka1, ka2, ka3⟩ := cells4 ((w3.alloc (.cells #[Value.int .i64 0, Value.int .i64 0, Value.int .i64 0, Value.slice A3 0 c3] 24))) (g1) (Value.int .i64 0) (Value.int .i64 1) (Value.int .i64 0) (Value.slice A1 3 c1) (hB1.out)
  have hc : (convert 25 25 (.slice (some ⟨w3.heap.size + 1, 0, none⟩) 1 1)).run Try.prog ((w3.alloc (.cells #[Value.int .i64 0, Value.int .i64 0, Value.int .i64 0, Value.slice A3 0 c3] 24)).alloc (.cells #[.int .u8 97] 5)) = .ok (.slice (some ⟨w3.heap.size + 1, 0, none⟩) 1 1) ((w3.alloc (.cells #[Value.int .i64 0, Value.int .i64 0, Value.int .i64 0, Value.slice A3 0 c3] 24)).alloc (.cells #[.int .u8 97] 5 (1, 2))) := Go.Joins.run_convert_bytes_const_at (P := Try.prog) (w3.alloc (.cells #[Value.int .i64 0, Value.int .i64 0, Value.int .i64 0, Value.slice A3 0 c3] 24)) 25 5 #[.int .u8 97] 1 1 (w3.heap.size + 1) (by simp) Try.underlying25 Try.underlying5
  go_wp2_with fail
  rw [show w3.heap.size + 1 = (w3.alloc (.cells #[Value.int .i64 0, Value.int .i64 0, Value.int .i64 0, Value.slice A3 0 c3] 24)).heap.size by simp]
  clear hc
  (try rw [← hg3])
  generalize (w3.alloc (.cells #[Value.int .i64 0, Value.int .i64 0, Value.int .i64 0, Value.slice A3 0 c3] 24)) = u3 at *
  clear hg3
  clear ka0 ka1 ka2 ka3
  have hq := a1 u3 (.cells #[Value.int .u8 97] 5 (1, 2))
  replace hb := Lib.hid (hb.out.trans ((hq).mono hb.out.size))
  replace hk1 := Lib.hid (hk1.out.more hq)
  replace hk2 := Lib.hid (hk2.out.more hq)
  replace hk3 := Lib.hid (hk3.out.more hq)
  replace hB1 := Lib.hid (hB1.out.below hq hB1.out.lt)
  replace hB2 := Lib.hid (hB2.out.below hq hB2.out.lt)
  replace hB3 := Lib.hid (hB3.out.below hq hB3.out.lt)
  have hd4 : Hid (BAt (u3.alloc (.cells #[Value.int .u8 97] 5 (1, 2))) (u3.alloc (.cells #[Value.int .u8 97] 5 (1, 2))).heap.size (some ⟨u3.heap.size, 0, none⟩) 1 [97]) := lat_row bC_len (heap_alloc_new u3 (.cells #[Value.int .u8 97] 5 (1, 2))) [97] rfl
  clear hq
  generalize (u3.alloc (.cells #[Value.int .u8 97] 5 (1, 2))) = x4 at *
  refine (submit_any (⟨0, 1, 0, A1, 3, c1, l1⟩ : Cm) _ _ [97] 2 x4 hk1.out (sm2_of hk1.out (by rw [hv1.out]; decide)) (by show (0 : Int) < (3 : Nat); decide) hd4.out).mono ?_; rintro e w4 ⟨⟨k', rfl, hk', hv'⟩, hq⟩
  rw [show submitC (Cm.val (⟨0, 1, 0, A1, 3, c1, l1⟩ : Cm)) [97] 2 = (⟨0, 1, 1, [⟨true, 1, [⟨1, [97]⟩]⟩, ⟨true, 1, [⟨1, [97]⟩]⟩, ⟨true, 1, []⟩]⟩, 0, 0) by rw [hv1.out]; rfl] at hv' ⊢
  obtain ⟨A4, c4, l4, he', hk4, hv4⟩ := cl_of hk' hv' (n := 3) rfl anyB (fun _ _ => trivial)
  rw [he']
  clear he' hk' hv' k'
  replace hb := Lib.hid (hb.out.trans ((hq).mono hb.out.size))
  replace hk1 := Lib.hid (hk1.out.more hq)
  replace hk2 := Lib.hid (hk2.out.more hq)
  replace hk3 := Lib.hid (hk3.out.more hq)
  replace hB1 := Lib.hid (hB1.out.below hq hB1.out.lt)
  replace hB2 := Lib.hid (hB2.out.below hq hB2.out.lt)
  replace hB3 := Lib.hid (hB3.out.below hq hB3.out.lt)
  replace hk4 := Lib.hid hk4
  replace hv4 := Lib.hid hv4
  clear hq
  clear hd4
  obtain ⟨g4, hg4⟩ : ∃ g, g = w4.heap.size := ⟨_, rfl⟩
  have hq := a1 w4 (.cells #[Value.int .i64 0, Value.int .i64 1, Value.int .i64 1, Value.slice A4 3 c4] 24)
  replace hb := Lib.hid (hb.out.trans ((hq).mono hb.out.size))
  replace hk1 := Lib.hid (hk1.out.more hq)
  replace hk2 := Lib.hid (hk2.out.more hq)
  replace hk3 := Lib.hid (hk3.out.more hq)
  replace hk4 := Lib.hid (hk4.out.more hq)
  replace hB1 := Lib.hid (hB1.out.below hq hB1.out.lt)
  replace hB2 := Lib.hid (hB2.out.below hq hB2.out.lt)
  replace hB3 := Lib.hid (hB3.out.below hq hB3.out.lt)
  have hB4 := Lib.hid (Blk.new w4 24 #[Value.int .i64 0, Value.int .i64 1, Value.int .i64 1, Value.slice A4 3 c4])
  clear hq
  rw [← hg4] at hB4
  obtain ⟨ka0, ka1, ka2, ka3⟩ := cells4 ((w4.alloc (.cells #[Value.int .i64 0, Value.int .i64 1, Value.int .i64 1, Value.slice A4 3 c4] 24))) (g1) (Value.int .i64 0) (Value.int .i64 1) (Value.int .i64 0) (Value.slice A1 3 c1) (hB1.out)
  have hc : (convert 25 25 (.slice (some ⟨w4.heap.size + 1, 0, none⟩) 1 1)).run Try.prog ((w4.alloc (.cells #[Value.int .i64 0, Value.int .i64 1, Value.int .i64 1, Value.slice A4 3 c4] 24)).alloc (.cells #[.int .u8 97] 5)) = .ok (.slice (some ⟨w4.heap.size + 1, 0, none⟩) 1 1) ((w4.alloc (.cells #[Value.int .i64 0, Value.int .i64 1, Value.int .i64 1, Value.slice A4 3 c4] 24)).alloc (.cells #[.int .u8 97] 5 (1, 2))) := Go.Joins.run_convert_bytes_const_at (P := Try.prog) (w4.alloc (.cells #[Value.int .i64 0, Value.int .i64 1, Value.int .i64 1, Value.slice A4 3 c4] 24)) 25 5 #[.int .u8 97] 1 1 (w4.heap.size + 1) (by simp) Try.underlying25 Try.underlying5
  go_wp2_with fail
  rw [show w4.heap.size + 1 = (w4.alloc (.cells #[Value.int .i64 0, Value.int .i64 1, Value.int .i64 1, Value.slice A4 3 c4] 24)).heap.size by simp]
  clear hc
  (try rw [← hg4])
  generalize (w4.alloc (.cells #[Value.int .i64 0, Value.int .i64 1, Value.int .i64 1, Value.slice A4 3 c4] 24)) = u4 at *
  clear hg4
  clear ka0 ka1 ka2 ka3
  have hq := a1 u4 (.cells #[Value.int .u8 97] 5 (1, 2))
  replace hb := Lib.hid (hb.out.trans ((hq).mono hb.out.size))
  replace hk1 := Lib.hid (hk1.out.more hq)
  replace hk2 := Lib.hid (hk2.out.more hq)
  replace hk3 := Lib.hid (hk3.out.more hq)
  replace hk4 := Lib.hid (hk4.out.more hq)
  replace hB1 := Lib.hid (hB1.out.below hq hB1.out.lt)
  replace hB2 := Lib.hid (hB2.out.below hq hB2.out.lt)
  replace hB3 := Lib.hid (hB3.out.below hq hB3.out.lt)
  replace hB4 := Lib.hid (hB4.out.below hq hB4.out.lt)
  have hd5 : Hid (BAt (u4.alloc (.cells #[Value.int .u8 97] 5 (1, 2))) (u4.alloc (.cells #[Value.int .u8 97] 5 (1, 2))).heap.size (some ⟨u4.heap.size, 0, none⟩) 1 [97]) := lat_row bC_len (heap_alloc_new u4 (.cells #[Value.int .u8 97] 5 (1, 2))) [97] rfl
  clear hq
  generalize (u4.alloc (.cells #[Value.int .u8 97] 5 (1, 2))) = x5 at *
  refine (submit_any (⟨0, 1, 0, A1, 3, c1, l1⟩ : Cm) _ _ [97] 1 x5 hk1.out (sm2_of hk1.out (by rw [hv1.out]; decide)) (by show (0 : Int) < (3 : Nat); decide) hd5.out).mono ?_; rintro e w5 ⟨⟨k', rfl, hk', hv'⟩, hq⟩
  rw [show submitC (Cm.val (⟨0, 1, 0, A1, 3, c1, l1⟩ : Cm)) [97] 1 = (⟨-1, 1, 0, [⟨false, 1, [⟨1, [97]⟩]⟩, ⟨true, 1, []⟩, ⟨true, 1, []⟩]⟩, 0, 18) by rw [hv1.out]; rfl] at hv' ⊢
  obtain ⟨A5, c5, l5, he', hk5, hv5⟩ := cl_of hk' hv' (n := 3) rfl anyB (fun _ _ => trivial)
  rw [he']
  clear he' hk' hv' k'
  replace hb := Lib.hid (hb.out.trans ((hq).mono hb.out.size))
  replace hk1 := Lib.hid (hk1.out.more hq)
  replace hk2 := Lib.hid (hk2.out.more hq)
  replace hk3 := Lib.hid (hk3.out.more hq)
  replace hk4 := Lib.hid (hk4.out.more hq)
  replace hB1 := Lib.hid (hB1.out.below hq hB1.out.lt)
  replace hB2 := Lib.hid (hB2.out.below hq hB2.out.lt)
  replace hB3 := Lib.hid (hB3.out.below hq hB3.out.lt)
  replace hB4 := Lib.hid (hB4.out.below hq hB4.out.lt)
  replace hk5 := Lib.hid hk5
  replace hv5 := Lib.hid hv5
  clear hq
  clear hd5
  obtain ⟨g5, hg5⟩ : ∃ g, g = w5.heap.size := ⟨_, rfl⟩
  have hq := a1 w5 (.cells #[Value.int .i64 (-1), Value.int .i64 1, Value.int .i64 0, Value.slice A5 3 c5] 24)
  replace hb := Lib.hid (hb.out.trans ((hq).mono hb.out.size))
  replace hk1 := Lib.hid (hk1.out.more hq)
  replace hk2 := Lib.hid (hk2.out.more hq)
  replace hk3 := Lib.hid (hk3.out.more hq)
  replace hk4 := Lib.hid (hk4.out.more hq)
  replace hk5 := Lib.hid (hk5.out.more hq)
  replace hB1 := Lib.hid (hB1.out.below hq hB1.out.lt)
  replace hB2 := Lib.hid (hB2.out.below hq hB2.out.lt)
  replace hB3 := Lib.hid (hB3.out.below hq hB3.out.lt)
  replace hB4 := Lib.hid (hB4.out.below hq hB4.out.lt)
  have hB5 := Lib.hid (Blk.new w5 24 #[Value.int .i64 (-1), Value.int .i64 1, Value.int .i64 0, Value.slice A5 3 c5])
  clear hq
  rw [← hg5] at hB5
  obtain ⟨ka0, ka1, ka2, ka3⟩ := cells4 ((w5.alloc (.cells #[Value.int .i64 (-1), Value.int .i64 1, Value.int .i64 0, Value.slice A5 3 c5] 24))) (g1) (Value.int .i64 0) (Value.int .i64 1) (Value.int .i64 0) (Value.slice A1 3 c1) (hB1.out)
  go_wp2_with fail
  (try rw [← hg5])
  generalize (w5.alloc (.cells #[Value.int .i64 (-1), Value.int .i64 1, Value.int .i64 0, Value.slice A5 3 c5] 24)) = u5 at *
  clear hg5
  clear ka0 ka1 ka2 ka3
  refine (restart_any (⟨0, 1, 0, A1, 3, c1, l1⟩ : Cm) 1 u5 hk1.out (sm2_sm (sm2_of hk1.out (by rw [hv1.out]; decide)))).mono ?_; rintro e w6 ⟨⟨k', rfl, hk', hv'⟩, hq⟩
  rw [show restartC (Cm.val (⟨0, 1, 0, A1, 3, c1, l1⟩ : Cm)) 1 = (⟨0, 1, 0, [⟨true, 1, []⟩, ⟨true, 1, []⟩, ⟨true, 1, []⟩]⟩, 10) by rw [hv1.out]; rfl] at hv' ⊢
  obtain ⟨A6, c6, l6, he', hk6, hv6⟩ := cl_of hk' hv' (n := 3) rfl anyB (fun _ _ => trivial)
  rw [he']
  clear he' hk' hv' k'
  replace hb := Lib.hid (hb.out.trans ((hq).mono hb.out.size))
  replace hk1 := Lib.hid (hk1.out.more hq)
  replace hk2 := Lib.hid (hk2.out.more hq)
  replace hk3 := Lib.hid (hk3.out.more hq)
  replace hk4 := Lib.hid (hk4.out.more hq)
  replace hk5 := Lib.hid (hk5.out.more hq)
  replace hB1 := Lib.hid (hB1.out.below hq hB1.out.lt)
  replace hB2 := Lib.hid (hB2.out.below hq hB2.out.lt)
  replace hB3 := Lib.hid (hB3.out.below hq hB3.out.lt)
  replace hB4 := Lib.hid (hB4.out.below hq hB4.out.lt)
  replace hB5 := Lib.hid (hB5.out.below hq hB5.out.lt)
  replace hk6 := Lib.hid hk6
  replace hv6 := Lib.hid hv6
  clear hq
  obtain ⟨g6, hg6⟩ : ∃ g, g = w6.heap.size := ⟨_, rfl⟩
  have hq := a1 w6 (.cells #[Value.int .i64 0, Value.int .i64 1, Value.int .i64 0, Value.slice A6 3 c6] 24)
  replace hb := Lib.hid (hb.out.trans ((hq).mono hb.out.size))
  replace hk1 := Lib.hid (hk1.out.more hq)
  replace hk2 := Lib.hid (hk2.out.more hq)
  replace hk3 := Lib.hid (hk3.out.more hq)
  replace hk4 := Lib.hid (hk4.out.more hq)
  replace hk5 := Lib.hid (hk5.out.more hq)
  replace hk6 := Lib.hid (hk6.out.more hq)
  replace hB1 := Lib.hid (hB1.out.below hq hB1.out.lt)
  replace hB2 := Lib.hid (hB2.out.below hq hB2.out.lt)
  replace hB3 := Lib.hid (hB3.out.below hq hB3.out.lt)
  replace hB4 := Lib.hid (hB4.out.below hq hB4.out.lt)
  replace hB5 := Lib.hid (hB5.out.below hq hB5.out.lt)
  have hB6 := Lib.hid (Blk.new w6 24 #[Value.int .i64 0, Value.int .i64 1, Value.int .i64 0, Value.slice A6 3 c6])
  clear hq
  rw [← hg6] at hB6
  obtain ⟨ka0, ka1, ka2, ka3⟩ := cells4 ((w6.alloc (.cells #[Value.int .i64 0, Value.int .i64 1, Value.int .i64 0, Value.slice A6 3 c6] 24))) (g5) (Value.int .i64 (-1)) (Value.int .i64 1) (Value.int .i64 0) (Value.slice A5 3 c5) (hB5.out)
  go_wp2_with fail
  (try rw [← hg6])
  generalize (w6.alloc (.cells #[Value.int .i64 0, Value.int .i64 1, Value.int .i64 0, Value.slice A6 3 c6] 24)) = u6 at *
  clear hg6
  clear ka0 ka1 ka2 ka3
  refine (tick_any (⟨-1, 1, 0, A5, 3, c5, l5⟩ : Cm) u6 hk5.out (sm2_of hk5.out (by rw [hv5.out]; decide)) (by show (-1 : Int) < (3 : Nat); decide) (by show (1 : Int) ≤ 1 ∧ (1 : Int) ≤ 2147483647; decide) (by rw [hv5.out]; exact fun p hp => by cases hp)).mono ?_; rintro e w7 ⟨⟨k', rfl, hk', hv'⟩, hq⟩
  rw [show tickC (Cm.val (⟨-1, 1, 0, A5, 3, c5, l5⟩ : Cm)) = ⟨1, 2, 0, [⟨false, 1, [⟨1, [97]⟩]⟩, ⟨true, 2, []⟩, ⟨true, 2, []⟩]⟩ by rw [hv5.out]; rfl] at hv'
  obtain ⟨A7, c7, l7, he', hk7, hv7⟩ := cl_of hk' hv' (n := 3) rfl anyB (fun _ _ => trivial)
  rw [he']
  clear he' hk' hv' k'
  replace hb := Lib.hid (hb.out.trans ((hq).mono hb.out.size))
  replace hk1 := Lib.hid (hk1.out.more hq)
  replace hk2 := Lib.hid (hk2.out.more hq)
  replace hk3 := Lib.hid (hk3.out.more hq)
  replace hk4 := Lib.hid (hk4.out.more hq)
  replace hk5 := Lib.hid (hk5.out.more hq)
  replace hk6 := Lib.hid (hk6.out.more hq)
  replace hB1 := Lib.hid (hB1.out.below hq hB1.out.lt)
  replace hB2 := Lib.hid (hB2.out.below hq hB2.out.lt)
  replace hB3 := Lib.hid (hB3.out.below hq hB3.out.lt)
  replace hB4 := Lib.hid (hB4.out.below hq hB4.out.lt)
  replace hB5 := Lib.hid (hB5.out.below hq hB5.out.lt)
  replace hB6 := Lib.hid (hB6.out.below hq hB6.out.lt)
  replace hk7 := Lib.hid hk7
  replace hv7 := Lib.hid hv7
  clear hq
  obtain ⟨g7, hg7⟩ : ∃ g, g = w7.heap.size := ⟨_, rfl⟩
  have hq := a1 w7 (.cells #[Value.int .i64 1, Value.int .i64 2, Value.int .i64 0, Value.slice A7 3 c7] 24)
  replace hb := Lib.hid (hb.out.trans ((hq).mono hb.out.size))
  replace hk1 := Lib.hid (hk1.out.more hq)
  replace hk2 := Lib.hid (hk2.out.more hq)
  replace hk3 := Lib.hid (hk3.out.more hq)
  replace hk4 := Lib.hid (hk4.out.more hq)
  replace hk5 := Lib.hid (hk5.out.more hq)
  replace hk6 := Lib.hid (hk6.out.more hq)
  replace hk7 := Lib.hid (hk7.out.more hq)
  replace hB1 := Lib.hid (hB1.out.below hq hB1.out.lt)
  replace hB2 := Lib.hid (hB2.out.below hq hB2.out.lt)
  replace hB3 := Lib.hid (hB3.out.below hq hB3.out.lt)
  replace hB4 := Lib.hid (hB4.out.below hq hB4.out.lt)
  replace hB5 := Lib.hid (hB5.out.below hq hB5.out.lt)
  replace hB6 := Lib.hid (hB6.out.below hq hB6.out.lt)
  have hB7 := Lib.hid (Blk.new w7 24 #[Value.int .i64 1, Value.int .i64 2, Value.int .i64 0, Value.slice A7 3 c7])
  clear hq
  rw [← hg7] at hB7
  obtain ⟨ka0, ka1, ka2, ka3⟩ := cells4 ((w7.alloc (.cells #[Value.int .i64 1, Value.int .i64 2, Value.int .i64 0, Value.slice A7 3 c7] 24))) (g7) (Value.int .i64 1) (Value.int .i64 2) (Value.int .i64 0) (Value.slice A7 3 c7) (hB7.out)
  go_wp2_with fail
  (try rw [← hg7])
  generalize (w7.alloc (.cells #[Value.int .i64 1, Value.int .i64 2, Value.int .i64 0, Value.slice A7 3 c7] 24)) = u7 at *
  clear hg7
  clear ka0 ka1 ka2 ka3
  refine (restart_any (⟨1, 2, 0, A7, 3, c7, l7⟩ : Cm) 0 u7 hk7.out (sm2_sm (sm2_of hk7.out (by rw [hv7.out]; decide)))).mono ?_; rintro e w8 ⟨⟨k', rfl, hk', hv'⟩, hq⟩
  rw [show restartC (Cm.val (⟨1, 2, 0, A7, 3, c7, l7⟩ : Cm)) 0 = (⟨1, 2, 0, [⟨true, 1, [⟨1, [97]⟩]⟩, ⟨true, 2, []⟩, ⟨true, 2, []⟩]⟩, 0) by rw [hv7.out]; rfl] at hv' ⊢
  obtain ⟨A8, c8, l8, he', hk8, hv8⟩ := cl_of hk' hv' (n := 3) rfl anyB (fun _ _ => trivial)
  rw [he']
  clear he' hk' hv' k'
  replace hb := Lib.hid (hb.out.trans ((hq).mono hb.out.size))
  replace hk1 := Lib.hid (hk1.out.more hq)
  replace hk2 := Lib.hid (hk2.out.more hq)
  replace hk3 := Lib.hid (hk3.out.more hq)
  replace hk4 := Lib.hid (hk4.out.more hq)
  replace hk5 := Lib.hid (hk5.out.more hq)
  replace hk6 := Lib.hid (hk6.out.more hq)
  replace hk7 := Lib.hid (hk7.out.more hq)
  replace hB1 := Lib.hid (hB1.out.below hq hB1.out.lt)
  replace hB2 := Lib.hid (hB2.out.below hq hB2.out.lt)
  replace hB3 := Lib.hid (hB3.out.below hq hB3.out.lt)
  replace hB4 := Lib.hid (hB4.out.below hq hB4.out.lt)
  replace hB5 := Lib.hid (hB5.out.below hq hB5.out.lt)
  replace hB6 := Lib.hid (hB6.out.below hq hB6.out.lt)
  replace hB7 := Lib.hid (hB7.out.below hq hB7.out.lt)
  replace hk8 := Lib.hid hk8
  replace hv8 := Lib.hid hv8
  clear hq
  obtain ⟨g8, hg8⟩ : ∃ g, g = w8.heap.size := ⟨_, rfl⟩
  replace hk1 := Lib.hid ((hk1.out.lt).imp (Q' := fun b => b ≠ g8) (fun b h => by rw [hg8]; exact Nat.ne_of_lt h.2))
  clear hk2 hv2
  clear hk3 hv3
  replace hk4 := Lib.hid ((hk4.out.lt).imp (Q' := fun b => b ≠ g8) (fun b h => by rw [hg8]; exact Nat.ne_of_lt h.2))
  replace hk5 := Lib.hid ((hk5.out.lt).imp (Q' := fun b => b ≠ g8) (fun b h => by rw [hg8]; exact Nat.ne_of_lt h.2))
  clear hk6 hv6
  clear hk7 hv7
  replace hk8 := Lib.hid ((hk8.out.lt).imp (Q' := fun b => b ≠ g8) (fun b h => by rw [hg8]; exact Nat.ne_of_lt h.2))
  have hgl : Hid (w.heap.size ≤ g8) := by show _ ≤ _; rw [hg8]; exact hb.out.size
  have hn1 : Hid (g1 ≠ g8) := by show _ ≠ _; rw [hg8]; exact Nat.ne_of_lt hB1.out.lt
  have hn2 : Hid (g2 ≠ g8) := by show _ ≠ _; rw [hg8]; exact Nat.ne_of_lt hB2.out.lt
  have hn3 : Hid (g3 ≠ g8) := by show _ ≠ _; rw [hg8]; exact Nat.ne_of_lt hB3.out.lt
  have hn4 : Hid (g4 ≠ g8) := by show _ ≠ _; rw [hg8]; exact Nat.ne_of_lt hB4.out.lt
  have hn5 : Hid (g5 ≠ g8) := by show _ ≠ _; rw [hg8]; exact Nat.ne_of_lt hB5.out.lt
  have hn6 : Hid (g6 ≠ g8) := by show _ ≠ _; rw [hg8]; exact Nat.ne_of_lt hB6.out.lt
  have hn7 : Hid (g7 ≠ g8) := by show _ ≠ _; rw [hg8]; exact Nat.ne_of_lt hB7.out.lt
  have hq := a1 w8 (.cells #[Value.int .i64 1, Value.int .i64 2, Value.int .i64 0, Value.slice A8 3 c8] 24)
  replace hb := Lib.hid (hb.out.trans ((hq).mono hb.out.size))
  replace hk1 := Lib.hid (hk1.out.more hq)
  replace hk4 := Lib.hid (hk4.out.more hq)
  replace hk5 := Lib.hid (hk5.out.more hq)
  replace hk8 := Lib.hid (hk8.out.more hq)
  replace hB1 := Lib.hid (hB1.out.below hq hB1.out.lt)
  replace hB2 := Lib.hid (hB2.out.below hq hB2.out.lt)
  replace hB3 := Lib.hid (hB3.out.below hq hB3.out.lt)
  replace hB4 := Lib.hid (hB4.out.below hq hB4.out.lt)
  replace hB5 := Lib.hid (hB5.out.below hq hB5.out.lt)
  replace hB6 := Lib.hid (hB6.out.below hq hB6.out.lt)
  replace hB7 := Lib.hid (hB7.out.below hq hB7.out.lt)
  have hB8 := Lib.hid (Blk.new w8 24 #[Value.int .i64 1, Value.int .i64 2, Value.int .i64 0, Value.slice A8 3 c8])
  clear hq
  rw [← hg8] at hB8
  obtain ⟨ka0, ka1, ka2, ka3⟩ := cells4 ((w8.alloc (.cells #[Value.int .i64 1, Value.int .i64 2, Value.int .i64 0, Value.slice A8 3 c8] 24))) (g8) (Value.int .i64 1) (Value.int .i64 2) (Value.int .i64 0) (Value.slice A8 3 c8) (hB8.out)
  go_wp2_with fail
  (try rw [← hg8])
  generalize (w8.alloc (.cells #[Value.int .i64 1, Value.int .i64 2, Value.int .i64 0, Value.slice A8 3 c8] 24)) = u8 at *
  clear hg8
  clear ka0 ka1 ka2 ka3
  refine (tick_any (⟨1, 2, 0, A8, 3, c8, l8⟩ : Cm) u8 hk8.out (sm2_of hk8.out (by rw [hv8.out]; decide)) (by show (1 : Int) < (3 : Nat); decide) (by show (1 : Int) ≤ 2 ∧ (2 : Int) ≤ 2147483647; decide) (by rw [hv8.out]; exact fun p hp => by injection hp with hp; rw [← hp])).mono ?_; rintro e w9 ⟨⟨k', rfl, hk', hv'⟩, hq⟩
  rw [show tickC (Cm.val (⟨1, 2, 0, A8, 3, c8, l8⟩ : Cm)) = ⟨1, 2, 0, [⟨true, 2, []⟩, ⟨true, 2, []⟩, ⟨true, 2, []⟩]⟩ by rw [hv8.out]; rfl] at hv'
  obtain ⟨A9, c9, l9, he', hk9, hv9⟩ := cl_of hk' hv' (n := 3) rfl (fun b => b ≠ g8) (fun b h => h.elim (fun h => h) (fun h e => by subst e; exact absurd hB8.out.lt (by omega)))
  rw [he']
  clear he' hk' hv' k'
  replace hb := Lib.hid (hb.out.trans ((hq).mono hb.out.size))
  replace hk1 := Lib.hid (hk1.out.more hq)
  replace hk4 := Lib.hid (hk4.out.more hq)
  replace hk5 := Lib.hid (hk5.out.more hq)
  replace hk8 := Lib.hid (hk8.out.more hq)
  replace hB1 := Lib.hid (hB1.out.below hq hB1.out.lt)
  replace hB2 := Lib.hid (hB2.out.below hq hB2.out.lt)
  replace hB3 := Lib.hid (hB3.out.below hq hB3.out.lt)
  replace hB4 := Lib.hid (hB4.out.below hq hB4.out.lt)
  replace hB5 := Lib.hid (hB5.out.below hq hB5.out.lt)
  replace hB6 := Lib.hid (hB6.out.below hq hB6.out.lt)
  replace hB7 := Lib.hid (hB7.out.below hq hB7.out.lt)
  replace hB8 := Lib.hid (hB8.out.below hq hB8.out.lt)
  replace hk9 := Lib.hid hk9
  replace hv9 := Lib.hid hv9
  clear hq
  obtain ⟨m0, m1, m2, m3, z0, z1, z2, z3⟩ := cells4z (w9) (g8) (Value.int .i64 1) (Value.int .i64 2) (Value.int .i64 0) (Value.slice A8 3 c8) (hB8.out)
  have hgr := grown_set4 w9 g8 (Value.int .i64 1) (Value.int .i64 2) (Value.int .i64 0) (Value.slice A9 3 c9)
  replace hb : Hid (Below w.heap.size w ((((w9.setCell ⟨g8, 0, none⟩ (Value.int .i64 1)).setCell ⟨g8, 1, none⟩ (Value.int .i64 2)).setCell ⟨g8, 2, none⟩ (Value.int .i64 0)).setCell ⟨g8, 3, none⟩ (Value.slice A9 3 c9))) := below_set4 hb.out hgl.out (Value.int .i64 1) (Value.int .i64 2) (Value.int .i64 0) (Value.slice A9 3 c9)
  replace hB8 := Lib.hid (cl_set4 hB8.out (Value.int .i64 1) (Value.int .i64 2) (Value.int .i64 0) (Value.slice A9 3 c9))
  replace hB1 := Lib.hid (hB1.out.grown hgr (by simpa using hn1.out))
  replace hB4 := Lib.hid (hB4.out.grown hgr (by simpa using hn4.out))
  replace hB5 := Lib.hid (hB5.out.grown hgr (by simpa using hn5.out))
  replace hB7 := Lib.hid (hB7.out.grown hgr (by simpa using hn7.out))
  clear hB2 hn2
  clear hB3 hn3
  clear hB6 hn6
  replace hk1 := Lib.hid (hk1.out.st hgr (fun b hb e => by injection e with e; exact hb e))
  replace hk4 := Lib.hid (hk4.out.st hgr (fun b hb e => by injection e with e; exact hb e))
  replace hk5 := Lib.hid (hk5.out.st hgr (fun b hb e => by injection e with e; exact hb e))
  replace hk8 := Lib.hid (hk8.out.st hgr (fun b hb e => by injection e with e; exact hb e))
  replace hk9 := Lib.hid (hk9.out.st hgr (fun b hb e => by injection e with e; exact hb e))
  clear hgr hn1 hn4 hn5 hn7
  obtain ⟨ka0, ka1, ka2, ka3⟩ := cells4 (((((w9.setCell ⟨g8, 0, none⟩ (Value.int .i64 1)).setCell ⟨g8, 1, none⟩ (Value.int .i64 2)).setCell ⟨g8, 2, none⟩ (Value.int .i64 0)).setCell ⟨g8, 3, none⟩ (Value.slice A9 3 c9))) (g1) (Value.int .i64 0) (Value.int .i64 1) (Value.int .i64 0) (Value.slice A1 3 c1) (hB1.out)
  obtain ⟨kb0, kb1, kb2, kb3⟩ := cells4 (((((w9.setCell ⟨g8, 0, none⟩ (Value.int .i64 1)).setCell ⟨g8, 1, none⟩ (Value.int .i64 2)).setCell ⟨g8, 2, none⟩ (Value.int .i64 0)).setCell ⟨g8, 3, none⟩ (Value.slice A9 3 c9))) (g4) (Value.int .i64 0) (Value.int .i64 1) (Value.int .i64 1) (Value.slice A4 3 c4) (hB4.out)
  obtain ⟨kc0, kc1, kc2, kc3⟩ := cells4 (((((w9.setCell ⟨g8, 0, none⟩ (Value.int .i64 1)).setCell ⟨g8, 1, none⟩ (Value.int .i64 2)).setCell ⟨g8, 2, none⟩ (Value.int .i64 0)).setCell ⟨g8, 3, none⟩ (Value.slice A9 3 c9))) (g5) (Value.int .i64 (-1)) (Value.int .i64 1) (Value.int .i64 0) (Value.slice A5 3 c5) (hB5.out)
  obtain ⟨kd0, kd1, kd2, kd3⟩ := cells4 (((((w9.setCell ⟨g8, 0, none⟩ (Value.int .i64 1)).setCell ⟨g8, 1, none⟩ (Value.int .i64 2)).setCell ⟨g8, 2, none⟩ (Value.int .i64 0)).setCell ⟨g8, 3, none⟩ (Value.slice A9 3 c9))) (g8) (Value.int .i64 1) (Value.int .i64 2) (Value.int .i64 0) (Value.slice A9 3 c9) (hB8.out)
  have hc : (convert 25 25 (.slice (some ⟨w9.heap.size, 0, none⟩) 1 1)).run Try.prog (((((w9.setCell ⟨g8, 0, none⟩ (Value.int .i64 1)).setCell ⟨g8, 1, none⟩ (Value.int .i64 2)).setCell ⟨g8, 2, none⟩ (Value.int .i64 0)).setCell ⟨g8, 3, none⟩ (Value.slice A9 3 c9)).alloc (.cells #[.int .u8 97] 5)) = .ok (.slice (some ⟨w9.heap.size, 0, none⟩) 1 1) (((((w9.setCell ⟨g8, 0, none⟩ (Value.int .i64 1)).setCell ⟨g8, 1, none⟩ (Value.int .i64 2)).setCell ⟨g8, 2, none⟩ (Value.int .i64 0)).setCell ⟨g8, 3, none⟩ (Value.slice A9 3 c9)).alloc (.cells #[.int .u8 97] 5 (1, 2))) := Go.Joins.run_convert_bytes_const_at (P := Try.prog) ((((w9.setCell ⟨g8, 0, none⟩ (Value.int .i64 1)).setCell ⟨g8, 1, none⟩ (Value.int .i64 2)).setCell ⟨g8, 2, none⟩ (Value.int .i64 0)).setCell ⟨g8, 3, none⟩ (Value.slice A9 3 c9)) 25 5 #[.int .u8 97] 1 1 (w9.heap.size) (by simp) Try.underlying25 Try.underlying5
  go_wp2_with fail
  rw [show w9.heap.size = ((((w9.setCell ⟨g8, 0, none⟩ (Value.int .i64 1)).setCell ⟨g8, 1, none⟩ (Value.int .i64 2)).setCell ⟨g8, 2, none⟩ (Value.int .i64 0)).setCell ⟨g8, 3, none⟩ (Value.slice A9 3 c9)).heap.size by simp]
  clear hc
  generalize ((((w9.setCell ⟨g8, 0, none⟩ (Value.int .i64 1)).setCell ⟨g8, 1, none⟩ (Value.int .i64 2)).setCell ⟨g8, 2, none⟩ (Value.int .i64 0)).setCell ⟨g8, 3, none⟩ (Value.slice A9 3 c9)) = u9 at *
  clear ka0 ka1 ka2 ka3 kb0 kb1 kb2 kb3 kc0 kc1 kc2 kc3 kd0 kd1 kd2 kd3 m0 m1 m2 m3 z0 z1 z2 z3
  have hq := a1 u9 (.cells #[Value.int .u8 97] 5 (1, 2))
  replace hb := Lib.hid (hb.out.trans ((hq).mono hb.out.size))
  replace hk1 := Lib.hid (hk1.out.more hq)
  replace hk4 := Lib.hid (hk4.out.more hq)
  replace hk5 := Lib.hid (hk5.out.more hq)
  replace hk8 := Lib.hid (hk8.out.more hq)
  replace hk9 := Lib.hid (hk9.out.more hq)
  replace hB1 := Lib.hid (hB1.out.below hq hB1.out.lt)
  replace hB4 := Lib.hid (hB4.out.below hq hB4.out.lt)
  replace hB5 := Lib.hid (hB5.out.below hq hB5.out.lt)
  replace hB7 := Lib.hid (hB7.out.below hq hB7.out.lt)
  replace hB8 := Lib.hid (hB8.out.below hq hB8.out.lt)
  have hd10 : Hid (BAt (u9.alloc (.cells #[Value.int .u8 97] 5 (1, 2))) (u9.alloc (.cells #[Value.int .u8 97] 5 (1, 2))).heap.size (some ⟨u9.heap.size, 0, none⟩) 1 [97]) := lat_row bC_len (heap_alloc_new u9 (.cells #[Value.int .u8 97] 5 (1, 2))) [97] rfl
  clear hq
  generalize (u9.alloc (.cells #[Value.int .u8 97] 5 (1, 2))) = x10 at *
  refine (submit_any (⟨0, 1, 0, A1, 3, c1, l1⟩ : Cm) _ _ [97] 0 x10 hk1.out (sm2_of hk1.out (by rw [hv1.out]; decide)) (by show (0 : Int) < (3 : Nat); decide) hd10.out).mono ?_; rintro e w10 ⟨⟨k', rfl, hk', hv'⟩, hq⟩
  rw [show submitC (Cm.val (⟨0, 1, 0, A1, 3, c1, l1⟩ : Cm)) [97] 0 = (⟨0, 1, 1, [⟨true, 1, [⟨1, [97]⟩]⟩, ⟨true, 1, [⟨1, [97]⟩]⟩, ⟨true, 1, [⟨1, [97]⟩]⟩]⟩, 0, 0) by rw [hv1.out]; rfl] at hv' ⊢
  obtain ⟨A10, c10, l10, he', hk10, hv10⟩ := cl_of hk' hv' (n := 3) rfl anyB (fun _ _ => trivial)
  rw [he']
  clear he' hk' hv' k'
  replace hb := Lib.hid (hb.out.trans ((hq).mono hb.out.size))
  replace hk1 := Lib.hid (hk1.out.more hq)
  replace hk4 := Lib.hid (hk4.out.more hq)
  replace hk5 := Lib.hid (hk5.out.more hq)
  replace hk8 := Lib.hid (hk8.out.more hq)
  replace hk9 := Lib.hid (hk9.out.more hq)
  replace hB1 := Lib.hid (hB1.out.below hq hB1.out.lt)
  replace hB4 := Lib.hid (hB4.out.below hq hB4.out.lt)
  replace hB5 := Lib.hid (hB5.out.below hq hB5.out.lt)
  replace hB7 := Lib.hid (hB7.out.below hq hB7.out.lt)
  replace hB8 := Lib.hid (hB8.out.below hq hB8.out.lt)
  replace hk10 := Lib.hid hk10
  replace hv10 := Lib.hid hv10
  clear hq
  clear hd10
  obtain ⟨g10, hg10⟩ : ∃ g, g = w10.heap.size := ⟨_, rfl⟩
  have hq := a1 w10 (.cells #[Value.int .i64 0, Value.int .i64 1, Value.int .i64 1, Value.slice A10 3 c10] 24)
  replace hb := Lib.hid (hb.out.trans ((hq).mono hb.out.size))
  replace hk1 := Lib.hid (hk1.out.more hq)
  replace hk4 := Lib.hid (hk4.out.more hq)
  replace hk5 := Lib.hid (hk5.out.more hq)
  replace hk8 := Lib.hid (hk8.out.more hq)
  replace hk9 := Lib.hid (hk9.out.more hq)
  replace hk10 := Lib.hid (hk10.out.more hq)
  replace hB1 := Lib.hid (hB1.out.below hq hB1.out.lt)
  replace hB4 := Lib.hid (hB4.out.below hq hB4.out.lt)
  replace hB5 := Lib.hid (hB5.out.below hq hB5.out.lt)
  replace hB7 := Lib.hid (hB7.out.below hq hB7.out.lt)
  replace hB8 := Lib.hid (hB8.out.below hq hB8.out.lt)
  have hB10 := Lib.hid (Blk.new w10 24 #[Value.int .i64 0, Value.int .i64 1, Value.int .i64 1, Value.slice A10 3 c10])
  clear hq
  rw [← hg10] at hB10
  obtain ⟨ka0, ka1, ka2, ka3⟩ := cells4 ((w10.alloc (.cells #[Value.int .i64 0, Value.int .i64 1, Value.int .i64 1, Value.slice A10 3 c10] 24))) (g10) (Value.int .i64 0) (Value.int .i64 1) (Value.int .i64 1) (Value.slice A10 3 c10) (hB10.out)
  have hc : (convert 25 25 (.slice (some ⟨w10.heap.size + 1, 0, none⟩) 1 1)).run Try.prog ((w10.alloc (.cells #[Value.int .i64 0, Value.int .i64 1, Value.int .i64 1, Value.slice A10 3 c10] 24)).alloc (.cells #[.int .u8 98] 5)) = .ok (.slice (some ⟨w10.heap.size + 1, 0, none⟩) 1 1) ((w10.alloc (.cells #[Value.int .i64 0, Value.int .i64 1, Value.int .i64 1, Value.slice A10 3 c10] 24)).alloc (.cells #[.int .u8 98] 5 (1, 2))) := Go.Joins.run_convert_bytes_const_at (P := Try.prog) (w10.alloc (.cells #[Value.int .i64 0, Value.int .i64 1, Value.int .i64 1, Value.slice A10 3 c10] 24)) 25 5 #[.int .u8 98] 1 1 (w10.heap.size + 1) (by simp) Try.underlying25 Try.underlying5
  go_wp2_with fail
  rw [show w10.heap.size + 1 = (w10.alloc (.cells #[Value.int .i64 0, Value.int .i64 1, Value.int .i64 1, Value.slice A10 3 c10] 24)).heap.size by simp]
  clear hc
  (try rw [← hg10])
  generalize (w10.alloc (.cells #[Value.int .i64 0, Value.int .i64 1, Value.int .i64 1, Value.slice A10 3 c10] 24)) = u10 at *
  clear hg10
  clear ka0 ka1 ka2 ka3
  have hq := a1 u10 (.cells #[Value.int .u8 98] 5 (1, 2))
  replace hb := Lib.hid (hb.out.trans ((hq).mono hb.out.size))
  replace hk1 := Lib.hid (hk1.out.more hq)
  replace hk4 := Lib.hid (hk4.out.more hq)
  replace hk5 := Lib.hid (hk5.out.more hq)
  replace hk8 := Lib.hid (hk8.out.more hq)
  replace hk9 := Lib.hid (hk9.out.more hq)
  replace hk10 := Lib.hid (hk10.out.more hq)
  replace hB1 := Lib.hid (hB1.out.below hq hB1.out.lt)
  replace hB4 := Lib.hid (hB4.out.below hq hB4.out.lt)
  replace hB5 := Lib.hid (hB5.out.below hq hB5.out.lt)
  replace hB7 := Lib.hid (hB7.out.below hq hB7.out.lt)
  replace hB8 := Lib.hid (hB8.out.below hq hB8.out.lt)
  replace hB10 := Lib.hid (hB10.out.below hq hB10.out.lt)
  have hd11 : Hid (BAt (u10.alloc (.cells #[Value.int .u8 98] 5 (1, 2))) (u10.alloc (.cells #[Value.int .u8 98] 5 (1, 2))).heap.size (some ⟨u10.heap.size, 0, none⟩) 1 [98]) := lat_row bC_len (heap_alloc_new u10 (.cells #[Value.int .u8 98] 5 (1, 2))) [98] rfl
  clear hq
  generalize (u10.alloc (.cells #[Value.int .u8 98] 5 (1, 2))) = x11 at *
  refine (submit_any (⟨0, 1, 1, A10, 3, c10, l10⟩ : Cm) _ _ [98] 0 x11 hk10.out (sm2_of hk10.out (by rw [hv10.out]; decide)) (by show (0 : Int) < (3 : Nat); decide) hd11.out).mono ?_; rintro e w11 ⟨⟨k', rfl, hk', hv'⟩, hq⟩
  rw [show submitC (Cm.val (⟨0, 1, 1, A10, 3, c10, l10⟩ : Cm)) [98] 0 = (⟨0, 1, 2, [⟨true, 1, [⟨1, [97]⟩, ⟨1, [98]⟩]⟩, ⟨true, 1, [⟨1, [97]⟩, ⟨1, [98]⟩]⟩, ⟨true, 1, [⟨1, [97]⟩, ⟨1, [98]⟩]⟩]⟩, 1, 0) by rw [hv10.out]; rfl] at hv' ⊢
  obtain ⟨A11, c11, l11, he', hk11, hv11⟩ := cl_of hk' hv' (n := 3) rfl anyB (fun _ _ => trivial)
  rw [he']
  clear he' hk' hv' k'
  replace hb := Lib.hid (hb.out.trans ((hq).mono hb.out.size))
  replace hk1 := Lib.hid (hk1.out.more hq)
  replace hk4 := Lib.hid (hk4.out.more hq)
  replace hk5 := Lib.hid (hk5.out.more hq)
  replace hk8 := Lib.hid (hk8.out.more hq)
  replace hk9 := Lib.hid (hk9.out.more hq)
  replace hk10 := Lib.hid (hk10.out.more hq)
  replace hB1 := Lib.hid (hB1.out.below hq hB1.out.lt)
  replace hB4 := Lib.hid (hB4.out.below hq hB4.out.lt)
  replace hB5 := Lib.hid (hB5.out.below hq hB5.out.lt)
  replace hB7 := Lib.hid (hB7.out.below hq hB7.out.lt)
  replace hB8 := Lib.hid (hB8.out.below hq hB8.out.lt)
  replace hB10 := Lib.hid (hB10.out.below hq hB10.out.lt)
  replace hk11 := Lib.hid hk11
  replace hv11 := Lib.hid hv11
  clear hq
  clear hd11
  obtain ⟨g11, hg11⟩ : ∃ g, g = w11.heap.size := ⟨_, rfl⟩
  have hq := a1 w11 (.cells #[Value.int .i64 0, Value.int .i64 1, Value.int .i64 2, Value.slice A11 3 c11] 24)
  replace hb := Lib.hid (hb.out.trans ((hq).mono hb.out.size))
  replace hk1 := Lib.hid (hk1.out.more hq)
  replace hk4 := Lib.hid (hk4.out.more hq)
  replace hk5 := Lib.hid (hk5.out.more hq)
  replace hk8 := Lib.hid (hk8.out.more hq)
  replace hk9 := Lib.hid (hk9.out.more hq)
  replace hk10 := Lib.hid (hk10.out.more hq)
  replace hk11 := Lib.hid (hk11.out.more hq)
  replace hB1 := Lib.hid (hB1.out.below hq hB1.out.lt)
  replace hB4 := Lib.hid (hB4.out.below hq hB4.out.lt)
  replace hB5 := Lib.hid (hB5.out.below hq hB5.out.lt)
  replace hB7 := Lib.hid (hB7.out.below hq hB7.out.lt)
  replace hB8 := Lib.hid (hB8.out.below hq hB8.out.lt)
  replace hB10 := Lib.hid (hB10.out.below hq hB10.out.lt)
  have hB11 := Lib.hid (Blk.new w11 24 #[Value.int .i64 0, Value.int .i64 1, Value.int .i64 2, Value.slice A11 3 c11])
  clear hq
  rw [← hg11] at hB11
  obtain ⟨-, hne4, ha4⟩ := sv_at hk4.out hv4.out rfl
  obtain ⟨ad4, rfl⟩ := hne4 (by decide)
  clear hne4
  obtain ⟨-, hne5, ha5⟩ := sv_at hk5.out hv5.out rfl
  obtain ⟨ad5, rfl⟩ := hne5 (by decide)
  clear hne5
  obtain ⟨-, hne9, ha9⟩ := sv_at hk9.out hv9.out rfl
  obtain ⟨ad9, rfl⟩ := hne9 (by decide)
  clear hne9
  obtain ⟨pA, pc, p0, p1, p2⟩ := (show ∃ A' c', (w11.alloc (.cells #[Value.int .i64 0, Value.int .i64 1, Value.int .i64 2, Value.slice A11 3 c11] 24)).cell? (ad4.add 3) = some (Value.bool true) ∧ (w11.alloc (.cells #[Value.int .i64 0, Value.int .i64 1, Value.int .i64 2, Value.slice A11 3 c11] 24)).cell? ⟨ad4.block, ad4.off + 3 + 1, none⟩ = some (Value.int .i64 1) ∧ (w11.alloc (.cells #[Value.int .i64 0, Value.int .i64 1, Value.int .i64 2, Value.slice A11 3 c11] 24)).cell? ⟨ad4.block, ad4.off + 3 + 2, none⟩ = some (Value.slice A' 1 c') from ha4 ad4 rfl 1 true 1 [⟨1, [97]⟩] rfl)
  obtain ⟨qA, qc, q0, q1, q2⟩ := (show ∃ A' c', (w11.alloc (.cells #[Value.int .i64 0, Value.int .i64 1, Value.int .i64 2, Value.slice A11 3 c11] 24)).cell? (ad4.add 6) = some (Value.bool true) ∧ (w11.alloc (.cells #[Value.int .i64 0, Value.int .i64 1, Value.int .i64 2, Value.slice A11 3 c11] 24)).cell? ⟨ad4.block, ad4.off + 6 + 1, none⟩ = some (Value.int .i64 1) ∧ (w11.alloc (.cells #[Value.int .i64 0, Value.int .i64 1, Value.int .i64 2, Value.slice A11 3 c11] 24)).cell? ⟨ad4.block, ad4.off + 6 + 2, none⟩ = some (Value.slice A' 0 c') from ha4 ad4 rfl 2 true 1 [] rfl)
  obtain ⟨rA, rc, r0, r1, r2⟩ := (show ∃ A' c', (w11.alloc (.cells #[Value.int .i64 0, Value.int .i64 1, Value.int .i64 2, Value.slice A11 3 c11] 24)).cell? ad5 = some (Value.bool false) ∧ (w11.alloc (.cells #[Value.int .i64 0, Value.int .i64 1, Value.int .i64 2, Value.slice A11 3 c11] 24)).cell? ⟨ad5.block, ad5.off + 1, none⟩ = some (Value.int .i64 1) ∧ (w11.alloc (.cells #[Value.int .i64 0, Value.int .i64 1, Value.int .i64 2, Value.slice A11 3 c11] 24)).cell? ⟨ad5.block, ad5.off + 2, none⟩ = some (Value.slice A' 1 c') from ha5 ad5 rfl 0 false 1 [⟨1, [97]⟩] rfl)
  obtain ⟨sA, sc, s0, s1, s2⟩ := (show ∃ A' c', (w11.alloc (.cells #[Value.int .i64 0, Value.int .i64 1, Value.int .i64 2, Value.slice A11 3 c11] 24)).cell? ad9 = some (Value.bool true) ∧ (w11.alloc (.cells #[Value.int .i64 0, Value.int .i64 1, Value.int .i64 2, Value.slice A11 3 c11] 24)).cell? ⟨ad9.block, ad9.off + 1, none⟩ = some (Value.int .i64 2) ∧ (w11.alloc (.cells #[Value.int .i64 0, Value.int .i64 1, Value.int .i64 2, Value.slice A11 3 c11] 24)).cell? ⟨ad9.block, ad9.off + 2, none⟩ = some (Value.slice A' 0 c') from ha9 ad9 rfl 0 true 2 [] rfl)
  clear ha4 ha5 ha9
  obtain ⟨ka0, ka1, ka2, ka3⟩ := cells4 ((w11.alloc (.cells #[Value.int .i64 0, Value.int .i64 1, Value.int .i64 2, Value.slice A11 3 c11] 24))) (g4) (Value.int .i64 0) (Value.int .i64 1) (Value.int .i64 1) (Value.slice (some ad4) 3 c4) (hB4.out)
  obtain ⟨kb0, kb1, kb2, kb3⟩ := cells4 ((w11.alloc (.cells #[Value.int .i64 0, Value.int .i64 1, Value.int .i64 2, Value.slice A11 3 c11] 24))) (g5) (Value.int .i64 (-1)) (Value.int .i64 1) (Value.int .i64 0) (Value.slice (some ad5) 3 c5) (hB5.out)
  obtain ⟨kc0, kc1, kc2, kc3⟩ := cells4 ((w11.alloc (.cells #[Value.int .i64 0, Value.int .i64 1, Value.int .i64 2, Value.slice A11 3 c11] 24))) (g7) (Value.int .i64 1) (Value.int .i64 2) (Value.int .i64 0) (Value.slice A7 3 c7) (hB7.out)
  obtain ⟨kd0, kd1, kd2, kd3⟩ := cells4 ((w11.alloc (.cells #[Value.int .i64 0, Value.int .i64 1, Value.int .i64 2, Value.slice A11 3 c11] 24))) (g8) (Value.int .i64 1) (Value.int .i64 2) (Value.int .i64 0) (Value.slice (some ad9) 3 c9) (hB8.out)
  obtain ⟨ke0, ke1, ke2, ke3⟩ := cells4 ((w11.alloc (.cells #[Value.int .i64 0, Value.int .i64 1, Value.int .i64 2, Value.slice A11 3 c11] 24))) (g11) (Value.int .i64 0) (Value.int .i64 1) (Value.int .i64 2) (Value.slice A11 3 c11) (hB11.out)
  go_wp2_with fail
  rw [← hg11]
  generalize (w11.alloc (.cells #[Value.int .i64 0, Value.int .i64 1, Value.int .i64 2, Value.slice A11 3 c11] 24)) = u11 at *
  clear ka0 ka1 ka2 ka3 kb0 kb1 kb2 kb3 kc0 kc1 kc2 kc3 kd0 kd1 kd2 kd3 ke0 ke1 ke2 ke3 p0 p1 p2 q0 q1 q2 r0 r1 r2 s0 s1 s2 hg11
  refine (committed_any (⟨0, 1, 2, A11, 3, c11, l11⟩ : Cm) 2 u11 hk11.out (sm2_of hk11.out (by rw [hv11.out]; decide)) rfl (by rw [hv11.out]; decide)).mono ?_; rintro e w12 ⟨⟨A12, n12, c12, C12, rfl, hL12, hcp, -, hbs, hC12⟩, hq⟩
  rw [show committedC (Cm.val (⟨0, 1, 2, A11, 3, c11, l11⟩ : Cm)) = [[97], [98]] by rw [hv11.out]; rfl] at hC12
  replace hb := Lib.hid (hb.out.trans (hq.mono hb.out.size))
  obtain rfl : n12 = 2 := by
    have h1 := hL12.len
    have h2 := congrArg List.length hC12
    rw [List.length_map] at h2
    exact h1.symm.trans h2
  replace hL12 := Lib.hid hL12
  replace hbs := Lib.hid hbs
  replace hC12 := Lib.hid hC12
  clear hq hcp
  have hc1 : (convert 25 25 (.slice (some ⟨w12.heap.size, 0, none⟩) 1 1)).run Try.prog (w12.alloc (.cells #[.int .u8 97] 5)) = .ok (.slice (some ⟨w12.heap.size, 0, none⟩) 1 1) (w12.alloc (.cells #[.int .u8 97] 5 (1, 2))) := Go.Joins.run_convert_bytes_const_at (P := Try.prog) w12 25 5 #[.int .u8 97] 1 1 (w12.heap.size) (by simp) Try.underlying25 Try.underlying5
  have hc2 : (convert 25 25 (.slice (some ⟨w12.heap.size + 1, 0, none⟩) 1 1)).run Try.prog ((w12.alloc (.cells #[.int .u8 97] 5 (1, 2))).alloc (.cells #[.int .u8 98] 5)) = .ok (.slice (some ⟨w12.heap.size + 1, 0, none⟩) 1 1) ((w12.alloc (.cells #[.int .u8 97] 5 (1, 2))).alloc (.cells #[.int .u8 98] 5 (1, 2))) := Go.Joins.run_convert_bytes_const_at (P := Try.prog) (w12.alloc (.cells #[.int .u8 97] 5 (1, 2))) 25 5 #[.int .u8 98] 1 1 (w12.heap.size + 1) (by simp) Try.underlying25 Try.underlying5
  have hbe : Hid (Below w12.heap.size w12 (((w12.alloc (.cells #[.int .u8 97] 5 (1, 2))).alloc (.cells #[.int .u8 98] 5 (1, 2))).alloc (.cells #[Value.slice (some ⟨w12.heap.size, 0, none⟩) 1 1, Value.slice (some ⟨w12.heap.size + 1, 0, none⟩) 1 1] 25))) := ((a1 w12 _).alloc (by simp) _).alloc (by simp; try omega) _
  have hbE : Hid (Below w.heap.size w (((w12.alloc (.cells #[.int .u8 97] 5 (1, 2))).alloc (.cells #[.int .u8 98] 5 (1, 2))).alloc (.cells #[Value.slice (some ⟨w12.heap.size, 0, none⟩) 1 1, Value.slice (some ⟨w12.heap.size + 1, 0, none⟩) 1 1] 25))) := hb.out.trans (hbe.out.mono hb.out.size)
  have h97 : Hid (BsAt (((w12.alloc (.cells #[.int .u8 97] 5 (1, 2))).alloc (.cells #[.int .u8 98] 5 (1, 2))).alloc (.cells #[Value.slice (some ⟨w12.heap.size, 0, none⟩) 1 1, Value.slice (some ⟨w12.heap.size + 1, 0, none⟩) 1 1] 25)) ⟨some ⟨w12.heap.size, 0, none⟩, 1, 1, [97]⟩) := by
    have h8 : BAt (w12.alloc (.cells #[.int .u8 97] 5 (1, 2))) (w12.alloc (.cells #[.int .u8 97] 5 (1, 2))).heap.size (some ⟨w12.heap.size, 0, none⟩) 1 [97] := lat_row bC_len (heap_alloc_new w12 (.cells #[.int .u8 97] 5 (1, 2))) [97] rfl
    exact ⟨(h8.more (a1 _ _)).more (a1 _ _), Nat.le_refl _, by simp [maxLen]⟩
  have h98 : Hid (BsAt (((w12.alloc (.cells #[.int .u8 97] 5 (1, 2))).alloc (.cells #[.int .u8 98] 5 (1, 2))).alloc (.cells #[Value.slice (some ⟨w12.heap.size, 0, none⟩) 1 1, Value.slice (some ⟨w12.heap.size + 1, 0, none⟩) 1 1] 25)) ⟨some ⟨w12.heap.size + 1, 0, none⟩, 1, 1, [98]⟩) := by
    have h8 : BAt ((w12.alloc (.cells #[.int .u8 97] 5 (1, 2))).alloc (.cells #[.int .u8 98] 5 (1, 2))) ((w12.alloc (.cells #[.int .u8 97] 5 (1, 2))).alloc (.cells #[.int .u8 98] 5 (1, 2))).heap.size (some ⟨(w12.alloc (.cells #[.int .u8 97] 5 (1, 2))).heap.size, 0, none⟩) 1 [98] := lat_row bC_len (heap_alloc_new _ (.cells #[.int .u8 98] 5 (1, 2))) [98] rfl
    rw [show (w12.alloc (.cells #[.int .u8 97] 5 (1, 2))).heap.size = w12.heap.size + 1 by simp] at h8
    exact ⟨h8.more (a1 _ _), Nat.le_refl _, by simp [maxLen]⟩
  have hL : Hid (LAt sC 1 (((w12.alloc (.cells #[.int .u8 97] 5 (1, 2))).alloc (.cells #[.int .u8 98] 5 (1, 2))).alloc (.cells #[Value.slice (some ⟨w12.heap.size, 0, none⟩) 1 1, Value.slice (some ⟨w12.heap.size + 1, 0, none⟩) 1 1] 25)) (((w12.alloc (.cells #[.int .u8 97] 5 (1, 2))).alloc (.cells #[.int .u8 98] 5 (1, 2))).alloc (.cells #[Value.slice (some ⟨w12.heap.size, 0, none⟩) 1 1, Value.slice (some ⟨w12.heap.size + 1, 0, none⟩) 1 1] 25)).heap.size (some ⟨w12.heap.size + 1 + 1, 0, none⟩) 2 [⟨some ⟨w12.heap.size, 0, none⟩, 1, 1, [97]⟩, ⟨some ⟨w12.heap.size + 1, 0, none⟩, 1, 1, [98]⟩]) := by
    have h8 := (lit_at (e := 25) sC_len ((w12.alloc (.cells #[.int .u8 97] 5 (1, 2))).alloc (.cells #[.int .u8 98] 5 (1, 2))) [(⟨some ⟨w12.heap.size, 0, none⟩, 1, 1, [97]⟩ : Bs), ⟨some ⟨w12.heap.size + 1, 0, none⟩, 1, 1, [98]⟩] #[Value.slice (some ⟨w12.heap.size, 0, none⟩) 1 1, Value.slice (some ⟨w12.heap.size + 1, 0, none⟩) 1 1] rfl).mono (B' := (((w12.alloc (.cells #[.int .u8 97] 5 (1, 2))).alloc (.cells #[.int .u8 98] 5 (1, 2))).alloc (.cells #[Value.slice (some ⟨w12.heap.size, 0, none⟩) 1 1, Value.slice (some ⟨w12.heap.size + 1, 0, none⟩) 1 1] 25)).heap.size) (by simp)
    rw [show ((w12.alloc (.cells #[.int .u8 97] 5 (1, 2))).alloc (.cells #[.int .u8 98] 5 (1, 2))).heap.size = w12.heap.size + 1 + 1 by simp] at h8
    exact h8
  have hsd := Lib.hid (sameData_any A12 (some ⟨w12.heap.size + 1 + 1, 0, none⟩) 2 c12 2 2 C12 _ (((w12.alloc (.cells #[.int .u8 97] 5 (1, 2))).alloc (.cells #[.int .u8 98] 5 (1, 2))).alloc (.cells #[Value.slice (some ⟨w12.heap.size, 0, none⟩) 1 1, Value.slice (some ⟨w12.heap.size + 1, 0, none⟩) 1 1] 25)) (hL12.out.more hbe.out) hL.out (fun b hb => ((hbs.out b hb).more hbe.out).bs) (fun b hb => by
    rcases List.mem_cons.1 hb with rfl | hb
    · exact h97.out
    · simp at hb; subst hb; exact h98.out) hC12.out (by decide))
  go_wp2_with fail
  refine hsd.out.mono ?_; rintro e we ⟨rfl, rfl⟩
  go_wp2_with fail
  go_ret
  exact ⟨rfl, hbE.out⟩
end Go.Proofs.Ytiapeenfggjpnaa
