/- Links: Tick of both, walked. -/
import Derived.Test.YteolglmdfjddlaaLD
set_option linter.unusedVariables false
set_option linter.unusedSimpArgs false
namespace Go.Proofs.Yteolglmdfjddlaa
open Go.RowKit
theorem row_ne {α β : Type} {f1 : α → List Value} {f2 : β → List Value} {s1 s2 b1 b2 : Nat} {e1 e2 : TypeId} {w : World} {v1 v2 : Value} {l1 : List α} {l2 : List β} (h1 : LOwn f1 s1 e1 w b1 v1 l1) (h2 : LOwn f2 s2 e2 w b2 v2 l2) (hne : e1 ≠ e2) : v1.ownBlock = none ∨ v1.ownBlock ≠ v2.ownBlock := by
  rcases h1.2.2 with ⟨rfl, _⟩ | ⟨g, c, cur, rfl, _, hh, _⟩
  · exact .inl rfl
  · rcases h2.2.2 with ⟨rfl, _⟩ | ⟨g', c', cur', rfl, _, hh', _⟩
    · exact .inr (by simp [Value.ownBlock])
    · refine .inr (fun e => ?_)
      simp [Value.ownBlock] at e
      subst e
      rw [hh] at hh'
      injection hh' with hh'
      injection hh' with _ hh' _
      exact hne hh'
theorem LOwn.grownT {α β : Type} {f1 : α → List Value} {f2 : β → List Value} {s1 s2 b1 b2 : Nat} {e1 e2 : TypeId} {w w' : World} {v1 v2 : Value} {l1 : List α} {l2 : List β} (h1 : LOwn f1 s1 e1 w b1 v1 l1) (h2 : LOwn f2 s2 e2 w b2 v2 l2) (hne : e1 ≠ e2) (hg : w.grownBy w' v2.ownBlock) : LOwn f1 s1 e1 w' b1 v1 l1 :=
  ⟨h1.1, World.ownsRow.kept h1.2 hg (row_ne h1 h2 hne)⟩
theorem LOwn.grownB {α : Type} {f1 : α → List Value} {s1 b1 : Nat} {e1 t : TypeId} {w w' : World} {v1 : Value} {l1 : List α} {g : Nat} {cs : Array Value} (h1 : LOwn f1 s1 e1 w b1 v1 l1) (h2 : Blk w g t cs) (hne : e1 ≠ t) (hg : w.grownBy w' (some g)) : LOwn f1 s1 e1 w' b1 v1 l1 :=
  ⟨h1.1, World.ownsRow.kept h1.2 hg (.inr (own_blk_ne h1.2 h2 hne))⟩
theorem Blk.grownT {α : Type} {f1 : α → List Value} {s1 b1 : Nat} {e1 t : TypeId} {w w' : World} {v1 : Value} {l1 : List α} {g : Nat} {cs : Array Value} (h2 : Blk w g t cs) (h1 : LOwn f1 s1 e1 w b1 v1 l1) (hne : e1 ≠ t) (hg : w.grownBy w' v1.ownBlock) : Blk w' g t cs :=
  h2.grown hg (fun e => own_blk_ne h1.2 h2 hne e.symm)
theorem below_row {α : Type} {f1 : α → List Value} {s1 b1 B : Nat} {e1 : TypeId} {w0 w w' : World} {v1 : Value} {l1 : List α} (hb : Below B w0 w) (h1 : LOwn f1 s1 e1 w b1 v1 l1) (hB : B ≤ b1) (hs : B ≤ w.heap.size) (hg : w.grownBy w' v1.ownBlock) : Below B w0 w' :=
  hb.grown hg hs (fun g hg => Nat.le_trans hB (World.ownsRow.lt h1.2 g hg).1)
theorem LOwn.lenv {α : Type} {f1 : α → List Value} {s1 b1 : Nat} {e1 : TypeId} {w : World} {A : Option Addr} {n c : Nat} {l1 : List α} (h1 : LOwn f1 s1 e1 w b1 (.slice A n c) l1) : n = l1.length := by
  rcases h1.2.2 with ⟨e, h0⟩ | ⟨g, c', cur, e, _⟩
  · injection e with _ e _; omega
  · injection e
theorem filter_take {α : Type} (q : α → Bool) (l : List α) (k : Nat) (h : k < l.length) : (l.take (k + 1)).filter q = (l.take k).filter q ++ if q l[k] then [l[k]] else [] := by
  rw [List.take_succ_eq_append_getElem h, List.filter_append]
  congr 1
  by_cases hq : q l[k] = true
  · simp [hq]
  · simp [hq]
def pkB (p : Pk) : Bs := ⟨p.A, p.n, p.c, p.d⟩
/-- what Tick hands back: the link, and the bytes that have arrived, in rows of the call's own -/
def TickRes (w w' : World) (l : Lk) (v : Lv) (e : Ending) : Prop := ∃ l' A n c C, e = .returned (.tuple #[lkV l', .slice A n c]) ∧ LkOk w' l' ∧ l'.val = (tickL v).1 ∧ LOwn sC 1 27 w' w.heap.size (.slice A n c) C ∧ (∀ b ∈ C, BOwn w' w.heap.size (.slice b.A b.n b.c) b.d) ∧ C.map (·.d) = (tickL v).2 ∧ LkK w.heap.size l l'
def TickRef (w w' : World) (l : Lk) (v : Lv) (e : Ending) : Prop := ∃ l' A n c C, e = .returned (.tuple #[lkV l', .slice A n c]) ∧ LkOk w' l' ∧ l'.val = (tickL v).1 ∧ LOwn sC 1 27 w' w.heap.size (.slice A n c) C ∧ (∀ b ∈ C, BsAt w' b) ∧ C.map (·.d) = (tickL v).2 ∧ LkK w.heap.size l l' ∧ ∀ Q : Nat → Prop, LkQ Q l → ∀ b ∈ C, 0 < b.n → ∀ ad, b.A = some ad → Q ad.block
theorem tick_end (v : Lv) (h : 268435456 ≤ v.now) : tickL v = (v, []) := by unfold tickL; rw [if_pos h]
theorem tick_go (now delay count : Int) (cut : Bool) (lose : List Int) (box : List Pk) (h : ¬ 268435456 ≤ now) : tickL ⟨now, delay, cut, count, lose, box.map Pk.val⟩ = (⟨now + 1, delay, cut, count, lose, (box.filter fun p => decide (now + 1 < p.due)).map Pk.val⟩, if cut then [] else (box.filter fun p => !decide (now + 1 < p.due)).map (·.d)) := by
  unfold tickL
  rw [if_neg h]
  simp only [Prod.mk.injEq, Lv.mk.injEq, true_and]
  refine ⟨?_, ?_⟩
  · rw [List.filter_map]; rfl
  · split
    · rfl
    · rw [List.filter_map, List.map_map]; rfl
set_option maxRecDepth 100000 in
set_option maxHeartbeats 8000000 in
theorem tick_any (l : Lk) (w : World) (h : LkOk w l) (hs : LkSm l) (hn : 0 ≤ l.now ∧ l.now ≤ 268435456) :
    Calls Try.prog 14 #[lkV l] w fun e w' => TickRes w w' l l.val e ∧ Below w.heap.size w w' := by
  have hbn := Lib.hid h.ba.len
  have hcp := Lib.hid (fun l2 w2 (ho : LkOk w2 l2) (hs2 : LkSm l2) => copied_any l2 w2 ho hs2)
  obtain ⟨now, delay, cut, count, lA, ln, lc, lose, bA, bn, bc, box⟩ := l
  obtain ⟨s1, s2, s3⟩ := hs
  obtain ⟨n1, n2⟩ := hn
  simp only [lkV, Lk.val] at *
  have hbn1 : bn ≤ 1000 := by have := hbn.out; omega
  replace h := Lib.hid h
  replace s3 := Lib.hid s3
  by_cases hq : 268435456 ≤ now
  · have hT := Lib.hid (tick_end ⟨now, delay, cut, count, lose, box.map Pk.val⟩ hq)
    have hX0 := Lib.hid ((Blk.new w 25 #[Value.int .i64 now, Value.int .i64 delay, Value.bool cut, Value.int .i64 count, Value.slice lA ln lc, Value.slice bA bn bc]).alloc (.cells #[Value.int .i64 0, Value.int .i64 0, Value.bool false, Value.int .i64 0, Value.slice none 0 0, Value.slice none 0 0] 25))
    have hZ0 := Lib.hid (Blk.new (w.alloc (.cells #[Value.int .i64 now, Value.int .i64 delay, Value.bool cut, Value.int .i64 count, Value.slice lA ln lc, Value.slice bA bn bc] 25)) 25 #[Value.int .i64 0, Value.int .i64 0, Value.bool false, Value.int .i64 0, Value.slice none 0 0, Value.slice none 0 0])
    have hb0 : Hid (Below w.heap.size w ((w.alloc (.cells #[Value.int .i64 now, Value.int .i64 delay, Value.bool cut, Value.int .i64 count, Value.slice lA ln lc, Value.slice bA bn bc] 25)).alloc (.cells #[Value.int .i64 0, Value.int .i64 0, Value.bool false, Value.int .i64 0, Value.slice none 0 0, Value.slice none 0 0] 25))) := (a1 w _).alloc (by simp) _
    rw [show (w.alloc (.cells #[Value.int .i64 now, Value.int .i64 delay, Value.bool cut, Value.int .i64 count, Value.slice lA ln lc, Value.slice bA bn bc] 25)).heap.size = w.heap.size + 1 by simp] at hZ0
    obtain ⟨k0, k1, k2, k3, k4, k5⟩ := (show ((w.alloc (.cells #[Value.int .i64 now, Value.int .i64 delay, Value.bool cut, Value.int .i64 count, Value.slice lA ln lc, Value.slice bA bn bc] 25)).alloc (.cells #[Value.int .i64 0, Value.int .i64 0, Value.bool false, Value.int .i64 0, Value.slice none 0 0, Value.slice none 0 0] 25)).cell? ⟨w.heap.size, 0, none⟩ = some (Value.int .i64 now) ∧ ((w.alloc (.cells #[Value.int .i64 now, Value.int .i64 delay, Value.bool cut, Value.int .i64 count, Value.slice lA ln lc, Value.slice bA bn bc] 25)).alloc (.cells #[Value.int .i64 0, Value.int .i64 0, Value.bool false, Value.int .i64 0, Value.slice none 0 0, Value.slice none 0 0] 25)).cell? ⟨w.heap.size, 1, none⟩ = some (Value.int .i64 delay) ∧ ((w.alloc (.cells #[Value.int .i64 now, Value.int .i64 delay, Value.bool cut, Value.int .i64 count, Value.slice lA ln lc, Value.slice bA bn bc] 25)).alloc (.cells #[Value.int .i64 0, Value.int .i64 0, Value.bool false, Value.int .i64 0, Value.slice none 0 0, Value.slice none 0 0] 25)).cell? ⟨w.heap.size, 2, none⟩ = some (Value.bool cut) ∧ ((w.alloc (.cells #[Value.int .i64 now, Value.int .i64 delay, Value.bool cut, Value.int .i64 count, Value.slice lA ln lc, Value.slice bA bn bc] 25)).alloc (.cells #[Value.int .i64 0, Value.int .i64 0, Value.bool false, Value.int .i64 0, Value.slice none 0 0, Value.slice none 0 0] 25)).cell? ⟨w.heap.size, 3, none⟩ = some (Value.int .i64 count) ∧ ((w.alloc (.cells #[Value.int .i64 now, Value.int .i64 delay, Value.bool cut, Value.int .i64 count, Value.slice lA ln lc, Value.slice bA bn bc] 25)).alloc (.cells #[Value.int .i64 0, Value.int .i64 0, Value.bool false, Value.int .i64 0, Value.slice none 0 0, Value.slice none 0 0] 25)).cell? ⟨w.heap.size, 4, none⟩ = some (Value.slice lA ln lc) ∧ ((w.alloc (.cells #[Value.int .i64 now, Value.int .i64 delay, Value.bool cut, Value.int .i64 count, Value.slice lA ln lc, Value.slice bA bn bc] 25)).alloc (.cells #[Value.int .i64 0, Value.int .i64 0, Value.bool false, Value.int .i64 0, Value.slice none 0 0, Value.slice none 0 0] 25)).cell? ⟨w.heap.size, 5, none⟩ = some (Value.slice bA bn bc) from ⟨hX0.out.cell 0, hX0.out.cell 1, hX0.out.cell 2, hX0.out.cell 3, hX0.out.cell 4, hX0.out.cell 5⟩)
    go_enter Try.func14, Try.ntmps14
    go_wp2_with fail
    (try simp only [Exit.inBlock, Exit.then])
    have hB := Blk.new (w.alloc (.cells #[Value.int .i64 now, Value.int .i64 delay, Value.bool cut, Value.int .i64 count, Value.slice lA ln lc, Value.slice bA bn bc] 25)) 25 #[Value.int .i64 now, Value.int .i64 delay, Value.bool cut, Value.int .i64 count, Value.slice lA ln lc, Value.slice bA bn bc]
    rw [show (w.alloc (.cells #[Value.int .i64 now, Value.int .i64 delay, Value.bool cut, Value.int .i64 count, Value.slice lA ln lc, Value.slice bA bn bc] 25)).heap.size = w.heap.size + 1 by simp] at hB
    have hbF : Below w.heap.size w ((w.alloc (.cells #[Value.int .i64 now, Value.int .i64 delay, Value.bool cut, Value.int .i64 count, Value.slice lA ln lc, Value.slice bA bn bc] 25)).alloc (.cells #[Value.int .i64 now, Value.int .i64 delay, Value.bool cut, Value.int .i64 count, Value.slice lA ln lc, Value.slice bA bn bc] 25)) := (a1 w _).alloc (by simp) _
    refine bodyPost_ret (v := .tuple #[.agg #[Value.int .i64 now, Value.int .i64 delay, Value.bool cut, Value.int .i64 count, Value.slice lA ln lc, Value.slice bA bn bc], .slice none 0 0]) ?_ rfl ?_
    · refine (res2 (fn := Try.f14) (p := 2) (u := 3) (ty := 25) rfl _ _ (w.heap.size + 1) 25 _ (0, 0) _ ?_ hB Try.underlying25 rfl (by kernel_rfl)).trans ?_
      · rfl
      · rfl
    clear hB
    refine ⟨⟨⟨now, delay, cut, count, lA, ln, lc, lose, bA, bn, bc, box⟩, none, 0, 0, [], rfl, h.out.more hbF, by rw [hT.out]; rfl, LOwn.nil sC_len _ _, fun b hb => (by simp at hb), by rw [hT.out]; rfl, fun Q hQ _ => hQ⟩, hbF⟩
  have hqi : ¬ (268435456 : Int) ≤ now := hq
  have hT := Lib.hid (tick_go now delay count cut lose box hq)
  obtain ⟨ip, hip, hzp0, hzp1, hzp2⟩ := info_parts pk_info
  obtain ⟨is, his, hzs0, hzs1, hzs2⟩ := info_parts bs_info
  replace hip := Lib.hid hip
  replace hzp0 := Lib.hid hzp0
  replace hzp1 := Lib.hid hzp1
  replace hzp2 := Lib.hid hzp2
  replace his := Lib.hid his
  replace hzs0 := Lib.hid hzs0
  replace hzs1 := Lib.hid hzs1
  replace hzs2 := Lib.hid hzs2
  have hX0 := Lib.hid (((Blk.new w 25 #[Value.int .i64 now, Value.int .i64 delay, Value.bool cut, Value.int .i64 count, Value.slice lA ln lc, Value.slice bA bn bc]).alloc (.cells #[Value.int .i64 0, Value.int .i64 0, Value.bool false, Value.int .i64 0, Value.slice none 0 0, Value.slice none 0 0] 25)).alloc (.cells #[Value.int .i64 (now + 1), Value.int .i64 delay, Value.bool cut, Value.int .i64 count, Value.slice lA ln lc, Value.slice none 0 0] 25))
  have hZ0 := Lib.hid ((Blk.new (w.alloc (.cells #[Value.int .i64 now, Value.int .i64 delay, Value.bool cut, Value.int .i64 count, Value.slice lA ln lc, Value.slice bA bn bc] 25)) 25 #[Value.int .i64 0, Value.int .i64 0, Value.bool false, Value.int .i64 0, Value.slice none 0 0, Value.slice none 0 0]).alloc (.cells #[Value.int .i64 (now + 1), Value.int .i64 delay, Value.bool cut, Value.int .i64 count, Value.slice lA ln lc, Value.slice none 0 0] 25))
  have hN0 := Lib.hid (Blk.new ((w.alloc (.cells #[Value.int .i64 now, Value.int .i64 delay, Value.bool cut, Value.int .i64 count, Value.slice lA ln lc, Value.slice bA bn bc] 25)).alloc (.cells #[Value.int .i64 0, Value.int .i64 0, Value.bool false, Value.int .i64 0, Value.slice none 0 0, Value.slice none 0 0] 25)) 25 #[Value.int .i64 (now + 1), Value.int .i64 delay, Value.bool cut, Value.int .i64 count, Value.slice lA ln lc, Value.slice none 0 0])
  have hb0 : Hid (Below w.heap.size w (((w.alloc (.cells #[Value.int .i64 now, Value.int .i64 delay, Value.bool cut, Value.int .i64 count, Value.slice lA ln lc, Value.slice bA bn bc] 25)).alloc (.cells #[Value.int .i64 0, Value.int .i64 0, Value.bool false, Value.int .i64 0, Value.slice none 0 0, Value.slice none 0 0] 25)).alloc (.cells #[Value.int .i64 (now + 1), Value.int .i64 delay, Value.bool cut, Value.int .i64 count, Value.slice lA ln lc, Value.slice none 0 0] 25))) := ((a1 w _).alloc (by simp) _).alloc (by simp; omega) _
  rw [show (w.alloc (.cells #[Value.int .i64 now, Value.int .i64 delay, Value.bool cut, Value.int .i64 count, Value.slice lA ln lc, Value.slice bA bn bc] 25)).heap.size = w.heap.size + 1 by simp] at hZ0
  rw [show ((w.alloc (.cells #[Value.int .i64 now, Value.int .i64 delay, Value.bool cut, Value.int .i64 count, Value.slice lA ln lc, Value.slice bA bn bc] 25)).alloc (.cells #[Value.int .i64 0, Value.int .i64 0, Value.bool false, Value.int .i64 0, Value.slice none 0 0, Value.slice none 0 0] 25)).heap.size = w.heap.size + 1 + 1 by simp] at hN0
  obtain ⟨a0, a1, a2, a3, a4, a5⟩ := (show ((w.alloc (.cells #[Value.int .i64 now, Value.int .i64 delay, Value.bool cut, Value.int .i64 count, Value.slice lA ln lc, Value.slice bA bn bc] 25)).alloc (.cells #[Value.int .i64 0, Value.int .i64 0, Value.bool false, Value.int .i64 0, Value.slice none 0 0, Value.slice none 0 0] 25)).cell? ⟨w.heap.size, 0, none⟩ = some (Value.int .i64 now) ∧ ((w.alloc (.cells #[Value.int .i64 now, Value.int .i64 delay, Value.bool cut, Value.int .i64 count, Value.slice lA ln lc, Value.slice bA bn bc] 25)).alloc (.cells #[Value.int .i64 0, Value.int .i64 0, Value.bool false, Value.int .i64 0, Value.slice none 0 0, Value.slice none 0 0] 25)).cell? ⟨w.heap.size, 1, none⟩ = some (Value.int .i64 delay) ∧ ((w.alloc (.cells #[Value.int .i64 now, Value.int .i64 delay, Value.bool cut, Value.int .i64 count, Value.slice lA ln lc, Value.slice bA bn bc] 25)).alloc (.cells #[Value.int .i64 0, Value.int .i64 0, Value.bool false, Value.int .i64 0, Value.slice none 0 0, Value.slice none 0 0] 25)).cell? ⟨w.heap.size, 2, none⟩ = some (Value.bool cut) ∧ ((w.alloc (.cells #[Value.int .i64 now, Value.int .i64 delay, Value.bool cut, Value.int .i64 count, Value.slice lA ln lc, Value.slice bA bn bc] 25)).alloc (.cells #[Value.int .i64 0, Value.int .i64 0, Value.bool false, Value.int .i64 0, Value.slice none 0 0, Value.slice none 0 0] 25)).cell? ⟨w.heap.size, 3, none⟩ = some (Value.int .i64 count) ∧ ((w.alloc (.cells #[Value.int .i64 now, Value.int .i64 delay, Value.bool cut, Value.int .i64 count, Value.slice lA ln lc, Value.slice bA bn bc] 25)).alloc (.cells #[Value.int .i64 0, Value.int .i64 0, Value.bool false, Value.int .i64 0, Value.slice none 0 0, Value.slice none 0 0] 25)).cell? ⟨w.heap.size, 4, none⟩ = some (Value.slice lA ln lc) ∧ ((w.alloc (.cells #[Value.int .i64 now, Value.int .i64 delay, Value.bool cut, Value.int .i64 count, Value.slice lA ln lc, Value.slice bA bn bc] 25)).alloc (.cells #[Value.int .i64 0, Value.int .i64 0, Value.bool false, Value.int .i64 0, Value.slice none 0 0, Value.slice none 0 0] 25)).cell? ⟨w.heap.size, 5, none⟩ = some (Value.slice bA bn bc) from ⟨((Blk.new w 25 #[Value.int .i64 now, Value.int .i64 delay, Value.bool cut, Value.int .i64 count, Value.slice lA ln lc, Value.slice bA bn bc]).alloc (.cells #[Value.int .i64 0, Value.int .i64 0, Value.bool false, Value.int .i64 0, Value.slice none 0 0, Value.slice none 0 0] 25)).cell 0, ((Blk.new w 25 #[Value.int .i64 now, Value.int .i64 delay, Value.bool cut, Value.int .i64 count, Value.slice lA ln lc, Value.slice bA bn bc]).alloc (.cells #[Value.int .i64 0, Value.int .i64 0, Value.bool false, Value.int .i64 0, Value.slice none 0 0, Value.slice none 0 0] 25)).cell 1, ((Blk.new w 25 #[Value.int .i64 now, Value.int .i64 delay, Value.bool cut, Value.int .i64 count, Value.slice lA ln lc, Value.slice bA bn bc]).alloc (.cells #[Value.int .i64 0, Value.int .i64 0, Value.bool false, Value.int .i64 0, Value.slice none 0 0, Value.slice none 0 0] 25)).cell 2, ((Blk.new w 25 #[Value.int .i64 now, Value.int .i64 delay, Value.bool cut, Value.int .i64 count, Value.slice lA ln lc, Value.slice bA bn bc]).alloc (.cells #[Value.int .i64 0, Value.int .i64 0, Value.bool false, Value.int .i64 0, Value.slice none 0 0, Value.slice none 0 0] 25)).cell 3, ((Blk.new w 25 #[Value.int .i64 now, Value.int .i64 delay, Value.bool cut, Value.int .i64 count, Value.slice lA ln lc, Value.slice bA bn bc]).alloc (.cells #[Value.int .i64 0, Value.int .i64 0, Value.bool false, Value.int .i64 0, Value.slice none 0 0, Value.slice none 0 0] 25)).cell 4, ((Blk.new w 25 #[Value.int .i64 now, Value.int .i64 delay, Value.bool cut, Value.int .i64 count, Value.slice lA ln lc, Value.slice bA bn bc]).alloc (.cells #[Value.int .i64 0, Value.int .i64 0, Value.bool false, Value.int .i64 0, Value.slice none 0 0, Value.slice none 0 0] 25)).cell 5⟩)
  obtain ⟨k0, k1, k2, k3, k4, k5⟩ := (show (((w.alloc (.cells #[Value.int .i64 now, Value.int .i64 delay, Value.bool cut, Value.int .i64 count, Value.slice lA ln lc, Value.slice bA bn bc] 25)).alloc (.cells #[Value.int .i64 0, Value.int .i64 0, Value.bool false, Value.int .i64 0, Value.slice none 0 0, Value.slice none 0 0] 25)).alloc (.cells #[Value.int .i64 (now + 1), Value.int .i64 delay, Value.bool cut, Value.int .i64 count, Value.slice lA ln lc, Value.slice none 0 0] 25)).cell? ⟨w.heap.size, 0, none⟩ = some (Value.int .i64 now) ∧ (((w.alloc (.cells #[Value.int .i64 now, Value.int .i64 delay, Value.bool cut, Value.int .i64 count, Value.slice lA ln lc, Value.slice bA bn bc] 25)).alloc (.cells #[Value.int .i64 0, Value.int .i64 0, Value.bool false, Value.int .i64 0, Value.slice none 0 0, Value.slice none 0 0] 25)).alloc (.cells #[Value.int .i64 (now + 1), Value.int .i64 delay, Value.bool cut, Value.int .i64 count, Value.slice lA ln lc, Value.slice none 0 0] 25)).cell? ⟨w.heap.size, 1, none⟩ = some (Value.int .i64 delay) ∧ (((w.alloc (.cells #[Value.int .i64 now, Value.int .i64 delay, Value.bool cut, Value.int .i64 count, Value.slice lA ln lc, Value.slice bA bn bc] 25)).alloc (.cells #[Value.int .i64 0, Value.int .i64 0, Value.bool false, Value.int .i64 0, Value.slice none 0 0, Value.slice none 0 0] 25)).alloc (.cells #[Value.int .i64 (now + 1), Value.int .i64 delay, Value.bool cut, Value.int .i64 count, Value.slice lA ln lc, Value.slice none 0 0] 25)).cell? ⟨w.heap.size, 2, none⟩ = some (Value.bool cut) ∧ (((w.alloc (.cells #[Value.int .i64 now, Value.int .i64 delay, Value.bool cut, Value.int .i64 count, Value.slice lA ln lc, Value.slice bA bn bc] 25)).alloc (.cells #[Value.int .i64 0, Value.int .i64 0, Value.bool false, Value.int .i64 0, Value.slice none 0 0, Value.slice none 0 0] 25)).alloc (.cells #[Value.int .i64 (now + 1), Value.int .i64 delay, Value.bool cut, Value.int .i64 count, Value.slice lA ln lc, Value.slice none 0 0] 25)).cell? ⟨w.heap.size, 3, none⟩ = some (Value.int .i64 count) ∧ (((w.alloc (.cells #[Value.int .i64 now, Value.int .i64 delay, Value.bool cut, Value.int .i64 count, Value.slice lA ln lc, Value.slice bA bn bc] 25)).alloc (.cells #[Value.int .i64 0, Value.int .i64 0, Value.bool false, Value.int .i64 0, Value.slice none 0 0, Value.slice none 0 0] 25)).alloc (.cells #[Value.int .i64 (now + 1), Value.int .i64 delay, Value.bool cut, Value.int .i64 count, Value.slice lA ln lc, Value.slice none 0 0] 25)).cell? ⟨w.heap.size, 4, none⟩ = some (Value.slice lA ln lc) ∧ (((w.alloc (.cells #[Value.int .i64 now, Value.int .i64 delay, Value.bool cut, Value.int .i64 count, Value.slice lA ln lc, Value.slice bA bn bc] 25)).alloc (.cells #[Value.int .i64 0, Value.int .i64 0, Value.bool false, Value.int .i64 0, Value.slice none 0 0, Value.slice none 0 0] 25)).alloc (.cells #[Value.int .i64 (now + 1), Value.int .i64 delay, Value.bool cut, Value.int .i64 count, Value.slice lA ln lc, Value.slice none 0 0] 25)).cell? ⟨w.heap.size, 5, none⟩ = some (Value.slice bA bn bc) from ⟨hX0.out.cell 0, hX0.out.cell 1, hX0.out.cell 2, hX0.out.cell 3, hX0.out.cell 4, hX0.out.cell 5⟩)
  have hnw : IntKind.i64.wrap (now + 1) = now + 1 := IntWalk.i64_in _ (by omega)
  go_enter Try.func14, Try.ntmps14
  go_wp2_with fail
  clear k0 k1 k2 k3 k4 k5 a0 a1 a2 a3 a4 a5
  generalize (((w.alloc (.cells #[Value.int .i64 now, Value.int .i64 delay, Value.bool cut, Value.int .i64 count, Value.slice lA ln lc, Value.slice bA bn bc] 25)).alloc (.cells #[Value.int .i64 0, Value.int .i64 0, Value.bool false, Value.int .i64 0, Value.slice none 0 0, Value.slice none 0 0] 25)).alloc (.cells #[Value.int .i64 (now + 1), Value.int .i64 delay, Value.bool cut, Value.int .i64 count, Value.slice lA ln lc, Value.slice none 0 0] 25)) = w0 at *
  go_loopw [21, 5] (fun i v wr => ∃ (k : Nat) (u : Value) (C : List Bs), k ≤ bn ∧ i = .int .i64 k ∧ Hid (Blk wr w.heap.size 25 #[Value.int .i64 now, Value.int .i64 delay, Value.bool cut, Value.int .i64 count, Value.slice lA ln lc, Value.slice bA bn bc]) ∧ Hid (Blk wr (w.heap.size + 1) 25 #[Value.int .i64 0, Value.int .i64 0, Value.bool false, Value.int .i64 0, Value.slice none 0 0, Value.slice none 0 0]) ∧ Hid (Blk wr (w.heap.size + 1 + 1) 25 #[Value.int .i64 (now + 1), Value.int .i64 delay, Value.bool cut, Value.int .i64 count, Value.slice lA ln lc, u]) ∧ Hid (LOwn pkC 2 29 wr w.heap.size u ((box.take k).filter fun p => decide (now + 1 < p.due))) ∧ Hid (LOwn sC 1 27 wr w.heap.size v C) ∧ Hid (∀ b ∈ C, BOwn wr w.heap.size (.slice b.A b.n b.c) b.d) ∧ Hid (C.map (·.d) = if cut then [] else ((box.take k).filter fun p => !decide (now + 1 < p.due)).map (·.d)) ∧ Hid (Below w.heap.size w wr)) (fun i _ _ => bn - (intOf i).toNat)
  case atStart => exact ⟨0, _, [], Nat.zero_le _, rfl, hX0.out, hZ0.out, hN0.out, LOwn.nil pkC_len _ _, LOwn.nil sC_len _ _, fun b hb => by simp at hb, by show _ = _; simp, hb0.out⟩
  case round =>
    obtain ⟨k, u, C, hkn, rfl, hX, hZ, hNx, hu, hC, hCd, hCm, hb⟩ := hrel
    obtain ⟨A5, c5, rfl, hc5, hm5, hf5, hat5⟩ := hu.out.form
    obtain ⟨A6, c6, rfl, hc6, hm6, hf6, -⟩ := hC.out.form
    by_cases hlt : k < bn
    · have hkl : k < box.length := by have := hbn.out; omega
      clear hf5 hat5 hf6
      have hk0 : (0 : Int) ≤ k := by omega
      have hk1 : (k : Int) < bn := by omega
      obtain ⟨ad, hA, hbl, e0, e1⟩ := pk_cells (h.out.ba.below hb.out (Nat.le_refl _)) hlt
      (try simp only at hA e0 e1)
      have hbd := Lib.hid (h.out.bd _ (List.getElem_mem hkl))
      have hsd := Lib.hid (s3.out _ (List.getElem_mem hkl))
      have hS1 := Lib.hid (filter_take (fun p : Pk => decide (now + 1 < p.due)) box k hkl)
      have hS2 := Lib.hid (filter_take (fun p : Pk => !decide (now + 1 < p.due)) box k hkl)
      have hl5 : Hid (((box.take k).filter fun p => decide (now + 1 < p.due)).length ≤ 1000) := by show _ ≤ _; have := List.length_filter_le (fun p : Pk => decide (now + 1 < p.due)) (box.take k); have := List.length_take_le k box; omega
      have hl6 : Hid (C.length ≤ 1000) := by
        have e := congrArg List.length hCm.out
        rw [List.length_map] at e
        show _ ≤ _
        rw [e]
        split
        · simp
        · rw [List.length_map]
          have := List.length_filter_le (fun p : Pk => !decide (now + 1 < p.due)) (box.take k); have := List.length_take_le k box; omega
      generalize hp : box[k] = p at *
      obtain ⟨due, pA, pn, pc, pd⟩ := p
      obtain rfl : pd.length = pn := hbd.out.1.1.len
      replace hp := Lib.hid hp
      generalize hSt : ((box.take k).filter fun p => decide (now + 1 < p.due)) = S at *
      replace hSt := Lib.hid hSt
      (try simp only at e0 e1)
      have l5 := hl5.out
      have l6 := hl6.out
      have hP := Lib.hid (Blk.new wr 29 #[Value.int .i64 due, Value.slice pA pd.length pc])
      have hX2 := Lib.hid (hX.out.alloc (.cells #[Value.int .i64 due, Value.slice pA pd.length pc] 29))
      have hZ2 := Lib.hid (hZ.out.alloc (.cells #[Value.int .i64 due, Value.slice pA pd.length pc] 29))
      have hN2 := Lib.hid (hNx.out.alloc (.cells #[Value.int .i64 due, Value.slice pA pd.length pc] 29))
      have hu2 := Lib.hid (hu.out.alloc (.cells #[Value.int .i64 due, Value.slice pA pd.length pc] 29))
      have hC2 := Lib.hid (hC.out.alloc (.cells #[Value.int .i64 due, Value.slice pA pd.length pc] 29))
      have hCd2 : Hid (∀ b ∈ C, BOwn (wr.alloc (.cells #[Value.int .i64 due, Value.slice pA pd.length pc] 29)) w.heap.size (.slice b.A b.n b.c) b.d) := fun b hb => (hCd.out b hb).alloc _
      have hb2 : Hid (Below w.heap.size w (wr.alloc (.cells #[Value.int .i64 due, Value.slice pA pd.length pc] 29))) := hb.out.alloc hb.out.size _
      obtain ⟨x0, x1, x2, x3, x4, x5⟩ := (show wr.cell? ⟨w.heap.size, 0, none⟩ = some (Value.int .i64 now) ∧ wr.cell? ⟨w.heap.size, 1, none⟩ = some (Value.int .i64 delay) ∧ wr.cell? ⟨w.heap.size, 2, none⟩ = some (Value.bool cut) ∧ wr.cell? ⟨w.heap.size, 3, none⟩ = some (Value.int .i64 count) ∧ wr.cell? ⟨w.heap.size, 4, none⟩ = some (Value.slice lA ln lc) ∧ wr.cell? ⟨w.heap.size, 5, none⟩ = some (Value.slice bA bn bc) from ⟨hX.out.cell 0, hX.out.cell 1, hX.out.cell 2, hX.out.cell 3, hX.out.cell 4, hX.out.cell 5⟩)
      subst hA
      obtain ⟨a0, a1, a2, a3, a4, a5⟩ := (show (wr.alloc (.cells #[Value.int .i64 due, Value.slice pA pd.length pc] 29)).cell? ⟨w.heap.size, 0, none⟩ = some (Value.int .i64 now) ∧ (wr.alloc (.cells #[Value.int .i64 due, Value.slice pA pd.length pc] 29)).cell? ⟨w.heap.size, 1, none⟩ = some (Value.int .i64 delay) ∧ (wr.alloc (.cells #[Value.int .i64 due, Value.slice pA pd.length pc] 29)).cell? ⟨w.heap.size, 2, none⟩ = some (Value.bool cut) ∧ (wr.alloc (.cells #[Value.int .i64 due, Value.slice pA pd.length pc] 29)).cell? ⟨w.heap.size, 3, none⟩ = some (Value.int .i64 count) ∧ (wr.alloc (.cells #[Value.int .i64 due, Value.slice pA pd.length pc] 29)).cell? ⟨w.heap.size, 4, none⟩ = some (Value.slice lA ln lc) ∧ (wr.alloc (.cells #[Value.int .i64 due, Value.slice pA pd.length pc] 29)).cell? ⟨w.heap.size, 5, none⟩ = some (Value.slice (some ad) bn bc) from ⟨hX2.out.cell 0, hX2.out.cell 1, hX2.out.cell 2, hX2.out.cell 3, hX2.out.cell 4, hX2.out.cell 5⟩)
      obtain ⟨k0, k1, k2, k3, k4, k5⟩ := (show (wr.alloc (.cells #[Value.int .i64 due, Value.slice pA pd.length pc] 29)).cell? ⟨(w.heap.size + 1 + 1), 0, none⟩ = some (Value.int .i64 (now + 1)) ∧ (wr.alloc (.cells #[Value.int .i64 due, Value.slice pA pd.length pc] 29)).cell? ⟨(w.heap.size + 1 + 1), 1, none⟩ = some (Value.int .i64 delay) ∧ (wr.alloc (.cells #[Value.int .i64 due, Value.slice pA pd.length pc] 29)).cell? ⟨(w.heap.size + 1 + 1), 2, none⟩ = some (Value.bool cut) ∧ (wr.alloc (.cells #[Value.int .i64 due, Value.slice pA pd.length pc] 29)).cell? ⟨(w.heap.size + 1 + 1), 3, none⟩ = some (Value.int .i64 count) ∧ (wr.alloc (.cells #[Value.int .i64 due, Value.slice pA pd.length pc] 29)).cell? ⟨(w.heap.size + 1 + 1), 4, none⟩ = some (Value.slice lA ln lc) ∧ (wr.alloc (.cells #[Value.int .i64 due, Value.slice pA pd.length pc] 29)).cell? ⟨(w.heap.size + 1 + 1), 5, none⟩ = some (Value.slice A5 S.length c5) from ⟨hN2.out.cell 0, hN2.out.cell 1, hN2.out.cell 2, hN2.out.cell 3, hN2.out.cell 4, hN2.out.cell 5⟩)
      obtain ⟨p0, p1⟩ := (show (wr.alloc (.cells #[Value.int .i64 due, Value.slice pA pd.length pc] 29)).cell? ⟨wr.heap.size, 0, none⟩ = some (Value.int .i64 due) ∧ (wr.alloc (.cells #[Value.int .i64 due, Value.slice pA pd.length pc] 29)).cell? ⟨wr.heap.size, 1, none⟩ = some (Value.slice pA pd.length pc) from ⟨hP.out.cell 0, hP.out.cell 1⟩)
      by_cases q : now + 1 < due
      · have qd : decide (now + 1 < due) = true := by simpa using q
        have hrd : Hid (Reads ((wr.alloc (.cells #[Value.int .i64 due, Value.slice pA pd.length pc] 29)).alloc (.cells #[Value.int .i64 due, Value.slice pA pd.length pc] 29)) ((wr.alloc (.cells #[Value.int .i64 due, Value.slice pA pd.length pc] 29)).heap.size + 1) 2 (some ⟨(wr.alloc (.cells #[Value.int .i64 due, Value.slice pA pd.length pc] 29)).heap.size, 0, none⟩) 1 (flat pkC [(⟨due, pA, pd.length, pc, pd⟩ : Pk)])) := (lit_at (e := 29) pkC_len (wr.alloc (.cells #[Value.int .i64 due, Value.slice pA pd.length pc] 29)) [(⟨due, pA, pd.length, pc, pd⟩ : Pk)] #[Value.int .i64 due, Value.slice pA pd.length pc] (by simp [flat, pkC])).2
        rw [show (wr.alloc (.cells #[Value.int .i64 due, Value.slice pA pd.length pc] 29)).heap.size = wr.heap.size + 1 by simp] at hrd
        have hu3 : Hid (LOwn pkC 2 29 ((wr.alloc (.cells #[Value.int .i64 due, Value.slice pA pd.length pc] 29)).alloc (.cells #[Value.int .i64 due, Value.slice pA pd.length pc] 29)) w.heap.size (Value.slice A5 S.length c5) S) := hu2.out.alloc _
        have hb3 : Hid (Below w.heap.size w ((wr.alloc (.cells #[Value.int .i64 due, Value.slice pA pd.length pc] 29)).alloc (.cells #[Value.int .i64 due, Value.slice pA pd.length pc] 29))) := hb2.out.alloc hb2.out.size _
        have hX3 := Lib.hid (hX2.out.alloc (.cells #[Value.int .i64 due, Value.slice pA pd.length pc] 29))
        have hZ3 := Lib.hid (hZ2.out.alloc (.cells #[Value.int .i64 due, Value.slice pA pd.length pc] 29))
        have hN3 := Lib.hid (hN2.out.alloc (.cells #[Value.int .i64 due, Value.slice pA pd.length pc] 29))
        have hC3 := Lib.hid (hC2.out.alloc (.cells #[Value.int .i64 due, Value.slice pA pd.length pc] 29))
        have hCd3 : Hid (∀ b ∈ C, BOwn ((wr.alloc (.cells #[Value.int .i64 due, Value.slice pA pd.length pc] 29)).alloc (.cells #[Value.int .i64 due, Value.slice pA pd.length pc] 29)) w.heap.size (.slice b.A b.n b.c) b.d) := fun b hb => (hCd2.out b hb).alloc _
        have hsz := hb.out.size
        go_wp2_with (at_builtin; refine wpList_append_any _ rfl (.tmp 31) (.tmp 33) _ rfl w.heap.size 29 ip _ 2 32 Try.underlying23 hip.out hzp0.out hzp1.out hzp2.out rfl (by omega) (Value.slice A5 S.length c5) S.length (flat pkC S) rfl hu3.out.2 (wr.heap.size + 1 + 1) (some ⟨wr.heap.size + 1, 0, none⟩) 1 1 (flat pkC [(⟨due, pA, pd.length, pc, pd⟩ : Pk)]) rfl hrd.out (pkC_one _) (by simp only [maxLen]; omega) (by omega) (by simp; omega) ?_
                     intro v' w1 hown1 hg1 hat1
                     have hX4 := Lib.hid (hX3.out.grownT hu3.out (by decide) hg1)
                     have hZ4 := Lib.hid (hZ3.out.grownT hu3.out (by decide) hg1)
                     have hN4 := Lib.hid (hN3.out.grownT hu3.out (by decide) hg1)
                     have hC4 := Lib.hid (hC3.out.grownT hu3.out (by decide) hg1)
                     have hCd4 : Hid (∀ b ∈ C, BOwn w1 w.heap.size (.slice b.A b.n b.c) b.d) := fun b hb => (hCd3.out b hb).grownT hu3.out (by decide) hg1
                     have hb4 : Hid (Below w.heap.size w w1) := below_row hb3.out hu3.out (Nat.le_refl _) hb3.out.size hg1
                     have hu4 : Hid (LOwn pkC 2 29 w1 w.heap.size v' (S ++ [(⟨due, pA, pd.length, pc, pd⟩ : Pk)])) := ⟨pkC_len, by rw [List.length_append, flat_append]; exact hown1⟩
                     obtain ⟨A8, c8, hv8, -, -, -, -⟩ := hu4.out.form
                     rw [show (S ++ [(⟨due, pA, pd.length, pc, pd⟩ : Pk)]).length = S.length + 1 by simp] at hv8
                     subst hv8
                     clear hown1 hg1 hat1
                     obtain ⟨k0, k1, k2, k3, k4, k5, z0, z1, z2, z3, z4, z5⟩ := (show w1.cell? ⟨(w.heap.size + 1 + 1), 0, none⟩ = some (Value.int .i64 (now + 1)) ∧ w1.cell? ⟨(w.heap.size + 1 + 1), 1, none⟩ = some (Value.int .i64 delay) ∧ w1.cell? ⟨(w.heap.size + 1 + 1), 2, none⟩ = some (Value.bool cut) ∧ w1.cell? ⟨(w.heap.size + 1 + 1), 3, none⟩ = some (Value.int .i64 count) ∧ w1.cell? ⟨(w.heap.size + 1 + 1), 4, none⟩ = some (Value.slice lA ln lc) ∧ w1.cell? ⟨(w.heap.size + 1 + 1), 5, none⟩ = some (Value.slice A5 S.length c5) ∧ w1.frozen? ⟨(w.heap.size + 1 + 1), 0, none⟩ = false ∧ w1.frozen? ⟨(w.heap.size + 1 + 1), 1, none⟩ = false ∧ w1.frozen? ⟨(w.heap.size + 1 + 1), 2, none⟩ = false ∧ w1.frozen? ⟨(w.heap.size + 1 + 1), 3, none⟩ = false ∧ w1.frozen? ⟨(w.heap.size + 1 + 1), 4, none⟩ = false ∧ w1.frozen? ⟨(w.heap.size + 1 + 1), 5, none⟩ = false from ⟨hN4.out.cell 0, hN4.out.cell 1, hN4.out.cell 2, hN4.out.cell 3, hN4.out.cell 4, hN4.out.cell 5, hN4.out.frozen 0, hN4.out.frozen 1, hN4.out.frozen 2, hN4.out.frozen 3, hN4.out.frozen 4, hN4.out.frozen 5⟩))
        go_roundw
        case rel =>
          have hg5 := only_set (World.grownBy.refl w1 (some (w.heap.size + 1 + 1))) 5 (Value.slice A8 (S.length + 1) c8)
          refine ⟨k + 1, Value.slice A8 (S.length + 1) c8, C, by omega, by go_num, hX4.out.far (p := ⟨(w.heap.size + 1 + 1), 5, none⟩) (by simp; try omega) _, hZ4.out.far (p := ⟨(w.heap.size + 1 + 1), 5, none⟩) (by simp; try omega) _, hN4.out.set_ 5 (Value.slice A8 (S.length + 1) c8), ?_, hC4.out.grownB hN4.out (by decide) hg5, fun b hb => (hCd4.out b hb).grownB hN4.out (by decide) hg5, ?_, below_set hb4.out (by omega) 5 _⟩
          · have := hu4.out.grownB hN4.out (by decide) hg5
            show LOwn _ _ _ _ _ _ _
            rw [hS1.out]
            simpa [q] using this
          · show _ = _
            rw [hCm.out, hS2.out]
            simp [q]
        case measure => simp [intOf]; omega
      · have qd : decide (now + 1 < due) = false := by simpa using q
        have hSn : Hid (((box.take (k + 1)).filter fun p => decide (now + 1 < p.due)) = S) := by show _ = _; rw [hS1.out]; simp [q]
        cases hcut : cut with
        | true =>
          subst hcut
          go_wp2_with fail
          go_roundw
          case rel => exact ⟨k + 1, _, C, by omega, by go_num, hX2.out, hZ2.out, hN2.out, by rw [hSn.out]; exact hu2.out, hC2.out, hCd2.out, by show _ = _; rw [hCm.out]; rfl, hb2.out⟩
          case measure => simp [intOf]; omega
        | false =>
          subst hcut
          go_wp2_with fail
          have hsz := hb.out.size
          refine (cloneB_any pA pd.length pc pd (wr.alloc (.cells #[Value.int .i64 due, Value.slice pA pd.length pc] 29)) (hbd.out.more hb2.out).1.1 (by have := hsd.out; omega)).mono ?_; rintro e w3 ⟨v3, rfl, hv3, hbc⟩
          obtain ⟨A7, c7, rfl, -, -, -, -⟩ := hv3.form
          have hX3 := Lib.hid ((hX2.out.below hbc hX2.out.lt).alloc (.cells #[Value.slice A7 pd.length c7] 27))
          have hZ3 := Lib.hid ((hZ2.out.below hbc hZ2.out.lt).alloc (.cells #[Value.slice A7 pd.length c7] 27))
          have hN3 := Lib.hid ((hN2.out.below hbc hN2.out.lt).alloc (.cells #[Value.slice A7 pd.length c7] 27))
          have hu3 := Lib.hid ((hu2.out.kept hbc).alloc (.cells #[Value.slice A7 pd.length c7] 27))
          have hC3 := Lib.hid ((hC2.out.kept hbc).alloc (.cells #[Value.slice A7 pd.length c7] 27))
          have hCd3 : Hid (∀ b ∈ C, BOwn (w3.alloc (.cells #[Value.slice A7 pd.length c7] 27)) w.heap.size (.slice b.A b.n b.c) b.d) := fun b hb => ((hCd2.out b hb).kept hbc).alloc _
          have hv4 : Hid (BOwn (w3.alloc (.cells #[Value.slice A7 pd.length c7] 27)) w.heap.size (Value.slice A7 pd.length c7) pd) := (hv3.mono (by simp; omega)).alloc _
          have hb3 : Hid (Below w.heap.size w (w3.alloc (.cells #[Value.slice A7 pd.length c7] 27))) := (hb2.out.trans (hbc.mono hb2.out.size)).alloc (hb2.out.trans (hbc.mono hb2.out.size)).size _
          have hrd : Hid (Reads (w3.alloc (.cells #[Value.slice A7 pd.length c7] 27)) (w3.heap.size + 1) 1 (some ⟨w3.heap.size, 0, none⟩) 1 (flat sC [(⟨A7, pd.length, c7, pd⟩ : Bs)])) := (lit_at (e := 27) sC_len w3 [(⟨A7, pd.length, c7, pd⟩ : Bs)] #[Value.slice A7 pd.length c7] (by simp [flat, sC])).2
          have hsz3 := hbc.size
          clear hv3 hbc
          go_wp2_with (at_builtin; refine wpList_append_any _ rfl (.tmp 39) (.tmp 43) _ rfl w.heap.size 27 is _ 1 24 Try.underlying37 his.out hzs0.out hzs1.out hzs2.out rfl (by omega) (Value.slice A6 C.length c6) C.length (flat sC C) rfl hC3.out.2 (w3.heap.size + 1) (some ⟨w3.heap.size, 0, none⟩) 1 1 (flat sC [(⟨A7, pd.length, c7, pd⟩ : Bs)]) rfl hrd.out (sC_one _) (by simp only [maxLen]; omega) (by omega) (by have := hb3.out.size; omega) ?_
                       intro v' w1 hown1 hg1 hat1)
          have hX4 := Lib.hid (hX3.out.grownT hC3.out (by decide) hg1)
          have hZ4 := Lib.hid (hZ3.out.grownT hC3.out (by decide) hg1)
          have hN4 := Lib.hid (hN3.out.grownT hC3.out (by decide) hg1)
          have hu4 := Lib.hid (hu3.out.grownT hC3.out (by decide) hg1)
          have hCd4 : Hid (∀ b ∈ C, BOwn w1 w.heap.size (.slice b.A b.n b.c) b.d) := fun b hb => (hCd3.out b hb).grownT hC3.out (by decide) hg1
          have hv5 : Hid (BOwn w1 w.heap.size (Value.slice A7 pd.length c7) pd) := hv4.out.grownT hC3.out (by decide) hg1
          have hb4 : Hid (Below w.heap.size w w1) := below_row hb3.out hC3.out (Nat.le_refl _) hb3.out.size hg1
          have hC4 : Hid (LOwn sC 1 27 w1 w.heap.size v' (C ++ [⟨A7, pd.length, c7, pd⟩])) := ⟨sC_len, by rw [List.length_append, flat_append]; exact hown1⟩
          clear hown1 hg1 hat1
          go_wp2_with fail
          go_roundw
          case rel =>
            refine ⟨k + 1, _, C ++ [(⟨A7, pd.length, c7, pd⟩ : Bs)], by omega, by go_num, hX4.out, hZ4.out, hN4.out, by rw [hSn.out]; exact hu4.out, hC4.out, ?_, ?_, hb4.out⟩
            · intro b hb
              rcases List.mem_append.1 hb with hb | hb
              · exact hCd4.out b hb
              · simp at hb; subst hb; exact hv5.out
            · show _ = _
              rw [List.map_append, hCm.out, hS2.out]
              simp [q]
          case measure => simp [intOf]; omega
    · have hk : k = bn := by omega
      have htk : Hid (box.take k = box) := List.take_of_length_le (by have := hbn.out; omega)
      rw [htk.out] at hCm hu hat5 hc5 hNx
      clear hf6
      generalize hSt : (box.filter fun p => decide (now + 1 < p.due)) = S at *
      replace hSt := Lib.hid hSt
      have hsub : Hid (∀ p ∈ S, p ∈ box) := fun p hp => (List.mem_filter.1 (hSt.out.symm ▸ hp)).1
      have hl5 : S.length ≤ 1000 := by rw [← hSt.out]; have := List.length_filter_le (fun p : Pk => decide (now + 1 < p.due)) box; omega
      have hlkok : Hid (LkOk wr ⟨now + 1, delay, cut, count, lA, ln, lc, lose, A5, S.length, c5, S⟩) := ⟨(h.out.more hb.out).la, h.out.lb, h.out.li, hat5, ⟨hc5, hm5⟩, fun p hp => (h.out.bd p (hsub.out p hp)).more hb.out, ⟨by simp [i64In]; omega, h.out.ii.2⟩⟩
      have hcc := Lib.hid (hcp.out ⟨now + 1, delay, cut, count, lA, ln, lc, lose, A5, S.length, c5, S⟩ wr hlkok.out ⟨s1, hl5, fun p hp => s3.out p (hsub.out p hp)⟩)
      simp only at hcc
      clear hat5 hk hu
      obtain ⟨k0, k1, k2, k3, k4, k5⟩ := (show wr.cell? ⟨(w.heap.size + 1 + 1), 0, none⟩ = some (Value.int .i64 (now + 1)) ∧ wr.cell? ⟨(w.heap.size + 1 + 1), 1, none⟩ = some (Value.int .i64 delay) ∧ wr.cell? ⟨(w.heap.size + 1 + 1), 2, none⟩ = some (Value.bool cut) ∧ wr.cell? ⟨(w.heap.size + 1 + 1), 3, none⟩ = some (Value.int .i64 count) ∧ wr.cell? ⟨(w.heap.size + 1 + 1), 4, none⟩ = some (Value.slice lA ln lc) ∧ wr.cell? ⟨(w.heap.size + 1 + 1), 5, none⟩ = some (Value.slice A5 S.length c5) from ⟨hNx.out.cell 0, hNx.out.cell 1, hNx.out.cell 2, hNx.out.cell 3, hNx.out.cell 4, hNx.out.cell 5⟩)
      go_wp2_with fail
      refine hcc.out.mono ?_; rintro e w3 ⟨l', rfl, hok, hv, hf, -, -, hb3⟩
      clear hcc hcp k0 k1 k2 k3 k4 k5
      obtain ⟨now2, delay2, cut2, count2, lA2, ln2, lc2, lose2, bA2, bn2, bc2, box2⟩ := l'
      simp only
      have hfN : Hid (LkFr (w.heap.size + 1 + 1) ⟨now2, delay2, cut2, count2, lA2, ln2, lc2, lose2, bA2, bn2, bc2, box2⟩) := hf.mono (Nat.le_of_lt hNx.out.lt)
      replace hok := Lib.hid hok
      replace hv := Lib.hid hv
      have hZ3 := Lib.hid (hZ.out.below hb3 hZ.out.lt)
      have hC3 := Lib.hid (hC.out.kept hb3)
      have hCd3 : Hid (∀ b ∈ C, BOwn w3 w.heap.size (.slice b.A b.n b.c) b.d) := fun b hb => (hCd.out b hb).kept hb3
      have hb2 := Lib.hid (hb.out.trans (hb3.mono hb.out.size))
      clear hb3 hf
      obtain ⟨u0, u1, u2, u3, u4, u5, z0, z1, z2, z3, z4, z5⟩ := (show w3.cell? ⟨(w.heap.size + 1), 0, none⟩ = some (Value.int .i64 0) ∧ w3.cell? ⟨(w.heap.size + 1), 1, none⟩ = some (Value.int .i64 0) ∧ w3.cell? ⟨(w.heap.size + 1), 2, none⟩ = some (Value.bool false) ∧ w3.cell? ⟨(w.heap.size + 1), 3, none⟩ = some (Value.int .i64 0) ∧ w3.cell? ⟨(w.heap.size + 1), 4, none⟩ = some (Value.slice none 0 0) ∧ w3.cell? ⟨(w.heap.size + 1), 5, none⟩ = some (Value.slice none 0 0) ∧ w3.frozen? ⟨(w.heap.size + 1), 0, none⟩ = false ∧ w3.frozen? ⟨(w.heap.size + 1), 1, none⟩ = false ∧ w3.frozen? ⟨(w.heap.size + 1), 2, none⟩ = false ∧ w3.frozen? ⟨(w.heap.size + 1), 3, none⟩ = false ∧ w3.frozen? ⟨(w.heap.size + 1), 4, none⟩ = false ∧ w3.frozen? ⟨(w.heap.size + 1), 5, none⟩ = false from ⟨hZ3.out.cell 0, hZ3.out.cell 1, hZ3.out.cell 2, hZ3.out.cell 3, hZ3.out.cell 4, hZ3.out.cell 5, hZ3.out.frozen 0, hZ3.out.frozen 1, hZ3.out.frozen 2, hZ3.out.frozen 3, hZ3.out.frozen 4, hZ3.out.frozen 5⟩)
      go_wp2_with fail
      (try simp only [Exit.inBlock, Exit.then])
      have hB := lk_set6 hZ3.out (Value.int .i64 now2) (Value.int .i64 delay2) (Value.bool cut2) (Value.int .i64 count2) (Value.slice lA2 ln2 lc2) (Value.slice bA2 bn2 bc2)
      have hbF := below_set6 hb2.out (Nat.le_succ _) (Value.int .i64 now2) (Value.int .i64 delay2) (Value.bool cut2) (Value.int .i64 count2) (Value.slice lA2 ln2 lc2) (Value.slice bA2 bn2 bc2)
      have hgF := grown_set6 (w3) (w.heap.size + 1) (Value.int .i64 now2) (Value.int .i64 delay2) (Value.bool cut2) (Value.int .i64 count2) (Value.slice lA2 ln2 lc2) (Value.slice bA2 bn2 bc2)
      refine bodyPost_ret (v := .tuple #[.agg #[Value.int .i64 now2, Value.int .i64 delay2, Value.bool cut2, Value.int .i64 count2, Value.slice lA2 ln2 lc2, Value.slice bA2 bn2 bc2], Value.slice A6 C.length c6]) ?_ rfl ?_
      · refine (res2 (fn := Try.f14) (p := 2) (u := 3) (ty := 25) rfl _ _ (w.heap.size + 1) 25 _ (0, 0) _ ?_ hB Try.underlying25 rfl (by kernel_rfl)).trans ?_
        · rfl
        · rfl
      clear hB
      generalize (((((((w3).setCell ⟨(w.heap.size + 1), 0, none⟩ (Value.int .i64 now2)).setCell ⟨(w.heap.size + 1), 1, none⟩ (Value.int .i64 delay2)).setCell ⟨(w.heap.size + 1), 2, none⟩ (Value.bool cut2)).setCell ⟨(w.heap.size + 1), 3, none⟩ (Value.int .i64 count2)).setCell ⟨(w.heap.size + 1), 4, none⟩ (Value.slice lA2 ln2 lc2)).setCell ⟨(w.heap.size + 1), 5, none⟩ (Value.slice bA2 bn2 bc2)) = wF at *
      refine ⟨⟨⟨now2, delay2, cut2, count2, lA2, ln2, lc2, lose2, bA2, bn2, bc2, box2⟩, A6, C.length, c6, C, rfl, LkOk_grown hok.out hfN.out hgF, ?_, hC3.out.grownB hZ3.out (by decide) hgF, fun b hb => (hCd3.out b hb).grownB hZ3.out (by decide) hgF, ?_, (hfN.out.mono (by omega)).k⟩, hbF⟩
      · rw [hT.out]; exact hv.out
      · rw [hT.out]; exact hCm.out
set_option maxRecDepth 100000 in
set_option maxHeartbeats 8000000 in
theorem rtick_any (l : Lk) (w : World) (h : LkOk w l) (hs : LkSm l) (hn : 0 ≤ l.now ∧ l.now ≤ 268435456) :
    Calls Try.prog 21 #[lkV l] w fun e w' => TickRef w w' l l.val e ∧ Below w.heap.size w w' := by
  have hbn := Lib.hid h.ba.len
  obtain ⟨now, delay, cut, count, lA, ln, lc, lose, bA, bn, bc, box⟩ := l
  obtain ⟨s1, s2, s3⟩ := hs
  obtain ⟨n1, n2⟩ := hn
  simp only [lkV, Lk.val] at *
  have hbn1 : bn ≤ 1000 := by have := hbn.out; omega
  replace h := Lib.hid h
  replace s3 := Lib.hid s3
  by_cases hq : now = 268435456
  · have hT := Lib.hid (tick_end ⟨now, delay, cut, count, lose, box.map Pk.val⟩ (by simp only; omega))
    have hX0 := Lib.hid ((Blk.new w 25 #[Value.int .i64 now, Value.int .i64 delay, Value.bool cut, Value.int .i64 count, Value.slice lA ln lc, Value.slice bA bn bc]).alloc (.cells #[Value.int .i64 0, Value.int .i64 0, Value.bool false, Value.int .i64 0, Value.slice none 0 0, Value.slice none 0 0] 25))
    have hZ0 := Lib.hid (Blk.new (w.alloc (.cells #[Value.int .i64 now, Value.int .i64 delay, Value.bool cut, Value.int .i64 count, Value.slice lA ln lc, Value.slice bA bn bc] 25)) 25 #[Value.int .i64 0, Value.int .i64 0, Value.bool false, Value.int .i64 0, Value.slice none 0 0, Value.slice none 0 0])
    have hb0 : Hid (Below w.heap.size w ((w.alloc (.cells #[Value.int .i64 now, Value.int .i64 delay, Value.bool cut, Value.int .i64 count, Value.slice lA ln lc, Value.slice bA bn bc] 25)).alloc (.cells #[Value.int .i64 0, Value.int .i64 0, Value.bool false, Value.int .i64 0, Value.slice none 0 0, Value.slice none 0 0] 25))) := (a1 w _).alloc (by simp) _
    rw [show (w.alloc (.cells #[Value.int .i64 now, Value.int .i64 delay, Value.bool cut, Value.int .i64 count, Value.slice lA ln lc, Value.slice bA bn bc] 25)).heap.size = w.heap.size + 1 by simp] at hZ0
    obtain ⟨k0, k1, k2, k3, k4, k5⟩ := (show ((w.alloc (.cells #[Value.int .i64 now, Value.int .i64 delay, Value.bool cut, Value.int .i64 count, Value.slice lA ln lc, Value.slice bA bn bc] 25)).alloc (.cells #[Value.int .i64 0, Value.int .i64 0, Value.bool false, Value.int .i64 0, Value.slice none 0 0, Value.slice none 0 0] 25)).cell? ⟨w.heap.size, 0, none⟩ = some (Value.int .i64 now) ∧ ((w.alloc (.cells #[Value.int .i64 now, Value.int .i64 delay, Value.bool cut, Value.int .i64 count, Value.slice lA ln lc, Value.slice bA bn bc] 25)).alloc (.cells #[Value.int .i64 0, Value.int .i64 0, Value.bool false, Value.int .i64 0, Value.slice none 0 0, Value.slice none 0 0] 25)).cell? ⟨w.heap.size, 1, none⟩ = some (Value.int .i64 delay) ∧ ((w.alloc (.cells #[Value.int .i64 now, Value.int .i64 delay, Value.bool cut, Value.int .i64 count, Value.slice lA ln lc, Value.slice bA bn bc] 25)).alloc (.cells #[Value.int .i64 0, Value.int .i64 0, Value.bool false, Value.int .i64 0, Value.slice none 0 0, Value.slice none 0 0] 25)).cell? ⟨w.heap.size, 2, none⟩ = some (Value.bool cut) ∧ ((w.alloc (.cells #[Value.int .i64 now, Value.int .i64 delay, Value.bool cut, Value.int .i64 count, Value.slice lA ln lc, Value.slice bA bn bc] 25)).alloc (.cells #[Value.int .i64 0, Value.int .i64 0, Value.bool false, Value.int .i64 0, Value.slice none 0 0, Value.slice none 0 0] 25)).cell? ⟨w.heap.size, 3, none⟩ = some (Value.int .i64 count) ∧ ((w.alloc (.cells #[Value.int .i64 now, Value.int .i64 delay, Value.bool cut, Value.int .i64 count, Value.slice lA ln lc, Value.slice bA bn bc] 25)).alloc (.cells #[Value.int .i64 0, Value.int .i64 0, Value.bool false, Value.int .i64 0, Value.slice none 0 0, Value.slice none 0 0] 25)).cell? ⟨w.heap.size, 4, none⟩ = some (Value.slice lA ln lc) ∧ ((w.alloc (.cells #[Value.int .i64 now, Value.int .i64 delay, Value.bool cut, Value.int .i64 count, Value.slice lA ln lc, Value.slice bA bn bc] 25)).alloc (.cells #[Value.int .i64 0, Value.int .i64 0, Value.bool false, Value.int .i64 0, Value.slice none 0 0, Value.slice none 0 0] 25)).cell? ⟨w.heap.size, 5, none⟩ = some (Value.slice bA bn bc) from ⟨hX0.out.cell 0, hX0.out.cell 1, hX0.out.cell 2, hX0.out.cell 3, hX0.out.cell 4, hX0.out.cell 5⟩)
    subst hq
    go_enter Try.func21, Try.ntmps21
    go_wp2_with fail
    (try simp only [Exit.inBlock, Exit.then])
    have hB := Blk.new (w.alloc (.cells #[Value.int .i64 268435456, Value.int .i64 delay, Value.bool cut, Value.int .i64 count, Value.slice lA ln lc, Value.slice bA bn bc] 25)) 25 #[Value.int .i64 268435456, Value.int .i64 delay, Value.bool cut, Value.int .i64 count, Value.slice lA ln lc, Value.slice bA bn bc]
    rw [show (w.alloc (.cells #[Value.int .i64 268435456, Value.int .i64 delay, Value.bool cut, Value.int .i64 count, Value.slice lA ln lc, Value.slice bA bn bc] 25)).heap.size = w.heap.size + 1 by simp] at hB
    have hbF : Below w.heap.size w ((w.alloc (.cells #[Value.int .i64 268435456, Value.int .i64 delay, Value.bool cut, Value.int .i64 count, Value.slice lA ln lc, Value.slice bA bn bc] 25)).alloc (.cells #[Value.int .i64 268435456, Value.int .i64 delay, Value.bool cut, Value.int .i64 count, Value.slice lA ln lc, Value.slice bA bn bc] 25)) := (a1 w _).alloc (by simp) _
    refine bodyPost_ret (v := .tuple #[.agg #[Value.int .i64 268435456, Value.int .i64 delay, Value.bool cut, Value.int .i64 count, Value.slice lA ln lc, Value.slice bA bn bc], .slice none 0 0]) ?_ rfl ?_
    · refine (res2 (fn := Try.f21) (p := 2) (u := 3) (ty := 25) rfl _ _ (w.heap.size + 1) 25 _ (0, 0) _ ?_ hB Try.underlying25 rfl (by kernel_rfl)).trans ?_
      · rfl
      · rfl
    clear hB
    refine ⟨⟨⟨268435456, delay, cut, count, lA, ln, lc, lose, bA, bn, bc, box⟩, none, 0, 0, [], rfl, h.out.more hbF, by rw [hT.out]; rfl, LOwn.nil sC_len _ _, fun b hb => (by simp at hb), by rw [hT.out]; rfl, fun Q hQ _ => hQ, fun Q hQ b hb => (by simp at hb)⟩, hbF⟩
  have hqe : (now == 268435456) = false := by simpa using hq
  have hT := Lib.hid (tick_go now delay count cut lose box (by omega))
  obtain ⟨ip, hip, hzp0, hzp1, hzp2⟩ := info_parts pk_info
  obtain ⟨is, his, hzs0, hzs1, hzs2⟩ := info_parts bs_info
  replace hip := Lib.hid hip
  replace hzp0 := Lib.hid hzp0
  replace hzp1 := Lib.hid hzp1
  replace hzp2 := Lib.hid hzp2
  replace his := Lib.hid his
  replace hzs0 := Lib.hid hzs0
  replace hzs1 := Lib.hid hzs1
  replace hzs2 := Lib.hid hzs2
  have hX0 := Lib.hid ((Blk.new w 25 #[Value.int .i64 (now + 1), Value.int .i64 delay, Value.bool cut, Value.int .i64 count, Value.slice lA ln lc, Value.slice bA bn bc]).alloc (.cells #[Value.int .i64 0, Value.int .i64 0, Value.bool false, Value.int .i64 0, Value.slice none 0 0, Value.slice none 0 0] 25))
  have hZ0 := Lib.hid (Blk.new (w.alloc (.cells #[Value.int .i64 (now + 1), Value.int .i64 delay, Value.bool cut, Value.int .i64 count, Value.slice lA ln lc, Value.slice bA bn bc] 25)) 25 #[Value.int .i64 0, Value.int .i64 0, Value.bool false, Value.int .i64 0, Value.slice none 0 0, Value.slice none 0 0])
  have hb0 : Hid (Below w.heap.size w ((w.alloc (.cells #[Value.int .i64 (now + 1), Value.int .i64 delay, Value.bool cut, Value.int .i64 count, Value.slice lA ln lc, Value.slice bA bn bc] 25)).alloc (.cells #[Value.int .i64 0, Value.int .i64 0, Value.bool false, Value.int .i64 0, Value.slice none 0 0, Value.slice none 0 0] 25))) := (a1 w _).alloc (by simp) _
  rw [show (w.alloc (.cells #[Value.int .i64 (now + 1), Value.int .i64 delay, Value.bool cut, Value.int .i64 count, Value.slice lA ln lc, Value.slice bA bn bc] 25)).heap.size = w.heap.size + 1 by simp] at hZ0
  obtain ⟨a0, a1, a2, a3, a4, a5⟩ := (show ((w.alloc (.cells #[Value.int .i64 now, Value.int .i64 delay, Value.bool cut, Value.int .i64 count, Value.slice lA ln lc, Value.slice bA bn bc] 25)).alloc (.cells #[Value.int .i64 0, Value.int .i64 0, Value.bool false, Value.int .i64 0, Value.slice none 0 0, Value.slice none 0 0] 25)).cell? ⟨w.heap.size, 0, none⟩ = some (Value.int .i64 now) ∧ ((w.alloc (.cells #[Value.int .i64 now, Value.int .i64 delay, Value.bool cut, Value.int .i64 count, Value.slice lA ln lc, Value.slice bA bn bc] 25)).alloc (.cells #[Value.int .i64 0, Value.int .i64 0, Value.bool false, Value.int .i64 0, Value.slice none 0 0, Value.slice none 0 0] 25)).cell? ⟨w.heap.size, 1, none⟩ = some (Value.int .i64 delay) ∧ ((w.alloc (.cells #[Value.int .i64 now, Value.int .i64 delay, Value.bool cut, Value.int .i64 count, Value.slice lA ln lc, Value.slice bA bn bc] 25)).alloc (.cells #[Value.int .i64 0, Value.int .i64 0, Value.bool false, Value.int .i64 0, Value.slice none 0 0, Value.slice none 0 0] 25)).cell? ⟨w.heap.size, 2, none⟩ = some (Value.bool cut) ∧ ((w.alloc (.cells #[Value.int .i64 now, Value.int .i64 delay, Value.bool cut, Value.int .i64 count, Value.slice lA ln lc, Value.slice bA bn bc] 25)).alloc (.cells #[Value.int .i64 0, Value.int .i64 0, Value.bool false, Value.int .i64 0, Value.slice none 0 0, Value.slice none 0 0] 25)).cell? ⟨w.heap.size, 3, none⟩ = some (Value.int .i64 count) ∧ ((w.alloc (.cells #[Value.int .i64 now, Value.int .i64 delay, Value.bool cut, Value.int .i64 count, Value.slice lA ln lc, Value.slice bA bn bc] 25)).alloc (.cells #[Value.int .i64 0, Value.int .i64 0, Value.bool false, Value.int .i64 0, Value.slice none 0 0, Value.slice none 0 0] 25)).cell? ⟨w.heap.size, 4, none⟩ = some (Value.slice lA ln lc) ∧ ((w.alloc (.cells #[Value.int .i64 now, Value.int .i64 delay, Value.bool cut, Value.int .i64 count, Value.slice lA ln lc, Value.slice bA bn bc] 25)).alloc (.cells #[Value.int .i64 0, Value.int .i64 0, Value.bool false, Value.int .i64 0, Value.slice none 0 0, Value.slice none 0 0] 25)).cell? ⟨w.heap.size, 5, none⟩ = some (Value.slice bA bn bc) from ⟨((Blk.new w 25 #[Value.int .i64 now, Value.int .i64 delay, Value.bool cut, Value.int .i64 count, Value.slice lA ln lc, Value.slice bA bn bc]).alloc (.cells #[Value.int .i64 0, Value.int .i64 0, Value.bool false, Value.int .i64 0, Value.slice none 0 0, Value.slice none 0 0] 25)).cell 0, ((Blk.new w 25 #[Value.int .i64 now, Value.int .i64 delay, Value.bool cut, Value.int .i64 count, Value.slice lA ln lc, Value.slice bA bn bc]).alloc (.cells #[Value.int .i64 0, Value.int .i64 0, Value.bool false, Value.int .i64 0, Value.slice none 0 0, Value.slice none 0 0] 25)).cell 1, ((Blk.new w 25 #[Value.int .i64 now, Value.int .i64 delay, Value.bool cut, Value.int .i64 count, Value.slice lA ln lc, Value.slice bA bn bc]).alloc (.cells #[Value.int .i64 0, Value.int .i64 0, Value.bool false, Value.int .i64 0, Value.slice none 0 0, Value.slice none 0 0] 25)).cell 2, ((Blk.new w 25 #[Value.int .i64 now, Value.int .i64 delay, Value.bool cut, Value.int .i64 count, Value.slice lA ln lc, Value.slice bA bn bc]).alloc (.cells #[Value.int .i64 0, Value.int .i64 0, Value.bool false, Value.int .i64 0, Value.slice none 0 0, Value.slice none 0 0] 25)).cell 3, ((Blk.new w 25 #[Value.int .i64 now, Value.int .i64 delay, Value.bool cut, Value.int .i64 count, Value.slice lA ln lc, Value.slice bA bn bc]).alloc (.cells #[Value.int .i64 0, Value.int .i64 0, Value.bool false, Value.int .i64 0, Value.slice none 0 0, Value.slice none 0 0] 25)).cell 4, ((Blk.new w 25 #[Value.int .i64 now, Value.int .i64 delay, Value.bool cut, Value.int .i64 count, Value.slice lA ln lc, Value.slice bA bn bc]).alloc (.cells #[Value.int .i64 0, Value.int .i64 0, Value.bool false, Value.int .i64 0, Value.slice none 0 0, Value.slice none 0 0] 25)).cell 5⟩)
  obtain ⟨k0, k1, k2, k3, k4, k5⟩ := (show ((w.alloc (.cells #[Value.int .i64 (now + 1), Value.int .i64 delay, Value.bool cut, Value.int .i64 count, Value.slice lA ln lc, Value.slice bA bn bc] 25)).alloc (.cells #[Value.int .i64 0, Value.int .i64 0, Value.bool false, Value.int .i64 0, Value.slice none 0 0, Value.slice none 0 0] 25)).cell? ⟨w.heap.size, 0, none⟩ = some (Value.int .i64 (now + 1)) ∧ ((w.alloc (.cells #[Value.int .i64 (now + 1), Value.int .i64 delay, Value.bool cut, Value.int .i64 count, Value.slice lA ln lc, Value.slice bA bn bc] 25)).alloc (.cells #[Value.int .i64 0, Value.int .i64 0, Value.bool false, Value.int .i64 0, Value.slice none 0 0, Value.slice none 0 0] 25)).cell? ⟨w.heap.size, 1, none⟩ = some (Value.int .i64 delay) ∧ ((w.alloc (.cells #[Value.int .i64 (now + 1), Value.int .i64 delay, Value.bool cut, Value.int .i64 count, Value.slice lA ln lc, Value.slice bA bn bc] 25)).alloc (.cells #[Value.int .i64 0, Value.int .i64 0, Value.bool false, Value.int .i64 0, Value.slice none 0 0, Value.slice none 0 0] 25)).cell? ⟨w.heap.size, 2, none⟩ = some (Value.bool cut) ∧ ((w.alloc (.cells #[Value.int .i64 (now + 1), Value.int .i64 delay, Value.bool cut, Value.int .i64 count, Value.slice lA ln lc, Value.slice bA bn bc] 25)).alloc (.cells #[Value.int .i64 0, Value.int .i64 0, Value.bool false, Value.int .i64 0, Value.slice none 0 0, Value.slice none 0 0] 25)).cell? ⟨w.heap.size, 3, none⟩ = some (Value.int .i64 count) ∧ ((w.alloc (.cells #[Value.int .i64 (now + 1), Value.int .i64 delay, Value.bool cut, Value.int .i64 count, Value.slice lA ln lc, Value.slice bA bn bc] 25)).alloc (.cells #[Value.int .i64 0, Value.int .i64 0, Value.bool false, Value.int .i64 0, Value.slice none 0 0, Value.slice none 0 0] 25)).cell? ⟨w.heap.size, 4, none⟩ = some (Value.slice lA ln lc) ∧ ((w.alloc (.cells #[Value.int .i64 (now + 1), Value.int .i64 delay, Value.bool cut, Value.int .i64 count, Value.slice lA ln lc, Value.slice bA bn bc] 25)).alloc (.cells #[Value.int .i64 0, Value.int .i64 0, Value.bool false, Value.int .i64 0, Value.slice none 0 0, Value.slice none 0 0] 25)).cell? ⟨w.heap.size, 5, none⟩ = some (Value.slice bA bn bc) from ⟨hX0.out.cell 0, hX0.out.cell 1, hX0.out.cell 2, hX0.out.cell 3, hX0.out.cell 4, hX0.out.cell 5⟩)
  have hnw : IntKind.i64.wrap (now + 1) = now + 1 := IntWalk.i64_in _ (by omega)
  go_enter Try.func21, Try.ntmps21
  go_wp2_with fail
  clear k0 k1 k2 k3 k4 k5 a0 a1 a2 a3 a4 a5
  generalize ((w.alloc (.cells #[Value.int .i64 (now + 1), Value.int .i64 delay, Value.bool cut, Value.int .i64 count, Value.slice lA ln lc, Value.slice bA bn bc] 25)).alloc (.cells #[Value.int .i64 0, Value.int .i64 0, Value.bool false, Value.int .i64 0, Value.slice none 0 0, Value.slice none 0 0] 25)) = w0 at *
  go_loopw [6, 4, 5] (fun i u v wr => ∃ (k : Nat) (C : List Bs), k ≤ bn ∧ i = .int .i64 k ∧ Hid (Blk wr w.heap.size 25 #[Value.int .i64 (now + 1), Value.int .i64 delay, Value.bool cut, Value.int .i64 count, Value.slice lA ln lc, Value.slice bA bn bc]) ∧ Hid (Blk wr (w.heap.size + 1) 25 #[Value.int .i64 0, Value.int .i64 0, Value.bool false, Value.int .i64 0, Value.slice none 0 0, Value.slice none 0 0]) ∧ Hid (LOwn pkC 2 29 wr w.heap.size u ((box.take k).filter fun p => decide (now + 1 < p.due))) ∧ Hid (LOwn sC 1 27 wr w.heap.size v C) ∧ Hid (C = if cut then [] else ((box.take k).filter fun p => !decide (now + 1 < p.due)).map pkB) ∧ Hid (Below w.heap.size w wr)) (fun i _ _ _ => bn - (intOf i).toNat)
  case atStart => exact ⟨0, [], Nat.zero_le _, rfl, hX0.out, hZ0.out, LOwn.nil pkC_len _ _, LOwn.nil sC_len _ _, by show _ = _; simp, hb0.out⟩
  case round =>
    obtain ⟨k, C, hkn, rfl, hX, hZ, hu, hC, hCm, hb⟩ := hrel
    obtain ⟨A5, c5, rfl, hc5, hm5, hf5, hat5⟩ := hu.out.form
    obtain ⟨A6, c6, rfl, hc6, hm6, hf6, -⟩ := hC.out.form
    by_cases hlt : k < bn
    · have hkl : k < box.length := by have := hbn.out; omega
      clear hf5 hat5 hf6
      have hk0 : (0 : Int) ≤ k := by omega
      have hk1 : (k : Int) < bn := by omega
      obtain ⟨ad, hA, hbl, e0, e1⟩ := pk_cells (h.out.ba.below hb.out (Nat.le_refl _)) hlt
      (try simp only at hA e0 e1)
      have hbd := Lib.hid (h.out.bd _ (List.getElem_mem hkl))
      have hS1 := Lib.hid (filter_take (fun p : Pk => decide (now + 1 < p.due)) box k hkl)
      have hS2 := Lib.hid (filter_take (fun p : Pk => !decide (now + 1 < p.due)) box k hkl)
      have hl5 : Hid (((box.take k).filter fun p => decide (now + 1 < p.due)).length ≤ 1000) := by show _ ≤ _; have := List.length_filter_le (fun p : Pk => decide (now + 1 < p.due)) (box.take k); have := List.length_take_le k box; omega
      have hl6 : Hid (C.length ≤ 1000) := by
        show _ ≤ _
        rw [hCm.out]
        split
        · simp
        · rw [List.length_map]
          have := List.length_filter_le (fun p : Pk => !decide (now + 1 < p.due)) (box.take k); have := List.length_take_le k box; omega
      generalize hp : box[k] = p at *
      obtain ⟨due, pA, pn, pc, pd⟩ := p
      obtain rfl : pd.length = pn := hbd.out.1.1.len
      replace hp := Lib.hid hp
      generalize hSt : ((box.take k).filter fun p => decide (now + 1 < p.due)) = S at *
      replace hSt := Lib.hid hSt
      (try simp only at e0 e1)
      have l5 := hl5.out
      have l6 := hl6.out
      have hsz := hb.out.size
      subst hA
      obtain ⟨k0, k1, k2, k3, k4, k5⟩ := (show wr.cell? ⟨w.heap.size, 0, none⟩ = some (Value.int .i64 (now + 1)) ∧ wr.cell? ⟨w.heap.size, 1, none⟩ = some (Value.int .i64 delay) ∧ wr.cell? ⟨w.heap.size, 2, none⟩ = some (Value.bool cut) ∧ wr.cell? ⟨w.heap.size, 3, none⟩ = some (Value.int .i64 count) ∧ wr.cell? ⟨w.heap.size, 4, none⟩ = some (Value.slice lA ln lc) ∧ wr.cell? ⟨w.heap.size, 5, none⟩ = some (Value.slice (some ad) bn bc) from ⟨hX.out.cell 0, hX.out.cell 1, hX.out.cell 2, hX.out.cell 3, hX.out.cell 4, hX.out.cell 5⟩)
      by_cases q : now + 1 < due
      · have qd : decide (now + 1 < due) = true := by simpa using q
        go_wp2_with fail
        go_quiet (fail)
        obtain ⟨k0', k1', k2', k3', k4', k5'⟩ := (show (wr.drewN nq).cell? ⟨w.heap.size, 0, none⟩ = some (Value.int .i64 (now + 1)) ∧ (wr.drewN nq).cell? ⟨w.heap.size, 1, none⟩ = some (Value.int .i64 delay) ∧ (wr.drewN nq).cell? ⟨w.heap.size, 2, none⟩ = some (Value.bool cut) ∧ (wr.drewN nq).cell? ⟨w.heap.size, 3, none⟩ = some (Value.int .i64 count) ∧ (wr.drewN nq).cell? ⟨w.heap.size, 4, none⟩ = some (Value.slice lA ln lc) ∧ (wr.drewN nq).cell? ⟨w.heap.size, 5, none⟩ = some (Value.slice (some ad) bn bc) from ⟨hX.out.cell 0, hX.out.cell 1, hX.out.cell 2, hX.out.cell 3, hX.out.cell 4, hX.out.cell 5⟩)
        have e0' : (wr.drewN nq).cell? (ad.add (k * 2)) = some (Value.int .i64 due) := e0
        have e1' : (wr.drewN nq).cell? ⟨(ad.add (k * 2)).block, (ad.add (k * 2)).off + 1, none⟩ = some (Value.slice pA pd.length pc) := e1
        have hrd : Hid (Reads ((wr.drewN nq).alloc (.cells #[Value.int .i64 due, Value.slice pA pd.length pc] 29)) ((wr.drewN nq).heap.size + 1) 2 (some ⟨(wr.drewN nq).heap.size, 0, none⟩) 1 (flat pkC [(⟨due, pA, pd.length, pc, pd⟩ : Pk)])) := (lit_at (e := 29) pkC_len (wr.drewN nq) [(⟨due, pA, pd.length, pc, pd⟩ : Pk)] #[Value.int .i64 due, Value.slice pA pd.length pc] (by simp [flat, pkC])).2
        rw [show (wr.drewN nq).heap.size = wr.heap.size by rfl] at hrd
        have hu3 : Hid (LOwn pkC 2 29 ((wr.drewN nq).alloc (.cells #[Value.int .i64 due, Value.slice pA pd.length pc] 29)) w.heap.size (Value.slice A5 S.length c5) S) := (hu.out.drewN nq).alloc _
        have hb3 : Hid (Below w.heap.size w ((wr.drewN nq).alloc (.cells #[Value.int .i64 due, Value.slice pA pd.length pc] 29))) := (below_drewN hb.out nq).alloc hb.out.size _
        have hX3 := Lib.hid ((hX.out.drewN nq).alloc (.cells #[Value.int .i64 due, Value.slice pA pd.length pc] 29))
        have hZ3 := Lib.hid ((hZ.out.drewN nq).alloc (.cells #[Value.int .i64 due, Value.slice pA pd.length pc] 29))
        have hC3 := Lib.hid ((hC.out.drewN nq).alloc (.cells #[Value.int .i64 due, Value.slice pA pd.length pc] 29))
        go_wp2_with (at_builtin; refine wpList_append_any _ rfl (.tmp 31) (.tmp 37) _ rfl w.heap.size 29 ip _ 2 32 Try.underlying23 hip.out hzp0.out hzp1.out hzp2.out rfl (by omega) (Value.slice A5 S.length c5) S.length (flat pkC S) rfl hu3.out.2 (wr.heap.size + 1) (some ⟨wr.heap.size, 0, none⟩) 1 1 (flat pkC [(⟨due, pA, pd.length, pc, pd⟩ : Pk)]) rfl hrd.out (pkC_one _) (by simp only [maxLen]; omega) (by omega) (by simp; omega) ?_
                     intro v' w1 hown1 hg1 hat1)
        have hX4 := Lib.hid (hX3.out.grownT hu3.out (by decide) hg1)
        have hZ4 := Lib.hid (hZ3.out.grownT hu3.out (by decide) hg1)
        have hC4 := Lib.hid (hC3.out.grownT hu3.out (by decide) hg1)
        have hb4 : Hid (Below w.heap.size w w1) := below_row hb3.out hu3.out (Nat.le_refl _) hb3.out.size hg1
        have hu4 : Hid (LOwn pkC 2 29 w1 w.heap.size v' (S ++ [(⟨due, pA, pd.length, pc, pd⟩ : Pk)])) := ⟨pkC_len, by rw [List.length_append, flat_append]; exact hown1⟩
        clear hown1 hg1 hat1
        go_wp2_with fail
        go_roundw
        case rel =>
          refine ⟨k + 1, C, by omega, by go_num, hX4.out, hZ4.out, ?_, hC4.out, ?_, hb4.out⟩
          · show LOwn _ _ _ _ _ _ _
            rw [hS1.out]
            simpa [q] using hu4.out
          · show _ = _
            rw [hCm.out, hS2.out]
            simp [q]
        case measure => simp [intOf]; omega
      · have qd : decide (now + 1 < due) = false := by simpa using q
        have hSn : Hid (((box.take (k + 1)).filter fun p => decide (now + 1 < p.due)) = S) := by show _ = _; rw [hS1.out]; simp [q]
        cases hcut : cut with
        | true =>
          subst hcut
          go_wp2_with fail
          go_quiet (fail)
          obtain ⟨k0', k1', k2', k3', k4', k5'⟩ := (show (wr.drewN nq).cell? ⟨w.heap.size, 0, none⟩ = some (Value.int .i64 (now + 1)) ∧ (wr.drewN nq).cell? ⟨w.heap.size, 1, none⟩ = some (Value.int .i64 delay) ∧ (wr.drewN nq).cell? ⟨w.heap.size, 2, none⟩ = some (Value.bool true) ∧ (wr.drewN nq).cell? ⟨w.heap.size, 3, none⟩ = some (Value.int .i64 count) ∧ (wr.drewN nq).cell? ⟨w.heap.size, 4, none⟩ = some (Value.slice lA ln lc) ∧ (wr.drewN nq).cell? ⟨w.heap.size, 5, none⟩ = some (Value.slice (some ad) bn bc) from ⟨hX.out.cell 0, hX.out.cell 1, hX.out.cell 2, hX.out.cell 3, hX.out.cell 4, hX.out.cell 5⟩)
          have e0' : (wr.drewN nq).cell? (ad.add (k * 2)) = some (Value.int .i64 due) := e0
          have e1' : (wr.drewN nq).cell? ⟨(ad.add (k * 2)).block, (ad.add (k * 2)).off + 1, none⟩ = some (Value.slice pA pd.length pc) := e1
          go_wp2_with fail
          go_roundw
          case rel => exact ⟨k + 1, C, by omega, by go_num, hX.out.drewN nq, hZ.out.drewN nq, by rw [hSn.out]; exact hu.out.drewN nq, hC.out.drewN nq, by show _ = _; rw [hCm.out]; rfl, below_drewN hb.out nq⟩
          case measure => simp [intOf]; omega
        | false =>
          subst hcut
          have hSm : Hid (C ++ [(⟨pA, pd.length, pc, pd⟩ : Bs)] = ((box.take (k + 1)).filter fun p => !decide (now + 1 < p.due)).map pkB) := by
            show _ = _
            rw [hS2.out, hCm.out]
            simp [q, pkB]
          go_wp2_with fail
          go_quiet (fail)
          obtain ⟨k0', k1', k2', k3', k4', k5'⟩ := (show (wr.drewN nq).cell? ⟨w.heap.size, 0, none⟩ = some (Value.int .i64 (now + 1)) ∧ (wr.drewN nq).cell? ⟨w.heap.size, 1, none⟩ = some (Value.int .i64 delay) ∧ (wr.drewN nq).cell? ⟨w.heap.size, 2, none⟩ = some (Value.bool false) ∧ (wr.drewN nq).cell? ⟨w.heap.size, 3, none⟩ = some (Value.int .i64 count) ∧ (wr.drewN nq).cell? ⟨w.heap.size, 4, none⟩ = some (Value.slice lA ln lc) ∧ (wr.drewN nq).cell? ⟨w.heap.size, 5, none⟩ = some (Value.slice (some ad) bn bc) from ⟨hX.out.cell 0, hX.out.cell 1, hX.out.cell 2, hX.out.cell 3, hX.out.cell 4, hX.out.cell 5⟩)
          have e0' : (wr.drewN nq).cell? (ad.add (k * 2)) = some (Value.int .i64 due) := e0
          have e1' : (wr.drewN nq).cell? ⟨(ad.add (k * 2)).block, (ad.add (k * 2)).off + 1, none⟩ = some (Value.slice pA pd.length pc) := e1
          have hrd : Hid (Reads ((wr.drewN nq).alloc (.cells #[Value.slice pA pd.length pc] 27)) ((wr.drewN nq).heap.size + 1) 1 (some ⟨(wr.drewN nq).heap.size, 0, none⟩) 1 (flat sC [(⟨pA, pd.length, pc, pd⟩ : Bs)])) := (lit_at (e := 27) sC_len (wr.drewN nq) [(⟨pA, pd.length, pc, pd⟩ : Bs)] #[Value.slice pA pd.length pc] (by simp [flat, sC])).2
          rw [show (wr.drewN nq).heap.size = wr.heap.size by rfl] at hrd
          have hC3 : Hid (LOwn sC 1 27 ((wr.drewN nq).alloc (.cells #[Value.slice pA pd.length pc] 27)) w.heap.size (Value.slice A6 C.length c6) C) := (hC.out.drewN nq).alloc _
          have hb3 : Hid (Below w.heap.size w ((wr.drewN nq).alloc (.cells #[Value.slice pA pd.length pc] 27))) := (below_drewN hb.out nq).alloc hb.out.size _
          have hX3 := Lib.hid ((hX.out.drewN nq).alloc (.cells #[Value.slice pA pd.length pc] 27))
          have hZ3 := Lib.hid ((hZ.out.drewN nq).alloc (.cells #[Value.slice pA pd.length pc] 27))
          have hu3 := Lib.hid ((hu.out.drewN nq).alloc (.cells #[Value.slice pA pd.length pc] 27))
          go_wp2_with (at_builtin; refine wpList_append_any _ rfl (.tmp 42) (.tmp 49) _ rfl w.heap.size 27 is _ 1 24 Try.underlying37 his.out hzs0.out hzs1.out hzs2.out rfl (by omega) (Value.slice A6 C.length c6) C.length (flat sC C) rfl hC3.out.2 (wr.heap.size + 1) (some ⟨wr.heap.size, 0, none⟩) 1 1 (flat sC [(⟨pA, pd.length, pc, pd⟩ : Bs)]) rfl hrd.out (sC_one _) (by simp only [maxLen]; omega) (by omega) (by simp; omega) ?_
                       intro v' w1 hown1 hg1 hat1)
          have hX4 := Lib.hid (hX3.out.grownT hC3.out (by decide) hg1)
          have hZ4 := Lib.hid (hZ3.out.grownT hC3.out (by decide) hg1)
          have hu4 := Lib.hid (hu3.out.grownT hC3.out (by decide) hg1)
          have hb4 : Hid (Below w.heap.size w w1) := below_row hb3.out hC3.out (Nat.le_refl _) hb3.out.size hg1
          have hC4 : Hid (LOwn sC 1 27 w1 w.heap.size v' (C ++ [(⟨pA, pd.length, pc, pd⟩ : Bs)])) := ⟨sC_len, by rw [List.length_append, flat_append]; exact hown1⟩
          clear hown1 hg1 hat1
          go_wp2_with fail
          go_roundw
          case rel => exact ⟨k + 1, C ++ [(⟨pA, pd.length, pc, pd⟩ : Bs)], by omega, by go_num, hX4.out, hZ4.out, by rw [hSn.out]; exact hu4.out, hC4.out, hSm.out, hb4.out⟩
          case measure => simp [intOf]; omega
    · have hk : k = bn := by omega
      have htk : Hid (box.take k = box) := List.take_of_length_le (by have := hbn.out; omega)
      rw [htk.out] at hCm hu hat5 hc5 ⊢
      clear hf6
      generalize hSt : (box.filter fun p => decide (now + 1 < p.due)) = S at *
      replace hSt := Lib.hid hSt
      have hsub : Hid (∀ p ∈ S, p ∈ box) := fun p hp => (List.mem_filter.1 (hSt.out.symm ▸ hp)).1
      clear hk
      have hXs := Lib.hid (hX.out.set_ 5 (Value.slice A5 S.length c5))
      have hZs := Lib.hid (hZ.out.far (p := ⟨w.heap.size, 5, none⟩) (by simp) (Value.slice A5 S.length c5))
      have hgs := Lib.hid (only_set (World.grownBy.refl wr (some w.heap.size)) 5 (Value.slice A5 S.length c5))
      have hus := Lib.hid (hu.out.grownB hX.out (by decide) hgs.out)
      have hCs := Lib.hid (hC.out.grownB hX.out (by decide) hgs.out)
      have hbs := Lib.hid (below_set hb.out (Nat.le_refl _) 5 (Value.slice A5 S.length c5))
      obtain ⟨k0, k1, k2, k3, k4, k5, y0, y1, y2, y3, y4, y5⟩ := (show wr.cell? ⟨w.heap.size, 0, none⟩ = some (Value.int .i64 (now + 1)) ∧ wr.cell? ⟨w.heap.size, 1, none⟩ = some (Value.int .i64 delay) ∧ wr.cell? ⟨w.heap.size, 2, none⟩ = some (Value.bool cut) ∧ wr.cell? ⟨w.heap.size, 3, none⟩ = some (Value.int .i64 count) ∧ wr.cell? ⟨w.heap.size, 4, none⟩ = some (Value.slice lA ln lc) ∧ wr.cell? ⟨w.heap.size, 5, none⟩ = some (Value.slice bA bn bc) ∧ wr.frozen? ⟨w.heap.size, 0, none⟩ = false ∧ wr.frozen? ⟨w.heap.size, 1, none⟩ = false ∧ wr.frozen? ⟨w.heap.size, 2, none⟩ = false ∧ wr.frozen? ⟨w.heap.size, 3, none⟩ = false ∧ wr.frozen? ⟨w.heap.size, 4, none⟩ = false ∧ wr.frozen? ⟨w.heap.size, 5, none⟩ = false from ⟨hX.out.cell 0, hX.out.cell 1, hX.out.cell 2, hX.out.cell 3, hX.out.cell 4, hX.out.cell 5, hX.out.frozen 0, hX.out.frozen 1, hX.out.frozen 2, hX.out.frozen 3, hX.out.frozen 4, hX.out.frozen 5⟩)
      obtain ⟨m0, m1, m2, m3, m4, m5⟩ := (show (wr.setCell ⟨w.heap.size, 5, none⟩ (Value.slice A5 S.length c5)).cell? ⟨w.heap.size, 0, none⟩ = some (Value.int .i64 (now + 1)) ∧ (wr.setCell ⟨w.heap.size, 5, none⟩ (Value.slice A5 S.length c5)).cell? ⟨w.heap.size, 1, none⟩ = some (Value.int .i64 delay) ∧ (wr.setCell ⟨w.heap.size, 5, none⟩ (Value.slice A5 S.length c5)).cell? ⟨w.heap.size, 2, none⟩ = some (Value.bool cut) ∧ (wr.setCell ⟨w.heap.size, 5, none⟩ (Value.slice A5 S.length c5)).cell? ⟨w.heap.size, 3, none⟩ = some (Value.int .i64 count) ∧ (wr.setCell ⟨w.heap.size, 5, none⟩ (Value.slice A5 S.length c5)).cell? ⟨w.heap.size, 4, none⟩ = some (Value.slice lA ln lc) ∧ (wr.setCell ⟨w.heap.size, 5, none⟩ (Value.slice A5 S.length c5)).cell? ⟨w.heap.size, 5, none⟩ = some (Value.slice A5 S.length c5) from ⟨hXs.out.cell 0, hXs.out.cell 1, hXs.out.cell 2, hXs.out.cell 3, hXs.out.cell 4, hXs.out.cell 5⟩)
      obtain ⟨u0, u1, u2, u3, u4, u5, z0, z1, z2, z3, z4, z5⟩ := (show (wr.setCell ⟨w.heap.size, 5, none⟩ (Value.slice A5 S.length c5)).cell? ⟨(w.heap.size + 1), 0, none⟩ = some (Value.int .i64 0) ∧ (wr.setCell ⟨w.heap.size, 5, none⟩ (Value.slice A5 S.length c5)).cell? ⟨(w.heap.size + 1), 1, none⟩ = some (Value.int .i64 0) ∧ (wr.setCell ⟨w.heap.size, 5, none⟩ (Value.slice A5 S.length c5)).cell? ⟨(w.heap.size + 1), 2, none⟩ = some (Value.bool false) ∧ (wr.setCell ⟨w.heap.size, 5, none⟩ (Value.slice A5 S.length c5)).cell? ⟨(w.heap.size + 1), 3, none⟩ = some (Value.int .i64 0) ∧ (wr.setCell ⟨w.heap.size, 5, none⟩ (Value.slice A5 S.length c5)).cell? ⟨(w.heap.size + 1), 4, none⟩ = some (Value.slice none 0 0) ∧ (wr.setCell ⟨w.heap.size, 5, none⟩ (Value.slice A5 S.length c5)).cell? ⟨(w.heap.size + 1), 5, none⟩ = some (Value.slice none 0 0) ∧ (wr.setCell ⟨w.heap.size, 5, none⟩ (Value.slice A5 S.length c5)).frozen? ⟨(w.heap.size + 1), 0, none⟩ = false ∧ (wr.setCell ⟨w.heap.size, 5, none⟩ (Value.slice A5 S.length c5)).frozen? ⟨(w.heap.size + 1), 1, none⟩ = false ∧ (wr.setCell ⟨w.heap.size, 5, none⟩ (Value.slice A5 S.length c5)).frozen? ⟨(w.heap.size + 1), 2, none⟩ = false ∧ (wr.setCell ⟨w.heap.size, 5, none⟩ (Value.slice A5 S.length c5)).frozen? ⟨(w.heap.size + 1), 3, none⟩ = false ∧ (wr.setCell ⟨w.heap.size, 5, none⟩ (Value.slice A5 S.length c5)).frozen? ⟨(w.heap.size + 1), 4, none⟩ = false ∧ (wr.setCell ⟨w.heap.size, 5, none⟩ (Value.slice A5 S.length c5)).frozen? ⟨(w.heap.size + 1), 5, none⟩ = false from ⟨hZs.out.cell 0, hZs.out.cell 1, hZs.out.cell 2, hZs.out.cell 3, hZs.out.cell 4, hZs.out.cell 5, hZs.out.frozen 0, hZs.out.frozen 1, hZs.out.frozen 2, hZs.out.frozen 3, hZs.out.frozen 4, hZs.out.frozen 5⟩)
      go_wp2_with fail
      clear k0 k1 k2 k3 k4 k5 y0 y1 y2 y3 y4 y5 m0 m1 m2 m3 m4 m5 u0 u1 u2 u3 u4 u5 z0 z1 z2 z3 z4 z5 hat5
      generalize wr.setCell ⟨w.heap.size, 5, none⟩ (Value.slice A5 S.length c5) = ws at *
      (try simp only [Exit.inBlock, Exit.then])
      have hB := lk_set6 hZs.out (Value.int .i64 (now + 1)) (Value.int .i64 delay) (Value.bool cut) (Value.int .i64 count) (Value.slice lA ln lc) (Value.slice A5 S.length c5)
      have hbF := below_set6 hbs.out (Nat.le_succ _) (Value.int .i64 (now + 1)) (Value.int .i64 delay) (Value.bool cut) (Value.int .i64 count) (Value.slice lA ln lc) (Value.slice A5 S.length c5)
      have hgF := grown_set6 (ws) (w.heap.size + 1) (Value.int .i64 (now + 1)) (Value.int .i64 delay) (Value.bool cut) (Value.int .i64 count) (Value.slice lA ln lc) (Value.slice A5 S.length c5)
      refine bodyPost_ret (v := .tuple #[.agg #[Value.int .i64 (now + 1), Value.int .i64 delay, Value.bool cut, Value.int .i64 count, Value.slice lA ln lc, Value.slice A5 S.length c5], Value.slice A6 C.length c6]) ?_ rfl ?_
      · refine (res2 (fn := Try.f21) (p := 2) (u := 3) (ty := 25) rfl _ _ (w.heap.size + 1) 25 _ (0, 0) _ ?_ hB Try.underlying25 rfl (by kernel_rfl)).trans ?_
        · rfl
        · rfl
      clear hB
      generalize (((((((ws).setCell ⟨(w.heap.size + 1), 0, none⟩ (Value.int .i64 (now + 1))).setCell ⟨(w.heap.size + 1), 1, none⟩ (Value.int .i64 delay)).setCell ⟨(w.heap.size + 1), 2, none⟩ (Value.bool cut)).setCell ⟨(w.heap.size + 1), 3, none⟩ (Value.int .i64 count)).setCell ⟨(w.heap.size + 1), 4, none⟩ (Value.slice lA ln lc)).setCell ⟨(w.heap.size + 1), 5, none⟩ (Value.slice A5 S.length c5)) = wF at *
      have hu9 := hus.out.grownB hZs.out (by decide) hgF
      have hC9 := hCs.out.grownB hZs.out (by decide) hgF
      have hb9 := h.out.more hbF
      obtain ⟨A9, c9, e9, -, -, hf9, hat9⟩ := hu9.form
      injection e9 with e9 _ e10
      subst e9; subst e10
      refine ⟨⟨⟨now + 1, delay, cut, count, lA, ln, lc, lose, A5, S.length, c5, S⟩, A6, C.length, c6, C, rfl, ⟨hb9.la, hb9.lb, hb9.li, hat9, ⟨hc5, hm5⟩, fun p hp => hb9.bd p (hsub.out p hp), ⟨by simp [i64In]; omega, h.out.ii.2⟩⟩, ?_, hC9, ?_, ?_, fun Q hQ hQ2 => ⟨hQ.1, fun _ ad e => hQ2 _ (hf9 ad e).2.1, fun p hp => hQ.2.2 p (hsub.out p hp)⟩, fun Q hQ b hb => ?_⟩, hbF⟩
      · rw [hT.out]; rfl
      · intro b hb
        rw [hCm.out] at hb
        split at hb
        · simp at hb
        · obtain ⟨p, hp, rfl⟩ := List.mem_map.1 hb
          have := hb9.bd p (List.mem_filter.1 hp).1
          exact this.1
      · rw [hT.out, hCm.out]
        split
        · rfl
        · simp [pkB]
      · rw [hCm.out] at hb
        split at hb
        · simp at hb
        · obtain ⟨p, hp, rfl⟩ := List.mem_map.1 hb
          exact hQ.2.2 p (List.mem_filter.1 hp).1
end Go.Proofs.Yteolglmdfjddlaa
