/- Links: the chapter's examples, walked. -/
import Derived.Test.YteolglmdfjddlaaLG
import Derived.Test.YteolglmdfjddlaaLH
import Derived.Lib.SmallJoins
set_option linter.unusedVariables false
set_option linter.unusedSimpArgs false
namespace Go.Proofs.Yteolglmdfjddlaa
open Go.RowKit
def smV (v : Lv) : Prop := v.lose.length ≤ 1000 ∧ v.box.length ≤ 1000 ∧ ∀ p ∈ v.box, p.2.length ≤ 100000
theorem sm_of {l : Lk} (h : smV l.val) : LkSm l := by
  obtain ⟨h1, h2, h3⟩ := h
  refine ⟨h1, by simpa [Lk.val] using h2, fun p hp => h3 p.val (List.mem_map_of_mem hp)⟩
theorem bs_of_own {w : World} {base : Nat} {b : Bs} (h : BOwn w base (.slice b.A b.n b.c) b.d) : BsAt w b := by
  obtain ⟨A, c, e, h1, h2, -, h3⟩ := h.form
  have hn := h.lenv
  obtain ⟨bA, bn, bc, bd⟩ := b
  simp only at e hn ⊢
  injection e with e1 e2 e3
  subst e1 e2 e3
  exact ⟨h3, h1, h2⟩
theorem bytes_row {w : World} {g cap : Nat} {fr : Nat × Nat} {s : ByteArray} (h : w.heap[g]? = some (.cells (bytesRow s cap) 5 fr)) : BAt w w.heap.size (some ⟨g, 0, none⟩) s.data.toList.length s.data.toList := by
  refine ⟨⟨rfl, bC_len⟩, flat_len bC_len _, fun _ => ⟨_, rfl, lt_of_heap h, fun j u hu => ?_⟩⟩
  rw [add_row, cell_of_row _ _ j _ 5 fr h]
  have hj : j < s.data.toList.length := by
    rcases Nat.lt_or_ge j s.data.toList.length with q | q
    · exact q
    · rw [List.getElem?_eq_none (by rw [flat_len bC_len]; simpa using q)] at hu; cases hu
  have := flat_at bC_len s.data.toList j hj 0 (by decide)
  simp only [Nat.mul_one, Nat.add_zero] at this
  rw [this] at hu
  unfold bytesRow
  rw [Array.getElem?_append_left (by simpa using hj)]
  simp at hj
  simpa [bC, hj] using hu
theorem lat_row {α : Type} {f : α → List Value} {s : Nat} (hf : ∀ a, (f a).length = s) {w : World} {g : Nat} {ty : TypeId} {cs : Array Value} {fr : Nat × Nat} (h : w.heap[g]? = some (.cells cs ty fr)) (l : List α) (hc : cs.toList = flat f l) : LAt f s w w.heap.size (some ⟨g, 0, none⟩) l.length l := by
  refine ⟨⟨rfl, hf⟩, flat_len hf l, fun _ => ⟨_, rfl, lt_of_heap h, fun j u hu => ?_⟩⟩
  rw [add_row, cell_of_row _ _ j cs ty fr h, ← Array.getElem?_toList, hc]
  exact hu
def exB : Nat → List (Int × List UInt8) | 0 => [] | 1 => [(2, [97])] | 2 => [(2, [97])] | _ => [(2, [97]), (2, [99])]
def exL (k : Nat) : Lv := ⟨0, 2, false, k, [1], exB k⟩
/-- a link's cells -/
def lkA (l : Lk) : Array Value := #[Value.int .i64 l.now, Value.int .i64 l.delay, Value.bool l.cut, Value.int .i64 l.count, Value.slice l.lA l.ln l.lc, Value.slice l.bA l.bn l.bc]
theorem hgc (w : World) : 1 ≤ grownCap w 1 0 5 ∧ grownCap w 1 0 5 ≤ maxLen := ⟨grownCap_ge w 1 0 5, grownCap_le_maxLen w 1 0 5 (by simp [maxLen])⟩
set_option maxRecDepth 100000 in
set_option maxHeartbeats 8000000 in
theorem ex_any (w : World) : Calls Try.prog 8 #[] w fun e w' => e = .returned (.bool true) ∧ Below w.heap.size w w' := by
  have hn1 := new_any 2 (some ⟨w.heap.size, 0, none⟩) 1 1 [1] (w.alloc (.cells #[.int .i64 1] 3)) ((lit_at (e := 3) iC_len w [1] #[.int .i64 1] rfl).mono (by simp)) ⟨Nat.le_refl _, by simp [maxLen]⟩ (by intro x hx; simp at hx; subst hx; simp [i64In]) (by simp [i64In]) (by decide)
  rw [show newR 2 [1] = (exL 0, 0) from rfl] at hn1
  simp only [lkV] at hn1
  go_enter Try.func8, Try.ntmps8
  go_wp2_with fail
  refine hn1.mono ?_; rintro e w1 ⟨l1, rfl, hok, hv, hf, hb1⟩
  clear hn1
  have hb : Hid (Below w.heap.size w w1) := (a1 w _).trans (hb1.mono (by simp))
  have hf1 : Hid (LkFr w.heap.size l1) := hf.mono (by simp)
  clear hb1 hf
  have hq1 : Hid (LkQ (fun b => b ≠ w1.heap.size) l1) := by
    have := LkOk_lt hok
    exact ⟨fun h0 ad e => Nat.ne_of_lt (this.1 h0 ad e), fun h0 ad e => Nat.ne_of_lt (this.2.1 h0 ad e), fun p hp h0 ad e => Nat.ne_of_lt (this.2.2 p hp h0 ad e)⟩
  replace hok := Lib.hid hok
  replace hv := Lib.hid hv
  have hB := Lib.hid ((Blk.new w1 25 (lkA l1)).alloc (.cells #[Value.string { data := #[97] }, Value.string { data := #[98] }, Value.string { data := #[99] }] 9))
  have hS := Lib.hid (Blk.new (w1.alloc (.cells (lkA l1) 25)) 9 #[Value.string { data := #[97] }, Value.string { data := #[98] }, Value.string { data := #[99] }])
  have hb2 : Hid (Below w.heap.size w ((w1.alloc (.cells (lkA l1) 25)).alloc (.cells #[Value.string { data := #[97] }, Value.string { data := #[98] }, Value.string { data := #[99] }] 9))) := (hb.out.alloc hb.out.size _).alloc (by simp; have := hb.out.size; omega) _
  have hok2 : Hid (LkOk ((w1.alloc (.cells (lkA l1) 25)).alloc (.cells #[Value.string { data := #[97] }, Value.string { data := #[98] }, Value.string { data := #[99] }] 9)) l1) := (hok.out.more (a1 w1 _)).more (a1 _ _)
  rw [show (w1.alloc (.cells (lkA l1) 25)).heap.size = w1.heap.size + 1 by simp] at hS
  have hgl : Hid (w.heap.size ≤ w1.heap.size) := hb.out.size
  unfold lkA at hB hS hb2 hok2
  go_wp2_with fail
  obtain ⟨gl, hgle⟩ : ∃ gl, gl = w1.heap.size := ⟨_, rfl⟩
  obtain ⟨gs, hgse⟩ : ∃ gs, gs = w1.heap.size + 1 := ⟨_, rfl⟩
  generalize (w1.alloc (.cells _ 25)).alloc (.cells #[Value.string { data := #[97] }, Value.string { data := #[98] }, Value.string { data := #[99] }] 9) = w2 at *
  rw [← hgle] at hB hgl hq1 ⊢
  rw [← hgle] at hgse
  rw [show w1.heap.size + 1 = gs by rw [← hgle, hgse]] at hS
  rw [← hgse]
  replace hgle := Lib.hid hgle
  replace hgse := Lib.hid hgse
  go_loopw [21] (fun i wr => ∃ (k : Nat) (l' : Lk), k ≤ 3 ∧ i = .int .i64 k ∧ Hid (Blk wr gl 25 (lkA l')) ∧ Hid (Blk wr gs 9 #[Value.string { data := #[97] }, Value.string { data := #[98] }, Value.string { data := #[99] }]) ∧ Hid (LkOk wr l') ∧ Hid (l'.val = exL k) ∧ Hid (LkQ (fun b => b ≠ gl) l') ∧ Hid (Below w.heap.size w wr)) (fun i _ => 3 - (intOf i).toNat)
  case atStart => exact ⟨0, l1, by omega, rfl, hB.out, hS.out, hok2.out, hv.out, hq1.out, hb2.out⟩
  clear hB hS hok2 hv hb2 hok hf1 hb hq1
  case round =>
    obtain ⟨k, l', hkn, rfl, hB, hS, hok, hv, hql, hb⟩ := hrel
    replace hv := hv.out
    have hk : k = 0 ∨ k = 1 ∨ k = 2 ∨ k = 3 := by omega
    rcases hk with rfl | rfl | rfl | rfl
    · skip
      replace hv : l'.val = ⟨0, 2, false, 0, [1], []⟩ := hv
      have hsm : Hid (LkSm l') := sm_of (by rw [hv]; refine ⟨by decide, by decide, ?_⟩; decide)
      have hbt : Hid (sendL l'.val [97] = (⟨0, 2, false, 1, [1], [(2, [97])]⟩, 0)) := by show _ = _; rw [hv]; rfl
      have hnd : Hid (0 ≤ l'.now ∧ l'.now ≤ 268435456 ∧ 1 ≤ l'.delay ∧ l'.delay ≤ 60 ∧ 0 ≤ l'.count) := by
        have e0 : l'.now = 0 := congrArg Lv.now hv
        have e1 : l'.delay = 2 := congrArg Lv.delay hv
        have e3 : l'.count = 0 := congrArg Lv.count hv
        show _ ∧ _ ∧ _ ∧ _ ∧ _
        rw [e0, e1, e3]; decide
      obtain ⟨k0, k1, k2, k3, k4, k5⟩ := (show wr.cell? ⟨gl, 0, none⟩ = some (Value.int .i64 l'.now) ∧ wr.cell? ⟨gl, 1, none⟩ = some (Value.int .i64 l'.delay) ∧ wr.cell? ⟨gl, 2, none⟩ = some (Value.bool l'.cut) ∧ wr.cell? ⟨gl, 3, none⟩ = some (Value.int .i64 l'.count) ∧ wr.cell? ⟨gl, 4, none⟩ = some (Value.slice l'.lA l'.ln l'.lc) ∧ wr.cell? ⟨gl, 5, none⟩ = some (Value.slice l'.bA l'.bn l'.bc) from ⟨hB.out.cell 0, hB.out.cell 1, hB.out.cell 2, hB.out.cell 3, hB.out.cell 4, hB.out.cell 5⟩)
      have s0 : wr.cell? ⟨gs, 0, none⟩ = some (Value.string { data := #[97] }) := hS.out.cell 0
      have hcv := run_bytes_of_string (P := Try.prog) wr 9 27 5 { data := #[97] } Try.underlying9 Try.underlying27 Try.underlying5
      have hdt : Hid (BAt ((wr.alloc (.cells (bytesRow { data := #[97] } (grownCap wr 1 0 5)) 5 ((bytesRow { data := #[97] } (grownCap wr 1 0 5)).size, (bytesRow { data := #[97] } (grownCap wr 1 0 5)).size + 1))).drew) ((wr.alloc (.cells (bytesRow { data := #[97] } (grownCap wr 1 0 5)) 5 ((bytesRow { data := #[97] } (grownCap wr 1 0 5)).size, (bytesRow { data := #[97] } (grownCap wr 1 0 5)).size + 1))).drew).heap.size (some ⟨wr.heap.size, 0, none⟩) 1 [97]) := bytes_row (s := { data := #[97] }) (heap_alloc_new wr.drew _)
      have hcp0 : Hid (1 ≤ grownCap wr 1 0 5 ∧ grownCap wr 1 0 5 ≤ maxLen) := hgc wr
      rw [show ({ data := #[97] } : ByteArray).size = 1 from rfl] at hcv
      generalize grownCap wr 1 0 5 = cap at *
      generalize bytesRow { data := #[97] } cap = row at *
      have hb2 : Hid (Below w.heap.size w ((wr.alloc (.cells row 5 (row.size, row.size + 1))).drew)) := below_dr (hb.out.alloc hb.out.size _)
      have hB2 : Hid (Blk ((wr.alloc (.cells row 5 (row.size, row.size + 1))).drew) gl 25 (lkA l')) := (hB.out.alloc _).drew
      have hS2 : Hid (Blk ((wr.alloc (.cells row 5 (row.size, row.size + 1))).drew) gs 9 #[Value.string { data := #[97] }, Value.string { data := #[98] }, Value.string { data := #[99] }]) := (hS.out.alloc _).drew
      have hok2 : Hid (LkOk ((wr.alloc (.cells row 5 (row.size, row.size + 1))).drew) l') := hok.out.more (below_dr (a1 wr _))
      go_wp2_with fail
      generalize (wr.alloc (.cells row 5 (row.size, row.size + 1))).drew = wa at *
      have hcl := send_any l' (some ⟨wr.heap.size, 0, none⟩) 1 cap [97] wa hok2.out hsm.out hdt.out hcp0.out hnd.out
      simp only [lkV] at hcl
      refine hcl.mono ?_; rintro e wb ⟨⟨l2, rfl, hok3, hv3, hf3, -⟩, hbq⟩
      rw [hbt.out] at hv3 hf3 ⊢
      replace hf3 := Lib.hid (hf3 rfl)
      have hB3 := Lib.hid (hB2.out.below hbq hB2.out.lt)
      have hS3 := Lib.hid (hS2.out.below hbq hS2.out.lt)
      have hb3 := Lib.hid (hb2.out.trans (hbq.mono hb2.out.size))
      have hlt : gl < wa.heap.size := hB2.out.lt
      have hlt2 : gs ≠ gl := fun e => Blk.ne_ hS.out hB.out (by decide) e
      obtain ⟨m0, m1, m2, m3, m4, m5, z0, z1, z2, z3, z4, z5⟩ := (show wb.cell? ⟨gl, 0, none⟩ = some (Value.int .i64 l'.now) ∧ wb.cell? ⟨gl, 1, none⟩ = some (Value.int .i64 l'.delay) ∧ wb.cell? ⟨gl, 2, none⟩ = some (Value.bool l'.cut) ∧ wb.cell? ⟨gl, 3, none⟩ = some (Value.int .i64 l'.count) ∧ wb.cell? ⟨gl, 4, none⟩ = some (Value.slice l'.lA l'.ln l'.lc) ∧ wb.cell? ⟨gl, 5, none⟩ = some (Value.slice l'.bA l'.bn l'.bc) ∧ wb.frozen? ⟨gl, 0, none⟩ = false ∧ wb.frozen? ⟨gl, 1, none⟩ = false ∧ wb.frozen? ⟨gl, 2, none⟩ = false ∧ wb.frozen? ⟨gl, 3, none⟩ = false ∧ wb.frozen? ⟨gl, 4, none⟩ = false ∧ wb.frozen? ⟨gl, 5, none⟩ = false from ⟨hB3.out.cell 0, hB3.out.cell 1, hB3.out.cell 2, hB3.out.cell 3, hB3.out.cell 4, hB3.out.cell 5, hB3.out.frozen 0, hB3.out.frozen 1, hB3.out.frozen 2, hB3.out.frozen 3, hB3.out.frozen 4, hB3.out.frozen 5⟩)
      replace hv3 := Lib.hid hv3
      clear hcl hok2 hB2 hS2 hb2 hbq hdt hcv k0 k1 k2 k3 k4 k5
      go_wp2_with fail
      have hB4 := lk_set6 hB3.out (Value.int .i64 l2.now) (Value.int .i64 l2.delay) (Value.bool l2.cut) (Value.int .i64 l2.count) (Value.slice l2.lA l2.ln l2.lc) (Value.slice l2.bA l2.bn l2.bc)
      have hg4 := grown_set6 wb gl (Value.int .i64 l2.now) (Value.int .i64 l2.delay) (Value.bool l2.cut) (Value.int .i64 l2.count) (Value.slice l2.lA l2.ln l2.lc) (Value.slice l2.bA l2.bn l2.bc)
      go_roundw
      case rel => exact ⟨1, l2, by omega, by go_num, hB4, hS3.out.grown hg4 (by simpa using hlt2), LkOk_q hok3 (hf3.out.q fun g hg e => by omega) hg4, hv3.out, hf3.out.q fun g hg e => (by omega), hb3.out.grown hg4 hb3.out.size (fun g e => by injection e with e; rw [← e]; exact hgl.out)⟩
      case measure => simp [intOf]
    · skip
      replace hv : l'.val = ⟨0, 2, false, 1, [1], [(2, [97])]⟩ := hv
      have hsm : Hid (LkSm l') := sm_of (by rw [hv]; refine ⟨by decide, by decide, ?_⟩; decide)
      have hbt : Hid (sendL l'.val [98] = (⟨0, 2, false, 2, [1], [(2, [97])]⟩, 0)) := by show _ = _; rw [hv]; rfl
      have hnd : Hid (0 ≤ l'.now ∧ l'.now ≤ 268435456 ∧ 1 ≤ l'.delay ∧ l'.delay ≤ 60 ∧ 0 ≤ l'.count) := by
        have e0 : l'.now = 0 := congrArg Lv.now hv
        have e1 : l'.delay = 2 := congrArg Lv.delay hv
        have e3 : l'.count = 1 := congrArg Lv.count hv
        show _ ∧ _ ∧ _ ∧ _ ∧ _
        rw [e0, e1, e3]; decide
      obtain ⟨k0, k1, k2, k3, k4, k5⟩ := (show wr.cell? ⟨gl, 0, none⟩ = some (Value.int .i64 l'.now) ∧ wr.cell? ⟨gl, 1, none⟩ = some (Value.int .i64 l'.delay) ∧ wr.cell? ⟨gl, 2, none⟩ = some (Value.bool l'.cut) ∧ wr.cell? ⟨gl, 3, none⟩ = some (Value.int .i64 l'.count) ∧ wr.cell? ⟨gl, 4, none⟩ = some (Value.slice l'.lA l'.ln l'.lc) ∧ wr.cell? ⟨gl, 5, none⟩ = some (Value.slice l'.bA l'.bn l'.bc) from ⟨hB.out.cell 0, hB.out.cell 1, hB.out.cell 2, hB.out.cell 3, hB.out.cell 4, hB.out.cell 5⟩)
      have s0 : wr.cell? ⟨gs, 1, none⟩ = some (Value.string { data := #[98] }) := hS.out.cell 1
      have hcv := run_bytes_of_string (P := Try.prog) wr 9 27 5 { data := #[98] } Try.underlying9 Try.underlying27 Try.underlying5
      have hdt : Hid (BAt ((wr.alloc (.cells (bytesRow { data := #[98] } (grownCap wr 1 0 5)) 5 ((bytesRow { data := #[98] } (grownCap wr 1 0 5)).size, (bytesRow { data := #[98] } (grownCap wr 1 0 5)).size + 1))).drew) ((wr.alloc (.cells (bytesRow { data := #[98] } (grownCap wr 1 0 5)) 5 ((bytesRow { data := #[98] } (grownCap wr 1 0 5)).size, (bytesRow { data := #[98] } (grownCap wr 1 0 5)).size + 1))).drew).heap.size (some ⟨wr.heap.size, 0, none⟩) 1 [98]) := bytes_row (s := { data := #[98] }) (heap_alloc_new wr.drew _)
      have hcp0 : Hid (1 ≤ grownCap wr 1 0 5 ∧ grownCap wr 1 0 5 ≤ maxLen) := hgc wr
      rw [show ({ data := #[98] } : ByteArray).size = 1 from rfl] at hcv
      generalize grownCap wr 1 0 5 = cap at *
      generalize bytesRow { data := #[98] } cap = row at *
      have hb2 : Hid (Below w.heap.size w ((wr.alloc (.cells row 5 (row.size, row.size + 1))).drew)) := below_dr (hb.out.alloc hb.out.size _)
      have hB2 : Hid (Blk ((wr.alloc (.cells row 5 (row.size, row.size + 1))).drew) gl 25 (lkA l')) := (hB.out.alloc _).drew
      have hS2 : Hid (Blk ((wr.alloc (.cells row 5 (row.size, row.size + 1))).drew) gs 9 #[Value.string { data := #[97] }, Value.string { data := #[98] }, Value.string { data := #[99] }]) := (hS.out.alloc _).drew
      have hok2 : Hid (LkOk ((wr.alloc (.cells row 5 (row.size, row.size + 1))).drew) l') := hok.out.more (below_dr (a1 wr _))
      go_wp2_with fail
      generalize (wr.alloc (.cells row 5 (row.size, row.size + 1))).drew = wa at *
      have hcl := send_any l' (some ⟨wr.heap.size, 0, none⟩) 1 cap [98] wa hok2.out hsm.out hdt.out hcp0.out hnd.out
      simp only [lkV] at hcl
      refine hcl.mono ?_; rintro e wb ⟨⟨l2, rfl, hok3, hv3, hf3, -⟩, hbq⟩
      rw [hbt.out] at hv3 hf3 ⊢
      replace hf3 := Lib.hid (hf3 rfl)
      have hB3 := Lib.hid (hB2.out.below hbq hB2.out.lt)
      have hS3 := Lib.hid (hS2.out.below hbq hS2.out.lt)
      have hb3 := Lib.hid (hb2.out.trans (hbq.mono hb2.out.size))
      have hlt : gl < wa.heap.size := hB2.out.lt
      have hlt2 : gs ≠ gl := fun e => Blk.ne_ hS.out hB.out (by decide) e
      obtain ⟨m0, m1, m2, m3, m4, m5, z0, z1, z2, z3, z4, z5⟩ := (show wb.cell? ⟨gl, 0, none⟩ = some (Value.int .i64 l'.now) ∧ wb.cell? ⟨gl, 1, none⟩ = some (Value.int .i64 l'.delay) ∧ wb.cell? ⟨gl, 2, none⟩ = some (Value.bool l'.cut) ∧ wb.cell? ⟨gl, 3, none⟩ = some (Value.int .i64 l'.count) ∧ wb.cell? ⟨gl, 4, none⟩ = some (Value.slice l'.lA l'.ln l'.lc) ∧ wb.cell? ⟨gl, 5, none⟩ = some (Value.slice l'.bA l'.bn l'.bc) ∧ wb.frozen? ⟨gl, 0, none⟩ = false ∧ wb.frozen? ⟨gl, 1, none⟩ = false ∧ wb.frozen? ⟨gl, 2, none⟩ = false ∧ wb.frozen? ⟨gl, 3, none⟩ = false ∧ wb.frozen? ⟨gl, 4, none⟩ = false ∧ wb.frozen? ⟨gl, 5, none⟩ = false from ⟨hB3.out.cell 0, hB3.out.cell 1, hB3.out.cell 2, hB3.out.cell 3, hB3.out.cell 4, hB3.out.cell 5, hB3.out.frozen 0, hB3.out.frozen 1, hB3.out.frozen 2, hB3.out.frozen 3, hB3.out.frozen 4, hB3.out.frozen 5⟩)
      replace hv3 := Lib.hid hv3
      clear hcl hok2 hB2 hS2 hb2 hbq hdt hcv k0 k1 k2 k3 k4 k5
      go_wp2_with fail
      have hB4 := lk_set6 hB3.out (Value.int .i64 l2.now) (Value.int .i64 l2.delay) (Value.bool l2.cut) (Value.int .i64 l2.count) (Value.slice l2.lA l2.ln l2.lc) (Value.slice l2.bA l2.bn l2.bc)
      have hg4 := grown_set6 wb gl (Value.int .i64 l2.now) (Value.int .i64 l2.delay) (Value.bool l2.cut) (Value.int .i64 l2.count) (Value.slice l2.lA l2.ln l2.lc) (Value.slice l2.bA l2.bn l2.bc)
      go_roundw
      case rel => exact ⟨2, l2, by omega, by go_num, hB4, hS3.out.grown hg4 (by simpa using hlt2), LkOk_q hok3 (hf3.out.q fun g hg e => by omega) hg4, hv3.out, hf3.out.q fun g hg e => (by omega), hb3.out.grown hg4 hb3.out.size (fun g e => by injection e with e; rw [← e]; exact hgl.out)⟩
      case measure => simp [intOf]
    · skip
      replace hv : l'.val = ⟨0, 2, false, 2, [1], [(2, [97])]⟩ := hv
      have hsm : Hid (LkSm l') := sm_of (by rw [hv]; refine ⟨by decide, by decide, ?_⟩; decide)
      have hbt : Hid (sendL l'.val [99] = (⟨0, 2, false, 3, [1], [(2, [97]), (2, [99])]⟩, 0)) := by show _ = _; rw [hv]; rfl
      have hnd : Hid (0 ≤ l'.now ∧ l'.now ≤ 268435456 ∧ 1 ≤ l'.delay ∧ l'.delay ≤ 60 ∧ 0 ≤ l'.count) := by
        have e0 : l'.now = 0 := congrArg Lv.now hv
        have e1 : l'.delay = 2 := congrArg Lv.delay hv
        have e3 : l'.count = 2 := congrArg Lv.count hv
        show _ ∧ _ ∧ _ ∧ _ ∧ _
        rw [e0, e1, e3]; decide
      obtain ⟨k0, k1, k2, k3, k4, k5⟩ := (show wr.cell? ⟨gl, 0, none⟩ = some (Value.int .i64 l'.now) ∧ wr.cell? ⟨gl, 1, none⟩ = some (Value.int .i64 l'.delay) ∧ wr.cell? ⟨gl, 2, none⟩ = some (Value.bool l'.cut) ∧ wr.cell? ⟨gl, 3, none⟩ = some (Value.int .i64 l'.count) ∧ wr.cell? ⟨gl, 4, none⟩ = some (Value.slice l'.lA l'.ln l'.lc) ∧ wr.cell? ⟨gl, 5, none⟩ = some (Value.slice l'.bA l'.bn l'.bc) from ⟨hB.out.cell 0, hB.out.cell 1, hB.out.cell 2, hB.out.cell 3, hB.out.cell 4, hB.out.cell 5⟩)
      have s0 : wr.cell? ⟨gs, 2, none⟩ = some (Value.string { data := #[99] }) := hS.out.cell 2
      have hcv := run_bytes_of_string (P := Try.prog) wr 9 27 5 { data := #[99] } Try.underlying9 Try.underlying27 Try.underlying5
      have hdt : Hid (BAt ((wr.alloc (.cells (bytesRow { data := #[99] } (grownCap wr 1 0 5)) 5 ((bytesRow { data := #[99] } (grownCap wr 1 0 5)).size, (bytesRow { data := #[99] } (grownCap wr 1 0 5)).size + 1))).drew) ((wr.alloc (.cells (bytesRow { data := #[99] } (grownCap wr 1 0 5)) 5 ((bytesRow { data := #[99] } (grownCap wr 1 0 5)).size, (bytesRow { data := #[99] } (grownCap wr 1 0 5)).size + 1))).drew).heap.size (some ⟨wr.heap.size, 0, none⟩) 1 [99]) := bytes_row (s := { data := #[99] }) (heap_alloc_new wr.drew _)
      have hcp0 : Hid (1 ≤ grownCap wr 1 0 5 ∧ grownCap wr 1 0 5 ≤ maxLen) := hgc wr
      rw [show ({ data := #[99] } : ByteArray).size = 1 from rfl] at hcv
      generalize grownCap wr 1 0 5 = cap at *
      generalize bytesRow { data := #[99] } cap = row at *
      have hb2 : Hid (Below w.heap.size w ((wr.alloc (.cells row 5 (row.size, row.size + 1))).drew)) := below_dr (hb.out.alloc hb.out.size _)
      have hB2 : Hid (Blk ((wr.alloc (.cells row 5 (row.size, row.size + 1))).drew) gl 25 (lkA l')) := (hB.out.alloc _).drew
      have hS2 : Hid (Blk ((wr.alloc (.cells row 5 (row.size, row.size + 1))).drew) gs 9 #[Value.string { data := #[97] }, Value.string { data := #[98] }, Value.string { data := #[99] }]) := (hS.out.alloc _).drew
      have hok2 : Hid (LkOk ((wr.alloc (.cells row 5 (row.size, row.size + 1))).drew) l') := hok.out.more (below_dr (a1 wr _))
      go_wp2_with fail
      generalize (wr.alloc (.cells row 5 (row.size, row.size + 1))).drew = wa at *
      have hcl := send_any l' (some ⟨wr.heap.size, 0, none⟩) 1 cap [99] wa hok2.out hsm.out hdt.out hcp0.out hnd.out
      simp only [lkV] at hcl
      refine hcl.mono ?_; rintro e wb ⟨⟨l2, rfl, hok3, hv3, hf3, -⟩, hbq⟩
      rw [hbt.out] at hv3 hf3 ⊢
      replace hf3 := Lib.hid (hf3 rfl)
      have hB3 := Lib.hid (hB2.out.below hbq hB2.out.lt)
      have hS3 := Lib.hid (hS2.out.below hbq hS2.out.lt)
      have hb3 := Lib.hid (hb2.out.trans (hbq.mono hb2.out.size))
      have hlt : gl < wa.heap.size := hB2.out.lt
      have hlt2 : gs ≠ gl := fun e => Blk.ne_ hS.out hB.out (by decide) e
      obtain ⟨m0, m1, m2, m3, m4, m5, z0, z1, z2, z3, z4, z5⟩ := (show wb.cell? ⟨gl, 0, none⟩ = some (Value.int .i64 l'.now) ∧ wb.cell? ⟨gl, 1, none⟩ = some (Value.int .i64 l'.delay) ∧ wb.cell? ⟨gl, 2, none⟩ = some (Value.bool l'.cut) ∧ wb.cell? ⟨gl, 3, none⟩ = some (Value.int .i64 l'.count) ∧ wb.cell? ⟨gl, 4, none⟩ = some (Value.slice l'.lA l'.ln l'.lc) ∧ wb.cell? ⟨gl, 5, none⟩ = some (Value.slice l'.bA l'.bn l'.bc) ∧ wb.frozen? ⟨gl, 0, none⟩ = false ∧ wb.frozen? ⟨gl, 1, none⟩ = false ∧ wb.frozen? ⟨gl, 2, none⟩ = false ∧ wb.frozen? ⟨gl, 3, none⟩ = false ∧ wb.frozen? ⟨gl, 4, none⟩ = false ∧ wb.frozen? ⟨gl, 5, none⟩ = false from ⟨hB3.out.cell 0, hB3.out.cell 1, hB3.out.cell 2, hB3.out.cell 3, hB3.out.cell 4, hB3.out.cell 5, hB3.out.frozen 0, hB3.out.frozen 1, hB3.out.frozen 2, hB3.out.frozen 3, hB3.out.frozen 4, hB3.out.frozen 5⟩)
      replace hv3 := Lib.hid hv3
      clear hcl hok2 hB2 hS2 hb2 hbq hdt hcv k0 k1 k2 k3 k4 k5
      go_wp2_with fail
      have hB4 := lk_set6 hB3.out (Value.int .i64 l2.now) (Value.int .i64 l2.delay) (Value.bool l2.cut) (Value.int .i64 l2.count) (Value.slice l2.lA l2.ln l2.lc) (Value.slice l2.bA l2.bn l2.bc)
      have hg4 := grown_set6 wb gl (Value.int .i64 l2.now) (Value.int .i64 l2.delay) (Value.bool l2.cut) (Value.int .i64 l2.count) (Value.slice l2.lA l2.ln l2.lc) (Value.slice l2.bA l2.bn l2.bc)
      go_roundw
      case rel => exact ⟨3, l2, by omega, by go_num, hB4, hS3.out.grown hg4 (by simpa using hlt2), LkOk_q hok3 (hf3.out.q fun g hg e => by omega) hg4, hv3.out, hf3.out.q fun g hg e => (by omega), hb3.out.grown hg4 hb3.out.size (fun g e => by injection e with e; rw [← e]; exact hgl.out)⟩
      case measure => simp [intOf]
    · skip
      replace hv : l'.val = ⟨0, 2, false, 3, [1], [(2, [97]), (2, [99])]⟩ := hv
      have hsm : Hid (LkSm l') := sm_of (by rw [hv]; refine ⟨by decide, by decide, ?_⟩; decide)
      have hbx : l'.box.map Pk.val = [(2, [97]), (2, [99])] := congrArg Lv.box hv
      have hbn : l'.bn = 2 := by have := hok.out.ba.len; have h2 := congrArg List.length hbx; simp at h2; omega
      have e0' : l'.now = 0 := congrArg Lv.now hv
      obtain ⟨ad, hA, -, d0, -⟩ := pk_cells hok.out.ba (show 0 < l'.bn by omega)
      have hdu : (l'.box[0]'(by rw [hok.out.ba.len]; omega)).due = 2 := by
        have h8 : (l'.box.map Pk.val)[0]? = some (2, [97]) := by rw [hbx]; rfl
        have h9 : 0 < l'.box.length := by rw [hok.out.ba.len]; omega
        simp [h9, Pk.val] at h8
        exact h8.1
      rw [hdu] at d0
      simp only [Nat.zero_mul] at d0
      have d1 : wr.cell? ad = some (Value.int .i64 2) := by simpa [Addr.add] using d0
      have htk := tick_any l' wr hok.out hsm.out (by rw [e0']; decide)
      have hT : tickL l'.val = (⟨1, 2, false, 3, [1], [(2, [97]), (2, [99])]⟩, []) := by rw [hv]; rfl
      obtain ⟨now3, delay3, cut3, count3, lA3, ln3, lc3, lose3, bA3, bn3, bc3, box3⟩ := l'
      simp only at hA hbn
      subst hA
      subst hbn
      simp only [lkV] at htk

      replace hv := Lib.hid hv
      replace hT := Lib.hid hT
      clear hbx hdu e0'
      obtain ⟨k0, k1, k2, k3, k4, k5⟩ := (show wr.cell? ⟨gl, 0, none⟩ = some (Value.int .i64 now3) ∧ wr.cell? ⟨gl, 1, none⟩ = some (Value.int .i64 delay3) ∧ wr.cell? ⟨gl, 2, none⟩ = some (Value.bool cut3) ∧ wr.cell? ⟨gl, 3, none⟩ = some (Value.int .i64 count3) ∧ wr.cell? ⟨gl, 4, none⟩ = some (Value.slice lA3 ln3 lc3) ∧ wr.cell? ⟨gl, 5, none⟩ = some (Value.slice (some ad) 2 bc3) from ⟨hB.out.cell 0, hB.out.cell 1, hB.out.cell 2, hB.out.cell 3, hB.out.cell 4, hB.out.cell 5⟩)
      go_wp2_with fail
      refine htk.mono ?_; rintro e w4 ⟨⟨l4, A4, n4, c4, C4, rfl, hok4, hv4, hC4, -, hCm4, hK4⟩, hq⟩
      simp only [lkV]
      clear htk k0 k1 k2 k3 k4 k5 d0 d1
      rw [hT.out] at hv4 hCm4
      replace hv4 : l4.val = ⟨1, 2, false, 3, [1], [(2, [97]), (2, [99])]⟩ := hv4
      have hn4 : n4 = 0 := by have h2 := congrArg List.length hCm4; simp at h2; have := hC4.lenv; rw [this, h2]; rfl
      subst hn4
      clear hC4 hCm4
      have hB4 := Lib.hid (hB.out.below hq hB.out.lt)
      have hb4 := Lib.hid (hb.out.trans (hq.mono hb.out.size))
      have hq4 : Hid (LkQ (fun b => b ≠ gl) l4) := hK4 _ hql.out (fun g hg e => by have := hB.out.lt; omega)
      clear hK4 hq hB hS hok hql hb
      replace hv4 := Lib.hid hv4
      obtain ⟨m0, m1, m2, m3, m4, m5, z0, z1, z2, z3, z4, z5⟩ := (show w4.cell? ⟨gl, 0, none⟩ = some (Value.int .i64 now3) ∧ w4.cell? ⟨gl, 1, none⟩ = some (Value.int .i64 delay3) ∧ w4.cell? ⟨gl, 2, none⟩ = some (Value.bool cut3) ∧ w4.cell? ⟨gl, 3, none⟩ = some (Value.int .i64 count3) ∧ w4.cell? ⟨gl, 4, none⟩ = some (Value.slice lA3 ln3 lc3) ∧ w4.cell? ⟨gl, 5, none⟩ = some (Value.slice (some ad) 2 bc3) ∧ w4.frozen? ⟨gl, 0, none⟩ = false ∧ w4.frozen? ⟨gl, 1, none⟩ = false ∧ w4.frozen? ⟨gl, 2, none⟩ = false ∧ w4.frozen? ⟨gl, 3, none⟩ = false ∧ w4.frozen? ⟨gl, 4, none⟩ = false ∧ w4.frozen? ⟨gl, 5, none⟩ = false from ⟨hB4.out.cell 0, hB4.out.cell 1, hB4.out.cell 2, hB4.out.cell 3, hB4.out.cell 4, hB4.out.cell 5, hB4.out.frozen 0, hB4.out.frozen 1, hB4.out.frozen 2, hB4.out.frozen 3, hB4.out.frozen 4, hB4.out.frozen 5⟩)
      have hB5 := Lib.hid (lk_set6 hB4.out (Value.int .i64 l4.now) (Value.int .i64 l4.delay) (Value.bool l4.cut) (Value.int .i64 l4.count) (Value.slice l4.lA l4.ln l4.lc) (Value.slice l4.bA l4.bn l4.bc))
      have hg5 := Lib.hid (grown_set6 w4 gl (Value.int .i64 l4.now) (Value.int .i64 l4.delay) (Value.bool l4.cut) (Value.int .i64 l4.count) (Value.slice l4.lA l4.ln l4.lc) (Value.slice l4.bA l4.bn l4.bc))
      have hok5 := Lib.hid (LkOk_q hok4 hq4.out hg5.out)
      have hb5 := Lib.hid (below_set6 hb4.out hgl.out (Value.int .i64 l4.now) (Value.int .i64 l4.delay) (Value.bool l4.cut) (Value.int .i64 l4.count) (Value.slice l4.lA l4.ln l4.lc) (Value.slice l4.bA l4.bn l4.bc))
      have hs5 : Hid (LkSm l4) := sm_of (by rw [hv4.out]; refine ⟨by decide, by decide, ?_⟩; decide)
      have hn5 : Hid (l4.now = 1) := congrArg Lv.now hv4.out
      have hT5 : Hid (tickL l4.val = (⟨2, 2, false, 3, [1], []⟩, [[97], [99]])) := by show _ = _; rw [hv4.out]; rfl
      have hcT : Hid (tickL (cutL l4.val true) = (⟨2, 2, true, 3, [1], []⟩, [])) := by show _ = _; rw [hv4.out]; rfl
      have hcS : Hid (smV (cutL l4.val true)) := by show smV _; rw [hv4.out]; refine ⟨by decide, by decide, ?_⟩; decide
      have hc3 : Hid (l4.count = 3) := congrArg Lv.count hv4.out
      go_wp2_with fail
      clear m0 m1 m2 m3 m4 m5 z0 z1 z2 z3 z4 z5
      generalize ((((((w4.setCell ⟨gl, 0, none⟩ (Value.int .i64 l4.now)).setCell ⟨gl, 1, none⟩ (Value.int .i64 l4.delay)).setCell ⟨gl, 2, none⟩ (Value.bool l4.cut)).setCell ⟨gl, 3, none⟩ (Value.int .i64 l4.count)).setCell ⟨gl, 4, none⟩ (Value.slice l4.lA l4.ln l4.lc)).setCell ⟨gl, 5, none⟩ (Value.slice l4.bA l4.bn l4.bc)) = w5 at *
      clear hB4 hb4 hg5 hok4 hq4
      have htk := tick_any l4 w5 hok5.out hs5.out (by rw [hn5.out]; decide)
      simp only [lkV] at htk
      clear hn5
      refine htk.mono ?_; rintro e w6 ⟨⟨l6, A6, n6, c6, C6, rfl, -, -, hC6, hCd6, hCm6, -⟩, hq⟩
      simp only [lkV]
      clear htk
      rw [hT5.out] at hCm6
      have hn6 : n6 = 2 := by have h2 := congrArg List.length hCm6; simp at h2; have := hC6.lenv; rw [this, h2]
      subst hn6
      have hB6 := Lib.hid ((hB5.out.below hq hB5.out.lt).alloc (.cells #[Value.int .i64 l6.now, Value.int .i64 l6.delay, Value.bool l6.cut, Value.int .i64 l6.count, Value.slice l6.lA l6.ln l6.lc, Value.slice l6.bA l6.bn l6.bc] 25))
      have hok6 : Hid (LkOk (w6.alloc (.cells #[Value.int .i64 l6.now, Value.int .i64 l6.delay, Value.bool l6.cut, Value.int .i64 l6.count, Value.slice l6.lA l6.ln l6.lc, Value.slice l6.bA l6.bn l6.bc] 25)) l4) := (hok5.out.more hq).more (a1 w6 _)
      have hb6 : Hid (Below w.heap.size w (w6.alloc (.cells #[Value.int .i64 l6.now, Value.int .i64 l6.delay, Value.bool l6.cut, Value.int .i64 l6.count, Value.slice l6.lA l6.ln l6.lc, Value.slice l6.bA l6.bn l6.bc] 25))) := (hb5.out.trans (hq.mono hb5.out.size)).alloc (hb5.out.trans (hq.mono hb5.out.size)).size _
      have hC7 : Hid (LAt sC 1 (w6.alloc (.cells #[Value.int .i64 l6.now, Value.int .i64 l6.delay, Value.bool l6.cut, Value.int .i64 l6.count, Value.slice l6.lA l6.ln l6.lc, Value.slice l6.bA l6.bn l6.bc] 25)) (w6.alloc (.cells #[Value.int .i64 l6.now, Value.int .i64 l6.delay, Value.bool l6.cut, Value.int .i64 l6.count, Value.slice l6.lA l6.ln l6.lc, Value.slice l6.bA l6.bn l6.bc] 25)).heap.size A6 2 C6) := by
        obtain ⟨A9, c9, e9, -, -, -, h9⟩ := hC6.form
        have := hC6.lenv
        rw [← this] at e9 h9
        injection e9 with e9 _ _
        subst e9
        exact h9.more (a1 w6 _)
      have hCd7 : Hid (∀ b ∈ C6, BsAt (w6.alloc (.cells #[Value.int .i64 l6.now, Value.int .i64 l6.delay, Value.bool l6.cut, Value.int .i64 l6.count, Value.slice l6.lA l6.ln l6.lc, Value.slice l6.bA l6.bn l6.bc] 25)) b) := fun b hb => (bs_of_own (hCd6 b hb)).more (a1 w6 _)
      replace hCm6 := Lib.hid hCm6
      clear hC6 hCd6 hq hB5 hok5 hb5
      obtain ⟨k0, k1, k2, k3, k4, k5⟩ := (show (w6.alloc (.cells #[Value.int .i64 l6.now, Value.int .i64 l6.delay, Value.bool l6.cut, Value.int .i64 l6.count, Value.slice l6.lA l6.ln l6.lc, Value.slice l6.bA l6.bn l6.bc] 25)).cell? ⟨gl, 0, none⟩ = some (Value.int .i64 l4.now) ∧ (w6.alloc (.cells #[Value.int .i64 l6.now, Value.int .i64 l6.delay, Value.bool l6.cut, Value.int .i64 l6.count, Value.slice l6.lA l6.ln l6.lc, Value.slice l6.bA l6.bn l6.bc] 25)).cell? ⟨gl, 1, none⟩ = some (Value.int .i64 l4.delay) ∧ (w6.alloc (.cells #[Value.int .i64 l6.now, Value.int .i64 l6.delay, Value.bool l6.cut, Value.int .i64 l6.count, Value.slice l6.lA l6.ln l6.lc, Value.slice l6.bA l6.bn l6.bc] 25)).cell? ⟨gl, 2, none⟩ = some (Value.bool l4.cut) ∧ (w6.alloc (.cells #[Value.int .i64 l6.now, Value.int .i64 l6.delay, Value.bool l6.cut, Value.int .i64 l6.count, Value.slice l6.lA l6.ln l6.lc, Value.slice l6.bA l6.bn l6.bc] 25)).cell? ⟨gl, 3, none⟩ = some (Value.int .i64 l4.count) ∧ (w6.alloc (.cells #[Value.int .i64 l6.now, Value.int .i64 l6.delay, Value.bool l6.cut, Value.int .i64 l6.count, Value.slice l6.lA l6.ln l6.lc, Value.slice l6.bA l6.bn l6.bc] 25)).cell? ⟨gl, 4, none⟩ = some (Value.slice l4.lA l4.ln l4.lc) ∧ (w6.alloc (.cells #[Value.int .i64 l6.now, Value.int .i64 l6.delay, Value.bool l6.cut, Value.int .i64 l6.count, Value.slice l6.lA l6.ln l6.lc, Value.slice l6.bA l6.bn l6.bc] 25)).cell? ⟨gl, 5, none⟩ = some (Value.slice l4.bA l4.bn l4.bc) from ⟨hB6.out.cell 0, hB6.out.cell 1, hB6.out.cell 2, hB6.out.cell 3, hB6.out.cell 4, hB6.out.cell 5⟩)
      go_wp2_with fail
      clear k0 k1 k2 k3 k4 k5
      generalize w6.alloc (.cells #[Value.int .i64 l6.now, Value.int .i64 l6.delay, Value.bool l6.cut, Value.int .i64 l6.count, Value.slice l6.lA l6.ln l6.lc, Value.slice l6.bA l6.bn l6.bc] 25) = w7 at *
      have hct := cut_any l4 true w7 hok6.out hs5.out
      simp only [lkV] at hct
      refine hct.mono ?_; rintro e w8 ⟨l8, rfl, hok8, hv8, -, hq⟩
      clear hct
      have hB8 := Lib.hid (hB6.out.below hq hB6.out.lt)
      have hb8 := Lib.hid (hb6.out.trans (hq.mono hb6.out.size))
      have hC8 := Lib.hid (hC7.out.more hq)
      have hCd8 : Hid (∀ b ∈ C6, BsAt w8 b) := fun b hb => (hCd7.out b hb).more hq
      clear hq hB6 hb6 hC7 hCd7 hok6
      have htk := tick_any l8 w8 hok8 (sm_of (by rw [hv8]; exact hcS.out)) (by rw [show l8.now = l4.now from congrArg Lv.now hv8, show l4.now = 1 from congrArg Lv.now hv4.out]; decide)
      simp only [lkV] at htk
      rw [hv8] at htk
      clear hok8 hv8
      go_wp2_with fail
      refine htk.mono ?_; rintro e w9 ⟨⟨l9, A9, n9, c9, C9, rfl, -, -, hC9, -, hCm9, -⟩, hq⟩
      simp only [lkV]
      clear htk
      rw [hcT.out] at hCm9
      have hn9 : n9 = 0 := by have h2 := congrArg List.length hCm9; simp at h2; have := hC9.lenv; rw [this, h2]; rfl
      subst hn9
      clear hC9 hCm9
      have hB9 := Lib.hid ((hB8.out.below hq hB8.out.lt).alloc (.cells #[Value.int .i64 l9.now, Value.int .i64 l9.delay, Value.bool l9.cut, Value.int .i64 l9.count, Value.slice l9.lA l9.ln l9.lc, Value.slice l9.bA l9.bn l9.bc] 25))
      have hb9 : Hid (Below w.heap.size w (w9.alloc (.cells #[Value.int .i64 l9.now, Value.int .i64 l9.delay, Value.bool l9.cut, Value.int .i64 l9.count, Value.slice l9.lA l9.ln l9.lc, Value.slice l9.bA l9.bn l9.bc] 25))) := (hb8.out.trans (hq.mono hb8.out.size)).alloc (hb8.out.trans (hq.mono hb8.out.size)).size _
      have hC9 := Lib.hid ((hC8.out.more hq).more (a1 w9 (.cells #[Value.int .i64 l9.now, Value.int .i64 l9.delay, Value.bool l9.cut, Value.int .i64 l9.count, Value.slice l9.lA l9.ln l9.lc, Value.slice l9.bA l9.bn l9.bc] 25)))
      have hCd9 : Hid (∀ b ∈ C6, BsAt (w9.alloc (.cells #[Value.int .i64 l9.now, Value.int .i64 l9.delay, Value.bool l9.cut, Value.int .i64 l9.count, Value.slice l9.lA l9.ln l9.lc, Value.slice l9.bA l9.bn l9.bc] 25)) b) := fun b hb => ((hCd8.out b hb).more hq).more (a1 w9 _)
      clear hq hB8 hb8 hC8 hCd8
      go_wp2_with fail
      generalize w9.alloc (.cells #[Value.int .i64 l9.now, Value.int .i64 l9.delay, Value.bool l9.cut, Value.int .i64 l9.count, Value.slice l9.lA l9.ln l9.lc, Value.slice l9.bA l9.bn l9.bc] 25) = wa at *
      have hnw := new_any 61 none 0 0 [] wa (LAt.nil iC_len _ _) ⟨Nat.le_refl _, Nat.zero_le _⟩ (fun x hx => by simp at hx) (by simp [i64In]) (by decide)
      rw [show newR 61 [] = (noneL, 2) from rfl] at hnw
      simp only [lkV] at hnw
      refine hnw.mono ?_; rintro e wb ⟨lb, rfl, -, -, -, hq⟩
      clear hnw
      have hBb := Lib.hid (((hB9.out.below hq hB9.out.lt).alloc (.cells #[Value.int .i64 lb.now, Value.int .i64 lb.delay, Value.bool lb.cut, Value.int .i64 lb.count, Value.slice lb.lA lb.ln lb.lc, Value.slice lb.bA lb.bn lb.bc] 25)).alloc (.cells #[Value.int .i64 3, Value.int .i64 3] 3))
      have hbb : Hid (Below w.heap.size w ((wb.alloc (.cells #[Value.int .i64 lb.now, Value.int .i64 lb.delay, Value.bool lb.cut, Value.int .i64 lb.count, Value.slice lb.lA lb.ln lb.lc, Value.slice lb.bA lb.bn lb.bc] 25)).alloc (.cells #[Value.int .i64 3, Value.int .i64 3] 3))) := ((hb9.out.trans (hq.mono hb9.out.size)).alloc (hb9.out.trans (hq.mono hb9.out.size)).size _).alloc (by simp; have := (hb9.out.trans (hq.mono hb9.out.size)).size; omega) _
      have hCb := Lib.hid (((hC9.out.more hq).more (a1 wb (.cells #[Value.int .i64 lb.now, Value.int .i64 lb.delay, Value.bool lb.cut, Value.int .i64 lb.count, Value.slice lb.lA lb.ln lb.lc, Value.slice lb.bA lb.bn lb.bc] 25))).more (a1 _ (.cells #[Value.int .i64 3, Value.int .i64 3] 3)))
      have hCdb : Hid (∀ b ∈ C6, BsAt ((wb.alloc (.cells #[Value.int .i64 lb.now, Value.int .i64 lb.delay, Value.bool lb.cut, Value.int .i64 lb.count, Value.slice lb.lA lb.ln lb.lc, Value.slice lb.bA lb.bn lb.bc] 25)).alloc (.cells #[Value.int .i64 3, Value.int .i64 3] 3)) b) := fun b hb => (((hCd9.out b hb).more hq).more (a1 wb _)).more (a1 _ _)
      have hI : Hid (IAt ((wb.alloc (.cells #[Value.int .i64 lb.now, Value.int .i64 lb.delay, Value.bool lb.cut, Value.int .i64 lb.count, Value.slice lb.lA lb.ln lb.lc, Value.slice lb.bA lb.bn lb.bc] 25)).alloc (.cells #[Value.int .i64 3, Value.int .i64 3] 3)) ((wb.alloc (.cells #[Value.int .i64 lb.now, Value.int .i64 lb.delay, Value.bool lb.cut, Value.int .i64 lb.count, Value.slice lb.lA lb.ln lb.lc, Value.slice lb.bA lb.bn lb.bc] 25)).alloc (.cells #[Value.int .i64 3, Value.int .i64 3] 3)).heap.size (some ⟨wb.heap.size + 1, 0, none⟩) 2 [3, 3]) := by
        have := (lit_at (e := 3) iC_len (wb.alloc (.cells #[Value.int .i64 lb.now, Value.int .i64 lb.delay, Value.bool lb.cut, Value.int .i64 lb.count, Value.slice lb.lA lb.ln lb.lc, Value.slice lb.bA lb.bn lb.bc] 25)) [3, 3] #[Value.int .i64 3, Value.int .i64 3] rfl).mono (B' := ((wb.alloc (.cells #[Value.int .i64 lb.now, Value.int .i64 lb.delay, Value.bool lb.cut, Value.int .i64 lb.count, Value.slice lb.lA lb.ln lb.lc, Value.slice lb.bA lb.bn lb.bc] 25)).alloc (.cells #[Value.int .i64 3, Value.int .i64 3] 3)).heap.size) (by simp)
        rw [show (wb.alloc (.cells #[Value.int .i64 lb.now, Value.int .i64 lb.delay, Value.bool lb.cut, Value.int .i64 lb.count, Value.slice lb.lA lb.ln lb.lc, Value.slice lb.bA lb.bn lb.bc] 25)).heap.size = wb.heap.size + 1 by simp] at this
        exact this
      clear hq hB9 hb9 hC9 hCd9
      go_wp2_with fail
      generalize (wb.alloc (.cells #[Value.int .i64 lb.now, Value.int .i64 lb.delay, Value.bool lb.cut, Value.int .i64 lb.count, Value.slice lb.lA lb.ln lb.lc, Value.slice lb.bA lb.bn lb.bc] 25)).alloc (.cells #[Value.int .i64 3, Value.int .i64 3] 3) = wc at *
      have hnw := new_any 1 (some ⟨wb.heap.size + 1, 0, none⟩) 2 2 [3, 3] wc hI.out ⟨Nat.le_refl _, by simp [maxLen]⟩ (by intro x hx; simp at hx; subst hx; simp [i64In]) (by simp [i64In]) (by decide)
      rw [show newR 1 [3, 3] = (noneL, 1) from rfl] at hnw
      simp only [lkV] at hnw
      refine hnw.mono ?_; rintro e wd ⟨ld, rfl, -, -, -, hq⟩
      clear hnw hI
      have hBd := Lib.hid ((hBb.out.below hq hBb.out.lt).alloc (.cells #[Value.int .i64 ld.now, Value.int .i64 ld.delay, Value.bool ld.cut, Value.int .i64 ld.count, Value.slice ld.lA ld.ln ld.lc, Value.slice ld.bA ld.bn ld.bc] 25))
      have hbd : Hid (Below w.heap.size w (wd.alloc (.cells #[Value.int .i64 ld.now, Value.int .i64 ld.delay, Value.bool ld.cut, Value.int .i64 ld.count, Value.slice ld.lA ld.ln ld.lc, Value.slice ld.bA ld.bn ld.bc] 25))) := (hbb.out.trans (hq.mono hbb.out.size)).alloc (hbb.out.trans (hq.mono hbb.out.size)).size _
      have hCd := Lib.hid ((hCb.out.more hq).more (a1 wd (.cells #[Value.int .i64 ld.now, Value.int .i64 ld.delay, Value.bool ld.cut, Value.int .i64 ld.count, Value.slice ld.lA ld.ln ld.lc, Value.slice ld.bA ld.bn ld.bc] 25)))
      have hCdd : Hid (∀ b ∈ C6, BsAt (wd.alloc (.cells #[Value.int .i64 ld.now, Value.int .i64 ld.delay, Value.bool ld.cut, Value.int .i64 ld.count, Value.slice ld.lA ld.ln ld.lc, Value.slice ld.bA ld.bn ld.bc] 25)) b) := fun b hb => ((hCdb.out b hb).more hq).more (a1 wd _)
      clear hq hBb hbb hCb hCdb
      obtain ⟨k0, k1, k2, k3, k4, k5⟩ := (show (wd.alloc (.cells #[Value.int .i64 ld.now, Value.int .i64 ld.delay, Value.bool ld.cut, Value.int .i64 ld.count, Value.slice ld.lA ld.ln ld.lc, Value.slice ld.bA ld.bn ld.bc] 25)).cell? ⟨gl, 0, none⟩ = some (Value.int .i64 l4.now) ∧ (wd.alloc (.cells #[Value.int .i64 ld.now, Value.int .i64 ld.delay, Value.bool ld.cut, Value.int .i64 ld.count, Value.slice ld.lA ld.ln ld.lc, Value.slice ld.bA ld.bn ld.bc] 25)).cell? ⟨gl, 1, none⟩ = some (Value.int .i64 l4.delay) ∧ (wd.alloc (.cells #[Value.int .i64 ld.now, Value.int .i64 ld.delay, Value.bool ld.cut, Value.int .i64 ld.count, Value.slice ld.lA ld.ln ld.lc, Value.slice ld.bA ld.bn ld.bc] 25)).cell? ⟨gl, 2, none⟩ = some (Value.bool l4.cut) ∧ (wd.alloc (.cells #[Value.int .i64 ld.now, Value.int .i64 ld.delay, Value.bool ld.cut, Value.int .i64 ld.count, Value.slice ld.lA ld.ln ld.lc, Value.slice ld.bA ld.bn ld.bc] 25)).cell? ⟨gl, 3, none⟩ = some (Value.int .i64 l4.count) ∧ (wd.alloc (.cells #[Value.int .i64 ld.now, Value.int .i64 ld.delay, Value.bool ld.cut, Value.int .i64 ld.count, Value.slice ld.lA ld.ln ld.lc, Value.slice ld.bA ld.bn ld.bc] 25)).cell? ⟨gl, 4, none⟩ = some (Value.slice l4.lA l4.ln l4.lc) ∧ (wd.alloc (.cells #[Value.int .i64 ld.now, Value.int .i64 ld.delay, Value.bool ld.cut, Value.int .i64 ld.count, Value.slice ld.lA ld.ln ld.lc, Value.slice ld.bA ld.bn ld.bc] 25)).cell? ⟨gl, 5, none⟩ = some (Value.slice l4.bA l4.bn l4.bc) from ⟨hBd.out.cell 0, hBd.out.cell 1, hBd.out.cell 2, hBd.out.cell 3, hBd.out.cell 4, hBd.out.cell 5⟩)
      rw [hc3.out] at k3
      have hc1 : (convert 27 27 (.slice (some ⟨wd.heap.size + 1, 0, none⟩) 1 1)).run Try.prog ((wd.alloc (.cells #[Value.int .i64 ld.now, Value.int .i64 ld.delay, Value.bool ld.cut, Value.int .i64 ld.count, Value.slice ld.lA ld.ln ld.lc, Value.slice ld.bA ld.bn ld.bc] 25)).alloc (.cells #[.int .u8 97] 5)) = .ok (.slice (some ⟨wd.heap.size + 1, 0, none⟩) 1 1) ((wd.alloc (.cells #[Value.int .i64 ld.now, Value.int .i64 ld.delay, Value.bool ld.cut, Value.int .i64 ld.count, Value.slice ld.lA ld.ln ld.lc, Value.slice ld.bA ld.bn ld.bc] 25)).alloc (.cells #[.int .u8 97] 5 (1, 2))) := Go.Joins.run_convert_bytes_const_at (P := Try.prog) (wd.alloc (.cells #[Value.int .i64 ld.now, Value.int .i64 ld.delay, Value.bool ld.cut, Value.int .i64 ld.count, Value.slice ld.lA ld.ln ld.lc, Value.slice ld.bA ld.bn ld.bc] 25)) 27 5 #[.int .u8 97] 1 1 (wd.heap.size + 1) (by simp) Try.underlying27 Try.underlying5
      have hc2 : (convert 27 27 (.slice (some ⟨wd.heap.size + 1 + 1, 0, none⟩) 1 1)).run Try.prog (((wd.alloc (.cells #[Value.int .i64 ld.now, Value.int .i64 ld.delay, Value.bool ld.cut, Value.int .i64 ld.count, Value.slice ld.lA ld.ln ld.lc, Value.slice ld.bA ld.bn ld.bc] 25)).alloc (.cells #[.int .u8 97] 5 (1, 2))).alloc (.cells #[.int .u8 99] 5)) = .ok (.slice (some ⟨wd.heap.size + 1 + 1, 0, none⟩) 1 1) (((wd.alloc (.cells #[Value.int .i64 ld.now, Value.int .i64 ld.delay, Value.bool ld.cut, Value.int .i64 ld.count, Value.slice ld.lA ld.ln ld.lc, Value.slice ld.bA ld.bn ld.bc] 25)).alloc (.cells #[.int .u8 97] 5 (1, 2))).alloc (.cells #[.int .u8 99] 5 (1, 2))) := Go.Joins.run_convert_bytes_const_at (P := Try.prog) ((wd.alloc (.cells #[Value.int .i64 ld.now, Value.int .i64 ld.delay, Value.bool ld.cut, Value.int .i64 ld.count, Value.slice ld.lA ld.ln ld.lc, Value.slice ld.bA ld.bn ld.bc] 25)).alloc (.cells #[.int .u8 97] 5 (1, 2))) 27 5 #[.int .u8 99] 1 1 (wd.heap.size + 1 + 1) (by simp) Try.underlying27 Try.underlying5
      have hbE : Hid (Below w.heap.size w ((((wd.alloc (.cells #[Value.int .i64 ld.now, Value.int .i64 ld.delay, Value.bool ld.cut, Value.int .i64 ld.count, Value.slice ld.lA ld.ln ld.lc, Value.slice ld.bA ld.bn ld.bc] 25)).alloc (.cells #[.int .u8 97] 5 (1, 2))).alloc (.cells #[.int .u8 99] 5 (1, 2))).alloc (.cells #[Value.slice (some ⟨wd.heap.size + 1, 0, none⟩) 1 1, Value.slice (some ⟨wd.heap.size + 1 + 1, 0, none⟩) 1 1] 27))) := ((hbd.out.alloc hbd.out.size _).alloc (by simp; have := hbd.out.size; simp at this; omega) _).alloc (by simp; have := hbd.out.size; simp at this; omega) _
      have hbe : Hid (Below (wd.alloc (.cells #[Value.int .i64 ld.now, Value.int .i64 ld.delay, Value.bool ld.cut, Value.int .i64 ld.count, Value.slice ld.lA ld.ln ld.lc, Value.slice ld.bA ld.bn ld.bc] 25)).heap.size (wd.alloc (.cells #[Value.int .i64 ld.now, Value.int .i64 ld.delay, Value.bool ld.cut, Value.int .i64 ld.count, Value.slice ld.lA ld.ln ld.lc, Value.slice ld.bA ld.bn ld.bc] 25)) ((((wd.alloc (.cells #[Value.int .i64 ld.now, Value.int .i64 ld.delay, Value.bool ld.cut, Value.int .i64 ld.count, Value.slice ld.lA ld.ln ld.lc, Value.slice ld.bA ld.bn ld.bc] 25)).alloc (.cells #[.int .u8 97] 5 (1, 2))).alloc (.cells #[.int .u8 99] 5 (1, 2))).alloc (.cells #[Value.slice (some ⟨wd.heap.size + 1, 0, none⟩) 1 1, Value.slice (some ⟨wd.heap.size + 1 + 1, 0, none⟩) 1 1] 27))) := (((a1 (wd.alloc (.cells #[Value.int .i64 ld.now, Value.int .i64 ld.delay, Value.bool ld.cut, Value.int .i64 ld.count, Value.slice ld.lA ld.ln ld.lc, Value.slice ld.bA ld.bn ld.bc] 25)) _).alloc (by simp) _).alloc (by simp; try omega) _)
      have h97 : Hid (BsAt ((((wd.alloc (.cells #[Value.int .i64 ld.now, Value.int .i64 ld.delay, Value.bool ld.cut, Value.int .i64 ld.count, Value.slice ld.lA ld.ln ld.lc, Value.slice ld.bA ld.bn ld.bc] 25)).alloc (.cells #[.int .u8 97] 5 (1, 2))).alloc (.cells #[.int .u8 99] 5 (1, 2))).alloc (.cells #[Value.slice (some ⟨wd.heap.size + 1, 0, none⟩) 1 1, Value.slice (some ⟨wd.heap.size + 1 + 1, 0, none⟩) 1 1] 27)) ⟨some ⟨wd.heap.size + 1, 0, none⟩, 1, 1, [97]⟩) := by
        have h8 : BAt ((wd.alloc (.cells #[Value.int .i64 ld.now, Value.int .i64 ld.delay, Value.bool ld.cut, Value.int .i64 ld.count, Value.slice ld.lA ld.ln ld.lc, Value.slice ld.bA ld.bn ld.bc] 25)).alloc (.cells #[.int .u8 97] 5 (1, 2))) ((wd.alloc (.cells #[Value.int .i64 ld.now, Value.int .i64 ld.delay, Value.bool ld.cut, Value.int .i64 ld.count, Value.slice ld.lA ld.ln ld.lc, Value.slice ld.bA ld.bn ld.bc] 25)).alloc (.cells #[.int .u8 97] 5 (1, 2))).heap.size (some ⟨(wd.alloc (.cells #[Value.int .i64 ld.now, Value.int .i64 ld.delay, Value.bool ld.cut, Value.int .i64 ld.count, Value.slice ld.lA ld.ln ld.lc, Value.slice ld.bA ld.bn ld.bc] 25)).heap.size, 0, none⟩) 1 [97] := lat_row bC_len (heap_alloc_new (wd.alloc (.cells #[Value.int .i64 ld.now, Value.int .i64 ld.delay, Value.bool ld.cut, Value.int .i64 ld.count, Value.slice ld.lA ld.ln ld.lc, Value.slice ld.bA ld.bn ld.bc] 25)) (.cells #[.int .u8 97] 5 (1, 2))) [97] rfl
        rw [show (wd.alloc (.cells #[Value.int .i64 ld.now, Value.int .i64 ld.delay, Value.bool ld.cut, Value.int .i64 ld.count, Value.slice ld.lA ld.ln ld.lc, Value.slice ld.bA ld.bn ld.bc] 25)).heap.size = wd.heap.size + 1 by simp] at h8
        exact ⟨(h8.more (a1 _ _)).more (a1 _ _), Nat.le_refl _, by simp [maxLen]⟩
      have h99 : Hid (BsAt ((((wd.alloc (.cells #[Value.int .i64 ld.now, Value.int .i64 ld.delay, Value.bool ld.cut, Value.int .i64 ld.count, Value.slice ld.lA ld.ln ld.lc, Value.slice ld.bA ld.bn ld.bc] 25)).alloc (.cells #[.int .u8 97] 5 (1, 2))).alloc (.cells #[.int .u8 99] 5 (1, 2))).alloc (.cells #[Value.slice (some ⟨wd.heap.size + 1, 0, none⟩) 1 1, Value.slice (some ⟨wd.heap.size + 1 + 1, 0, none⟩) 1 1] 27)) ⟨some ⟨wd.heap.size + 1 + 1, 0, none⟩, 1, 1, [99]⟩) := by
        have h8 : BAt (((wd.alloc (.cells #[Value.int .i64 ld.now, Value.int .i64 ld.delay, Value.bool ld.cut, Value.int .i64 ld.count, Value.slice ld.lA ld.ln ld.lc, Value.slice ld.bA ld.bn ld.bc] 25)).alloc (.cells #[.int .u8 97] 5 (1, 2))).alloc (.cells #[.int .u8 99] 5 (1, 2))) (((wd.alloc (.cells #[Value.int .i64 ld.now, Value.int .i64 ld.delay, Value.bool ld.cut, Value.int .i64 ld.count, Value.slice ld.lA ld.ln ld.lc, Value.slice ld.bA ld.bn ld.bc] 25)).alloc (.cells #[.int .u8 97] 5 (1, 2))).alloc (.cells #[.int .u8 99] 5 (1, 2))).heap.size (some ⟨((wd.alloc (.cells #[Value.int .i64 ld.now, Value.int .i64 ld.delay, Value.bool ld.cut, Value.int .i64 ld.count, Value.slice ld.lA ld.ln ld.lc, Value.slice ld.bA ld.bn ld.bc] 25)).alloc (.cells #[.int .u8 97] 5 (1, 2))).heap.size, 0, none⟩) 1 [99] := lat_row bC_len (heap_alloc_new _ (.cells #[.int .u8 99] 5 (1, 2))) [99] rfl
        rw [show ((wd.alloc (.cells #[Value.int .i64 ld.now, Value.int .i64 ld.delay, Value.bool ld.cut, Value.int .i64 ld.count, Value.slice ld.lA ld.ln ld.lc, Value.slice ld.bA ld.bn ld.bc] 25)).alloc (.cells #[.int .u8 97] 5 (1, 2))).heap.size = wd.heap.size + 1 + 1 by simp] at h8
        exact ⟨h8.more (a1 _ _), Nat.le_refl _, by simp [maxLen]⟩
      have hL : Hid (LAt sC 1 ((((wd.alloc (.cells #[Value.int .i64 ld.now, Value.int .i64 ld.delay, Value.bool ld.cut, Value.int .i64 ld.count, Value.slice ld.lA ld.ln ld.lc, Value.slice ld.bA ld.bn ld.bc] 25)).alloc (.cells #[.int .u8 97] 5 (1, 2))).alloc (.cells #[.int .u8 99] 5 (1, 2))).alloc (.cells #[Value.slice (some ⟨wd.heap.size + 1, 0, none⟩) 1 1, Value.slice (some ⟨wd.heap.size + 1 + 1, 0, none⟩) 1 1] 27)) ((((wd.alloc (.cells #[Value.int .i64 ld.now, Value.int .i64 ld.delay, Value.bool ld.cut, Value.int .i64 ld.count, Value.slice ld.lA ld.ln ld.lc, Value.slice ld.bA ld.bn ld.bc] 25)).alloc (.cells #[.int .u8 97] 5 (1, 2))).alloc (.cells #[.int .u8 99] 5 (1, 2))).alloc (.cells #[Value.slice (some ⟨wd.heap.size + 1, 0, none⟩) 1 1, Value.slice (some ⟨wd.heap.size + 1 + 1, 0, none⟩) 1 1] 27)).heap.size (some ⟨wd.heap.size + 1 + 1 + 1, 0, none⟩) 2 [⟨some ⟨wd.heap.size + 1, 0, none⟩, 1, 1, [97]⟩, ⟨some ⟨wd.heap.size + 1 + 1, 0, none⟩, 1, 1, [99]⟩]) := by
        have h8 := (lit_at (e := 27) sC_len (((wd.alloc (.cells #[Value.int .i64 ld.now, Value.int .i64 ld.delay, Value.bool ld.cut, Value.int .i64 ld.count, Value.slice ld.lA ld.ln ld.lc, Value.slice ld.bA ld.bn ld.bc] 25)).alloc (.cells #[.int .u8 97] 5 (1, 2))).alloc (.cells #[.int .u8 99] 5 (1, 2))) [(⟨some ⟨wd.heap.size + 1, 0, none⟩, 1, 1, [97]⟩ : Bs), ⟨some ⟨wd.heap.size + 1 + 1, 0, none⟩, 1, 1, [99]⟩] #[Value.slice (some ⟨wd.heap.size + 1, 0, none⟩) 1 1, Value.slice (some ⟨wd.heap.size + 1 + 1, 0, none⟩) 1 1] rfl).mono (B' := ((((wd.alloc (.cells #[Value.int .i64 ld.now, Value.int .i64 ld.delay, Value.bool ld.cut, Value.int .i64 ld.count, Value.slice ld.lA ld.ln ld.lc, Value.slice ld.bA ld.bn ld.bc] 25)).alloc (.cells #[.int .u8 97] 5 (1, 2))).alloc (.cells #[.int .u8 99] 5 (1, 2))).alloc (.cells #[Value.slice (some ⟨wd.heap.size + 1, 0, none⟩) 1 1, Value.slice (some ⟨wd.heap.size + 1 + 1, 0, none⟩) 1 1] 27)).heap.size) (by simp)
        rw [show (((wd.alloc (.cells #[Value.int .i64 ld.now, Value.int .i64 ld.delay, Value.bool ld.cut, Value.int .i64 ld.count, Value.slice ld.lA ld.ln ld.lc, Value.slice ld.bA ld.bn ld.bc] 25)).alloc (.cells #[.int .u8 97] 5 (1, 2))).alloc (.cells #[.int .u8 99] 5 (1, 2))).heap.size = wd.heap.size + 1 + 1 + 1 by simp] at h8
        exact h8
      have hsd := Lib.hid (sameData_any A6 (some ⟨wd.heap.size + 1 + 1 + 1, 0, none⟩) 2 c6 2 2 C6 _ ((((wd.alloc (.cells #[Value.int .i64 ld.now, Value.int .i64 ld.delay, Value.bool ld.cut, Value.int .i64 ld.count, Value.slice ld.lA ld.ln ld.lc, Value.slice ld.bA ld.bn ld.bc] 25)).alloc (.cells #[.int .u8 97] 5 (1, 2))).alloc (.cells #[.int .u8 99] 5 (1, 2))).alloc (.cells #[Value.slice (some ⟨wd.heap.size + 1, 0, none⟩) 1 1, Value.slice (some ⟨wd.heap.size + 1 + 1, 0, none⟩) 1 1] 27)) (hCd.out.more hbe.out) hL.out (fun b hb => (hCdd.out b hb).more hbe.out) (fun b hb => by
        rcases List.mem_cons.1 hb with rfl | hb
        · exact h97.out
        · simp at hb; subst hb; exact h99.out) hCm6.out (by decide))
      go_wp2_with fail
      refine hsd.out.mono ?_; rintro e we ⟨rfl, rfl⟩
      go_wp2_with fail
      go_ret
      exact ⟨rfl, hbE.out⟩
end Go.Proofs.Yteolglmdfjddlaa
