/- Links: the law LinkOrder, walked. -/
import Derived.Test.YteolglmdfjddlaaLP
import Derived.Test.YteolglmdfjddlaaLN
import Derived.Test.YteolglmdfjddlaaRUZ
set_option linter.unusedVariables false
set_option linter.unusedSimpArgs false
namespace Go.Proofs.Yteolglmdfjddlaa
open Go.RowKit
theorem OOwn.far {α : Type} {f : α → List Value} {s B base : Nat} {e : TypeId} {w w' : World} {v : Value} {l : List α} (h : OOwn f s e w base v l) (hg : w.grownBy w' (some B)) (hlt : B < base) : OOwn f s e w' base v l := by
  refine h.grown hg ?_
  rcases h.2 with ⟨hv, _⟩ | ⟨g, o, c, cur, hv, h1, _⟩
  · left; rw [hv]; rfl
  · right; rw [hv]; intro e; simp [Value.ownBlock] at e; omega
theorem sn_info : (Try.prog.info? 57).map (fun i => (i.zero, i.size, i.bytes)) = some (some (.agg #[.int .i64 0, .int .i64 0]), 2, 16) := by kernel_rfl
theorem LkOk_qO {w w' : World} {l : Lk} {o : Option Nat} (h : LkOk w l) (hf : LkQ (fun b => some b ≠ o) l) (hg : w.grownBy w' o) : LkOk w' l :=
  ⟨LAt_grownO h.la hf.1 hg, h.lb, h.li, LAt_grownO h.ba hf.2.1 hg, h.bb, fun p hp => PkAt_grownO (h.bd p hp) (hf.2.2 p hp) hg, h.ii⟩
theorem pop_at {w : World} {base gw ow m c : Nat} {x : Sn} {l : List Sn} (h : OOwn snC 2 57 w base (.slice (some ⟨gw, ow, none⟩) m c) (x :: l)) :
    OOwn snC 2 57 w base (.slice (if c = 1 then some ⟨gw, ow, none⟩ else some ⟨gw, ow + 2, none⟩) (m - 1) (c - 1)) l ∧ (Value.slice (if c = 1 then some (⟨gw, ow, none⟩ : Addr) else some ⟨gw, ow + 2, none⟩) (m - 1) (c - 1)).ownBlock = (Value.slice (some (⟨gw, ow, none⟩ : Addr)) m c).ownBlock := by
  have h1 := h.pop (by omega)
  refine ⟨by simpa [Addr.add_lit] using h1, ?_⟩
  split <;> simp [Value.ownBlock]
/-- a slice of one slice that holds the bytes of a number -/
def OneAt (base : Nat) (sn : Int) (v : Value) (w : World) : Prop := ∃ g A c, v = .slice (some ⟨g, 0, none⟩) 1 1 ∧ base ≤ g ∧ Blk w g 27 #[.slice A 2 c] ∧ BOwn w base (.slice A 2 c) (nbs sn)
theorem OneAt.more {base : Nat} {sn : Int} {v : Value} {w w' : World} (h : OneAt base sn v w) (hb : Below w.heap.size w w') : OneAt base sn v w' := by
  obtain ⟨g, A, c, h1, h2, h3, h4⟩ := h
  exact ⟨g, A, c, h1, h2, h3.below hb h3.lt, h4.kept hb⟩
def F25 (gw ow m c9 base : Nat) (sn : Int) (U : Value) : Tmp → Value → World → Prop
  | 9, v, _ => v = .slice (some ⟨gw, ow, none⟩) m c9
  | 16, v, _ => v = U
  | 95, v, _ => v = U
  | 96, v, _ => v = .slice (some ⟨gw, ow, none⟩) m c9
  | 97, v, _ => v = .pointer (some ⟨gw, ow, none⟩)
  | 98, v, _ => v = .pointer (some ⟨gw, ow, none⟩)
  | 99, v, _ => v = .int .i64 sn
  | 100, v, _ => v = .int .u8 (sn % 256)
  | 101, v, _ => v = .slice (some ⟨gw, ow, none⟩) m c9
  | 102, v, _ => v = .pointer (some ⟨gw, ow, none⟩)
  | 103, v, _ => v = .pointer (some ⟨gw, ow, none⟩)
  | 104, v, _ => v = .int .i64 sn
  | 105, v, _ => v = .int .i64 (sn / 256)
  | 106, v, _ => v = .int .u8 (sn / 256 % 256)
  | 107, v, w => BOwn w base v (nbs sn) ∧ ∃ A c, v = .slice A 2 c
  | 108, v, w => OneAt base sn v w
  | _, _, _ => True
theorem F25_more {gw ow m c9 base : Nat} {sn : Int} {U : Value} (d t : Tmp) (v : Value) (w w' : World) (hR : Rb w w') (hne : t ≠ d) (hc : ([] : List (Tmp × Tmp)).contains (d, t) = false) (h : F25 gw ow m c9 base sn U t v w) : F25 gw ow m c9 base sn U t v w' := by
  unfold F25 at *
  split at h <;> first | exact h | exact ⟨h.1.kept hR, h.2⟩ | exact OneAt.more h hR | exact fun hg => OneAt.more (h hg) hR
def lenV : Value → Nat
  | .slice _ n _ => n
  | _ => 0
theorem LkQ.app {g B B' : Nat} {l : Lk} {o o' : Option Nat} (h : LkQ (fun b => b ≠ g ∧ some b ≠ o) l) (hl : LkQ (fun b => b < B) l) (ho : o' = o ∨ o' = some B') (hB : B ≤ B') : LkQ (fun b => b ≠ g ∧ some b ≠ o') l := by
  have q : ∀ b, b ≠ g ∧ some b ≠ o → b < B → b ≠ g ∧ some b ≠ o' := by
    intro b h1 h2
    refine ⟨h1.1, ?_⟩
    rcases ho with rfl | rfl
    · exact h1.2
    · intro e; injection e with e; omega
  exact ⟨fun h0 ad e => q _ (h.1 h0 ad e) (hl.1 h0 ad e), fun h0 ad e => q _ (h.2.1 h0 ad e) (hl.2.1 h0 ad e), fun p hp h0 ad e => q _ (h.2.2 p hp h0 ad e) (hl.2.2 p hp h0 ad e)⟩
theorem OOwn.blk_lt {α : Type} {f : α → List Value} {s base : Nat} {e : TypeId} {w : World} {v : Value} {l : List α} (h : OOwn f s e w base v l) (g : Nat) (hv : v.ownBlock = some g) : base ≤ g ∧ g < w.heap.size := by
  rcases h.2 with ⟨rfl, _⟩ | ⟨g', o, c, cur, rfl, h1, h2, _⟩
  · simp [Value.ownBlock] at hv
  · simp [Value.ownBlock] at hv
    subst hv
    exact ⟨h1, h2.lt⟩
theorem ord_err {v : Lv} {way : List Sn} (hg : Good v) (hb : v.box = boxOf way) (hl : way.length ≤ 250) (hc : v.count < 2147483647) (kd : Int) : (playL v kd (nbs v.count)).2.2 = 0 := by
  by_cases q1 : kd = 1
  · rw [q1, ord_send hb hl hc]
  unfold playL
  rw [if_neg q1]
  split
  · rfl
  · split
    · rfl
    · split <;> rfl
theorem ord_new (delay : Int) (lose : List Int) : newL delay lose = ⟨0, delay, false, 0, lose, boxOf []⟩ := rfl
set_option maxRecDepth 100000 in
set_option maxHeartbeats 8000000 in
theorem lawOrder (delay : Int) (A1 : Option Addr) (n1 c1 : Nat) (lose : List Int) (A2 : Option Addr) (n2 c2 : Nat) (ops : List Ox) (w : World) (hdw : (Lit.int .i64 delay).wf = true) (h1 : IAt w w.heap.size A1 n1 lose) (hc1 : n1 ≤ c1) (hm1 : c1 ≤ maxLen) (hi : ∀ x ∈ lose, i64In x) (h2 : LAt oC 2 w w.heap.size A2 n2 ops) (hx : ∀ o ∈ ops, OxAt w o) : Calls Try.prog 7 #[.int .i64 delay, .slice A1 n1 c1, .slice A2 n2 c2] w fun e w' => e = .returned (.bool true) ∧ Below w.heap.size w w' := by
  have hdi : i64In delay := wf_i64' hdw
  clear hdw
  have hn1 := Lib.hid h1.len
  have hn2 := Lib.hid h2.len
  replace h1 := Lib.hid h1
  replace h2 := Lib.hid h2
  replace hi := Lib.hid hi
  replace hx := Lib.hid hx
  have hb0 : Hid (Below w.heap.size w w) := Below.refl _ _
  by_cases hbig : 256 < n1
  · have hnb := Lib.hid (new_big delay A1 n1 c1 w hbig)
    go_enter Try.func7, Try.ntmps7
    go_wp2_with fail
    refine hnb.out.mono ?_; rintro e w2 ⟨⟨E, rfl, hE0⟩, hq⟩
    simp only [lkV]
    have hE1 : (E != 0) = true := by simpa using hE0
    have hb := Lib.hid (below_new hq (.cells #[Value.int .i64 0, Value.int .i64 0, Value.bool false, Value.int .i64 0, Value.slice none 0 0, Value.slice none 0 0] 25))
    clear hq hnb
    go_wp2_with fail
    refine (ex_any _).mono ?_; rintro e w5 ⟨rfl, hq⟩
    go_wp2_with fail
    go_ret
    exact ⟨rfl, hb.out.trans (hq.mono hb.out.size)⟩
  obtain ⟨E, hE⟩ : ∃ E, E = (newR delay lose).2 := ⟨_, rfl⟩
  have hlens := Lib.hid (new_lens delay lose)
  by_cases h250 : 250 < n2
  · have h250i : (250 : Int) < (n2 : Int) := by omega
    go_enter Try.func7, Try.ntmps7
    go_wp2_with fail
    refine (new_any delay A1 n1 c1 lose w h1.out ⟨hc1, hm1⟩ hi.out hdi (by omega)).mono ?_; rintro e w2 ⟨la0, rfl, -, -, -, hq⟩
    rw [← hE]
    simp only [lkV]
    have hb := Lib.hid (below_new hq (.cells #[Value.int .i64 la0.now, Value.int .i64 la0.delay, Value.bool la0.cut, Value.int .i64 la0.count, Value.slice la0.lA la0.ln la0.lc, Value.slice la0.bA la0.bn la0.bc] 25))
    clear hq
    by_cases hE0 : E = 0
    · have hE1 : (E != 0) = false := by simp [hE0]
      go_wp2_with fail
      refine (ex_any _).mono ?_; rintro e w5 ⟨rfl, hq⟩
      go_wp2_with fail
      go_ret
      exact ⟨rfl, hb.out.trans (hq.mono hb.out.size)⟩
    · have hE1 : (E != 0) = true := by simpa using hE0
      go_wp2_with fail
      refine (ex_any _).mono ?_; rintro e w5 ⟨rfl, hq⟩
      go_wp2_with fail
      go_ret
      exact ⟨rfl, hb.out.trans (hq.mono hb.out.size)⟩
  have h250i : ¬ (250 : Int) < (n2 : Int) := by omega
  go_enter Try.func7, Try.ntmps7
  go_wp2_with fail
  refine (new_any delay A1 n1 c1 lose w h1.out ⟨hc1, hm1⟩ hi.out hdi (by omega)).mono ?_; rintro e w2 ⟨la0, rfl, hoka, hva, hfa, hq⟩
  rw [← hE]
  simp only [lkV]
  have hA := Lib.hid (Blk.new w2 25 #[Value.int .i64 la0.now, Value.int .i64 la0.delay, Value.bool la0.cut, Value.int .i64 la0.count, Value.slice la0.lA la0.ln la0.lc, Value.slice la0.bA la0.bn la0.bc])
  have hoka2 : Hid (LkOk (w2.alloc (.cells #[Value.int .i64 la0.now, Value.int .i64 la0.delay, Value.bool la0.cut, Value.int .i64 la0.count, Value.slice la0.lA la0.ln la0.lc, Value.slice la0.bA la0.bn la0.bc] 25)) la0) := hoka.more (a1 w2 _)
  have hb2 : Hid (Below w.heap.size w (w2.alloc (.cells #[Value.int .i64 la0.now, Value.int .i64 la0.delay, Value.bool la0.cut, Value.int .i64 la0.count, Value.slice la0.lA la0.ln la0.lc, Value.slice la0.bA la0.bn la0.bc] 25))) := below_new hq (.cells #[Value.int .i64 la0.now, Value.int .i64 la0.delay, Value.bool la0.cut, Value.int .i64 la0.count, Value.slice la0.lA la0.ln la0.lc, Value.slice la0.bA la0.bn la0.bc] 25)
  have hlta := Lib.hid (LkOk_lt hoka)
  replace hva := Lib.hid hva
  replace hE := Lib.hid hE
  have hw2 : Hid (w.heap.size ≤ w2.heap.size) := hq.size
  clear hq hoka hfa
  by_cases hE0 : E ≠ 0
  · have hE1 : (E != 0) = true := by simpa using hE0
    have hb := hb2
    go_wp2_with fail
    refine (ex_any _).mono ?_; rintro e w5 ⟨rfl, hq⟩
    go_wp2_with fail
    go_ret
    exact ⟨rfl, hb.out.trans (hq.mono hb.out.size)⟩
  replace hE0 : E = 0 := by simpa using hE0
  subst hE0
  obtain ⟨hnw, hvl⟩ := new_err delay lose hE.out.symm
  have hv0 : Hid (la0.val = ⟨0, delay, false, 0, lose, boxOf []⟩) := by show _ = _; rw [hva.out, hnw]; rfl
  have hgd0 : Hid (Good ⟨0, delay, false, 0, lose, boxOf []⟩) := by show Good _; rw [← hv0.out, hva.out, hnw]; exact good_of _ hvl
  obtain ⟨g7, hg7⟩ : ∃ g7, g7 = w2.heap.size := ⟨_, rfl⟩
  go_wp2_with fail
  rw [← hg7] at hA hlta hw2 ⊢
  have hg7w := hw2
  generalize (w2.alloc (.cells #[Value.int .i64 la0.now, Value.int .i64 la0.delay, Value.bool la0.cut, Value.int .i64 la0.count, Value.slice la0.lA la0.ln la0.lc, Value.slice la0.bA la0.bn la0.bc] 25)) = w3 at *
  replace hg7 := Lib.hid hg7
  have hqa0 : Hid (LkQ (fun b => b ≠ g7 ∧ some b ≠ (Value.slice none 0 0).ownBlock) la0) := ⟨fun h0 ad e => by have := hlta.out.1 h0 ad e; exact ⟨by omega, by simp [Value.ownBlock]⟩, fun h0 ad e => by have := hlta.out.2.1 h0 ad e; exact ⟨by omega, by simp [Value.ownBlock]⟩, fun p hp h0 ad e => by have := hlta.out.2.2 p hp h0 ad e; exact ⟨by omega, by simp [Value.ownBlock]⟩⟩
  clear hva hlta hnw hvl hE hlens
  go_loopw [33, 9, 10, 11, 12] (fun i v9 v10 v11 v12 wr => ∃ (k : Nat) (la : Lk) (way : List Sn) (now number : Int) (cut : Bool), k ≤ n2 ∧ i = .int .i64 k ∧ v10 = .int .i64 now ∧ v11 = .int .i64 number ∧ v12 = .bool cut ∧ Hid (Blk wr g7 25 #[Value.int .i64 la.now, Value.int .i64 la.delay, Value.bool la.cut, Value.int .i64 la.count, Value.slice la.lA la.ln la.lc, Value.slice la.bA la.bn la.bc]) ∧ Hid (LkOk wr la) ∧ Hid (la.val = ⟨now, delay, cut, number, lose, boxOf way⟩) ∧ Hid (Good ⟨now, delay, cut, number, lose, boxOf way⟩) ∧ Hid (LkQ (fun b => b ≠ g7 ∧ some b ≠ v9.ownBlock) la) ∧ Hid (OOwn snC 2 57 wr (g7 + 1) v9 way) ∧ Hid (Below w.heap.size w wr) ∧ Hid (way.length ≤ k) ∧ 0 ≤ now ∧ now ≤ k ∧ 0 ≤ number ∧ number ≤ k) (fun i _ _ _ _ _ => n2 - (intOf i).toNat)
  case atStart => exact ⟨0, la0, [], 0, 0, false, Nat.zero_le _, rfl, rfl, rfl, rfl, hA.out, hoka2.out, hv0.out, hgd0.out, hqa0.out, OOwn.nil snC_len _ _, hb2.out, Nat.zero_le _, Int.le_refl _, Int.le_refl _, Int.le_refl _, Int.le_refl _⟩
  clear hA hoka2 hv0 hgd0 hqa0 hb2
  case round =>
    obtain ⟨k, la, way, now, number, cut, hkn, rfl, rfl, rfl, rfl, hA, hoka, hv, hgd, hqa, hway, hb, hwl, hn0, hnk, hc0, hck⟩ := hrel
    by_cases hlt : k < n2
    · have hkl : k < ops.length := by have := hn2.out; omega
      have hk0 : (0 : Int) ≤ k := by omega
      have hk1 : (k : Int) < n2 := by omega
      obtain ⟨ad, hAd, -, o0, o1⟩ := ox_cells (h2.out.below hb.out (Nat.le_refl _)) hlt
      have hox := Lib.hid (hx.out _ (List.getElem_mem hkl))
      generalize ops[k] = o at *
      obtain ⟨kd, oA, on, oc, od⟩ := o
      simp only at o0 o1
      subst hAd
      obtain ⟨Aw, cw, rfl, hcw, hcmw, hadw, -⟩ := hway.out.form
      replace hadw := Lib.hid hadw
      have hbX : Hid (Below wr.heap.size wr ((wr.alloc (.cells #[Value.int .i64 kd, Value.slice (some ⟨wr.heap.size + 1, 0, none⟩) 2 2] 48)).alloc (.cells #[Value.int .u8 number, Value.int .u8 (number / 256)] 5))) := (a1 wr _).alloc (by simp) _
      have hBt : Hid (BAt ((wr.alloc (.cells #[Value.int .i64 kd, Value.slice (some ⟨wr.heap.size + 1, 0, none⟩) 2 2] 48)).alloc (.cells #[Value.int .u8 number, Value.int .u8 (number / 256)] 5)) ((wr.alloc (.cells #[Value.int .i64 kd, Value.slice (some ⟨wr.heap.size + 1, 0, none⟩) 2 2] 48)).alloc (.cells #[Value.int .u8 number, Value.int .u8 (number / 256)] 5)).heap.size (some ⟨wr.heap.size + 1, 0, none⟩) 2 (nbs number)) := by
        have e := lit_at (e := 5) bC_len (wr.alloc (.cells #[Value.int .i64 kd, Value.slice (some ⟨wr.heap.size + 1, 0, none⟩) 2 2] 48)) (nbs number) #[Value.int .u8 number, Value.int .u8 (number / 256)] (by
          have e1 := nb_eq number
          have e2 := nb_eq (number / 256)
          rw [Int.emod_eq_of_lt (by omega) (by omega)] at e1 e2
          simp only [nbs, flat, List.flatMap_cons, List.flatMap_nil, bC, List.append_nil, List.singleton_append, e1, e2])
        rw [show (wr.alloc (.cells #[Value.int .i64 kd, Value.slice (some ⟨wr.heap.size + 1, 0, none⟩) 2 2] 48)).heap.size = wr.heap.size + 1 by simp] at e
        rw [show ((wr.alloc (.cells #[Value.int .i64 kd, Value.slice (some ⟨wr.heap.size + 1, 0, none⟩) 2 2] 48)).alloc (.cells #[Value.int .u8 number, Value.int .u8 (number / 256)] 5)).heap.size = wr.heap.size + 1 + 1 by simp]
        exact e
      have hA1 := Lib.hid (hA.out.below hbX.out hA.out.lt)
      have hXb : Hid (Blk ((wr.alloc (.cells #[Value.int .i64 kd, Value.slice (some ⟨wr.heap.size + 1, 0, none⟩) 2 2] 48)).alloc (.cells #[Value.int .u8 number, Value.int .u8 (number / 256)] 5)) wr.heap.size 48 #[Value.int .i64 kd, Value.slice (some ⟨wr.heap.size + 1, 0, none⟩) 2 2]) := (Blk.new wr 48 #[Value.int .i64 kd, Value.slice (some ⟨wr.heap.size + 1, 0, none⟩) 2 2]).alloc _
      have hpl := Lib.hid (play_any la ⟨kd, some ⟨wr.heap.size + 1, 0, none⟩, 2, 2, nbs number⟩ ((wr.alloc (.cells #[Value.int .i64 kd, Value.slice (some ⟨wr.heap.size + 1, 0, none⟩) 2 2] 48)).alloc (.cells #[Value.int .u8 number, Value.int .u8 (number / 256)] 5)) (hoka.out.more hbX.out) (sm_of (l := la) (by rw [hv.out]; exact hgd.out.sm)) ⟨⟨hBt.out, by show 2 ≤ 2; omega, by show 2 ≤ maxLen; decide⟩, hox.out.2⟩ (by have := hgd.out.nd; rw [← hv.out] at this; exact this))
      simp only [lkV] at hpl
      obtain ⟨r, hr⟩ : ∃ r, r = playL la.val kd (nbs number) := ⟨_, rfl⟩
      rw [← hr] at hpl
      have hq7 : Hid (g7 < wr.heap.size) := hA.out.lt
      obtain ⟨k0, k1, k2, k3, k4, k5⟩ := (show ((wr.alloc (.cells #[Value.int .i64 kd, Value.slice (some ⟨wr.heap.size + 1, 0, none⟩) 2 2] 48)).alloc (.cells #[Value.int .u8 number, Value.int .u8 (number / 256)] 5)).cell? ⟨g7, 0, none⟩ = some (Value.int .i64 la.now) ∧ ((wr.alloc (.cells #[Value.int .i64 kd, Value.slice (some ⟨wr.heap.size + 1, 0, none⟩) 2 2] 48)).alloc (.cells #[Value.int .u8 number, Value.int .u8 (number / 256)] 5)).cell? ⟨g7, 1, none⟩ = some (Value.int .i64 la.delay) ∧ ((wr.alloc (.cells #[Value.int .i64 kd, Value.slice (some ⟨wr.heap.size + 1, 0, none⟩) 2 2] 48)).alloc (.cells #[Value.int .u8 number, Value.int .u8 (number / 256)] 5)).cell? ⟨g7, 2, none⟩ = some (Value.bool la.cut) ∧ ((wr.alloc (.cells #[Value.int .i64 kd, Value.slice (some ⟨wr.heap.size + 1, 0, none⟩) 2 2] 48)).alloc (.cells #[Value.int .u8 number, Value.int .u8 (number / 256)] 5)).cell? ⟨g7, 3, none⟩ = some (Value.int .i64 la.count) ∧ ((wr.alloc (.cells #[Value.int .i64 kd, Value.slice (some ⟨wr.heap.size + 1, 0, none⟩) 2 2] 48)).alloc (.cells #[Value.int .u8 number, Value.int .u8 (number / 256)] 5)).cell? ⟨g7, 4, none⟩ = some (Value.slice la.lA la.ln la.lc) ∧ ((wr.alloc (.cells #[Value.int .i64 kd, Value.slice (some ⟨wr.heap.size + 1, 0, none⟩) 2 2] 48)).alloc (.cells #[Value.int .u8 number, Value.int .u8 (number / 256)] 5)).cell? ⟨g7, 5, none⟩ = some (Value.slice la.bA la.bn la.bc) from ⟨hA1.out.cell 0, hA1.out.cell 1, hA1.out.cell 2, hA1.out.cell 3, hA1.out.cell 4, hA1.out.cell 5⟩)
      obtain ⟨x0, x1⟩ := (show ((wr.alloc (.cells #[Value.int .i64 kd, Value.slice (some ⟨wr.heap.size + 1, 0, none⟩) 2 2] 48)).alloc (.cells #[Value.int .u8 number, Value.int .u8 (number / 256)] 5)).cell? ⟨wr.heap.size, 0, none⟩ = some (Value.int .i64 kd) ∧ ((wr.alloc (.cells #[Value.int .i64 kd, Value.slice (some ⟨wr.heap.size + 1, 0, none⟩) 2 2] 48)).alloc (.cells #[Value.int .u8 number, Value.int .u8 (number / 256)] 5)).cell? ⟨wr.heap.size, 1, none⟩ = some (Value.slice (some ⟨wr.heap.size + 1, 0, none⟩) 2 2) from ⟨hXb.out.cell 0, hXb.out.cell 1⟩)
      clear hBt hA
      have e8 : r.2.2 = 0 := by
        rw [hr, hv.out]
        exact ord_err hgd.out rfl (by have := hwl.out; omega) (by show number < _; omega) kd
      replace hr : Hid (r = playL ⟨now, delay, cut, number, lose, boxOf way⟩ kd (nbs number)) := by show _ = _; rw [hr, hv.out]
      by_cases q1 : kd = 1
      · subst q1
        have hrX : Hid (r = (⟨now, delay, cut, number + 1, lose, boxOf (addS ⟨now, delay, cut, number, lose, boxOf way⟩ way)⟩, [], 0)) := by
          show _ = _
          rw [hr.out]
          exact ord_send (v := ⟨now, delay, cut, number, lose, boxOf way⟩) rfl (by have := hwl.out; omega) (by show number < _; omega)
        have hgn : Hid (Good ⟨now, delay, cut, number + 1, lose, boxOf (addS ⟨now, delay, cut, number, lose, boxOf way⟩ way)⟩) := by
          have := hgd.out.play 1 (nbs number)
          rw [← hr.out, hrX.out] at this
          exact this
        cases hcut : cut with
        | true =>
          subst hcut
          have ha : Hid (addS ⟨now, delay, true, number, lose, boxOf way⟩ way = way) := by show _ = _; unfold addS; rw [if_neg (fun h => by simp at h)]
          go_wp2_with fail
          refine hpl.out.mono ?_; rintro e wd ⟨⟨l2, A6, n6, c6, C6, rfl, hok2, hv2, hC, hCd, hCm, hK2⟩, hq⟩
          rw [e8]
          simp only [lkV]
          have hq2 : Hid (LkQ (fun b => b ≠ g7 ∧ some b ≠ (Value.slice Aw way.length cw).ownBlock) l2) := hK2 _ hqa.out (fun b hb8 => ⟨by have := hbX.out.size; have := hq7.out; omega, fun e => by have := hway.out.blk_lt b e.symm; have := hbX.out.size; omega⟩)
          have hA2 := Lib.hid (hA1.out.below hq hA1.out.lt)
          have hX2 := Lib.hid (hXb.out.below hq hXb.out.lt)
          have hway2 := Lib.hid ((hway.out.kept hbX.out).kept hq)
          have hb2 := Lib.hid ((hb.out.trans (hbX.out.mono hb.out.size)).trans (hq.mono (Nat.le_trans hb.out.size hbX.out.size)))
          have hwdX : Hid (wr.heap.size < wd.heap.size) := Nat.lt_of_lt_of_le (by simp; omega) hq.size
          clear k0 k1 k2 k3 k4 k5 x0 x1 hpl hA1 hXb hway hb hbX hq hqa hK2 hoka
          have hg1 := Lib.hid (grown_set6 wd g7 (Value.int .i64 l2.now) (Value.int .i64 l2.delay) (Value.bool l2.cut) (Value.int .i64 l2.count) (Value.slice l2.lA l2.ln l2.lc) (Value.slice l2.bA l2.bn l2.bc))
          have hA := Lib.hid (lk_set6 hA2.out (Value.int .i64 l2.now) (Value.int .i64 l2.delay) (Value.bool l2.cut) (Value.int .i64 l2.count) (Value.slice l2.lA l2.ln l2.lc) (Value.slice l2.bA l2.bn l2.bc))
          have hX3 := Lib.hid (hX2.out.grown hg1.out (by intro e; injection e with e; have := hq7.out; omega))
          have hok := Lib.hid (LkOk_q hok2 (LkQ.left hq2.out) hg1.out)
          have hway := Lib.hid (hway2.out.far hg1.out (Nat.lt_succ_self _))
          have hb := Lib.hid (hb2.out.grown hg1.out hb2.out.size (fun g8 e8 => by injection e8 with e8; rw [← e8]; exact hg7w.out))
          have hC3 := Lib.hid (hC.grownB hA2.out (by decide) hg1.out)
          have hCd3 : Hid (∀ b ∈ C6, BOwn ((((((wd.setCell ⟨g7, 0, none⟩ (Value.int .i64 l2.now)).setCell ⟨g7, 1, none⟩ (Value.int .i64 l2.delay)).setCell ⟨g7, 2, none⟩ (Value.bool l2.cut)).setCell ⟨g7, 3, none⟩ (Value.int .i64 l2.count)).setCell ⟨g7, 4, none⟩ (Value.slice l2.lA l2.ln l2.lc)).setCell ⟨g7, 5, none⟩ (Value.slice l2.bA l2.bn l2.bc)) ((wr.alloc (.cells #[Value.int .i64 1, Value.slice (some ⟨wr.heap.size + 1, 0, none⟩) 2 2] 48)).alloc (.cells #[Value.int .u8 number, Value.int .u8 (number / 256)] 5)).heap.size (.slice b.A b.n b.c) b.d) := fun b hb => (hCd b hb).grownB hA2.out (by decide) hg1.out
          replace hv2 := Lib.hid hv2
          replace hCm := Lib.hid hCm
          obtain ⟨k0, k1, k2, k3, k4, k5, z0, z1, z2, z3, z4, z5⟩ := (show wd.cell? ⟨g7, 0, none⟩ = some (Value.int .i64 la.now) ∧ wd.cell? ⟨g7, 1, none⟩ = some (Value.int .i64 la.delay) ∧ wd.cell? ⟨g7, 2, none⟩ = some (Value.bool la.cut) ∧ wd.cell? ⟨g7, 3, none⟩ = some (Value.int .i64 la.count) ∧ wd.cell? ⟨g7, 4, none⟩ = some (Value.slice la.lA la.ln la.lc) ∧ wd.cell? ⟨g7, 5, none⟩ = some (Value.slice la.bA la.bn la.bc) ∧ wd.frozen? ⟨g7, 0, none⟩ = false ∧ wd.frozen? ⟨g7, 1, none⟩ = false ∧ wd.frozen? ⟨g7, 2, none⟩ = false ∧ wd.frozen? ⟨g7, 3, none⟩ = false ∧ wd.frozen? ⟨g7, 4, none⟩ = false ∧ wd.frozen? ⟨g7, 5, none⟩ = false from ⟨hA2.out.cell 0, hA2.out.cell 1, hA2.out.cell 2, hA2.out.cell 3, hA2.out.cell 4, hA2.out.cell 5, hA2.out.frozen 0, hA2.out.frozen 1, hA2.out.frozen 2, hA2.out.frozen 3, hA2.out.frozen 4, hA2.out.frozen 5⟩)
          obtain ⟨x0, x1⟩ := (show ((((((wd.setCell ⟨g7, 0, none⟩ (Value.int .i64 l2.now)).setCell ⟨g7, 1, none⟩ (Value.int .i64 l2.delay)).setCell ⟨g7, 2, none⟩ (Value.bool l2.cut)).setCell ⟨g7, 3, none⟩ (Value.int .i64 l2.count)).setCell ⟨g7, 4, none⟩ (Value.slice l2.lA l2.ln l2.lc)).setCell ⟨g7, 5, none⟩ (Value.slice l2.bA l2.bn l2.bc)).cell? ⟨wr.heap.size, 0, none⟩ = some (Value.int .i64 1) ∧ ((((((wd.setCell ⟨g7, 0, none⟩ (Value.int .i64 l2.now)).setCell ⟨g7, 1, none⟩ (Value.int .i64 l2.delay)).setCell ⟨g7, 2, none⟩ (Value.bool l2.cut)).setCell ⟨g7, 3, none⟩ (Value.int .i64 l2.count)).setCell ⟨g7, 4, none⟩ (Value.slice l2.lA l2.ln l2.lc)).setCell ⟨g7, 5, none⟩ (Value.slice l2.bA l2.bn l2.bc)).cell? ⟨wr.heap.size, 1, none⟩ = some (Value.slice (some ⟨wr.heap.size + 1, 0, none⟩) 2 2) from ⟨hX3.out.cell 0, hX3.out.cell 1⟩)
          clear hok2 hC hCd hA2 hX2 hway2 hb2 hg1
          go_wp2_with fail
          clear k0 k1 k2 k3 k4 k5 z0 z1 z2 z3 z4 z5 x0 x1
          go_roundw
          case rel => exact ⟨k + 1, l2, way, now, (number + 1), true, by omega, by go_num, rfl, by go_num, rfl, hA.out, hok.out, (by show _ = _; rw [hv2.out, hrX.out, ha.out]), (by show Good _; rw [← ha.out]; exact hgn.out), hq2.out, hway.out, hb.out, (by have := hwl.out; show way.length ≤ k + 1; omega), by omega, by omega, by omega, by omega⟩
          case measure => simp [intOf]; omega
        | false =>
          subst hcut
          have hc9 := Lib.hid (fun w9 (hb9 : Below w.heap.size w w9) => has_any A1 lose n1 c1 number w9 (h1.out.more hb9) (by omega))
          go_wp2_with fail
          refine hpl.out.mono ?_; rintro e wd ⟨⟨l2, A6, n6, c6, C6, rfl, hok2, hv2, hC, hCd, hCm, hK2⟩, hq⟩
          rw [e8]
          simp only [lkV]
          have hq2 : Hid (LkQ (fun b => b ≠ g7 ∧ some b ≠ (Value.slice Aw way.length cw).ownBlock) l2) := hK2 _ hqa.out (fun b hb8 => ⟨by have := hbX.out.size; have := hq7.out; omega, fun e => by have := hway.out.blk_lt b e.symm; have := hbX.out.size; omega⟩)
          have hA2 := Lib.hid (hA1.out.below hq hA1.out.lt)
          have hX2 := Lib.hid (hXb.out.below hq hXb.out.lt)
          have hway2 := Lib.hid ((hway.out.kept hbX.out).kept hq)
          have hb2 := Lib.hid ((hb.out.trans (hbX.out.mono hb.out.size)).trans (hq.mono (Nat.le_trans hb.out.size hbX.out.size)))
          have hwdX : Hid (wr.heap.size < wd.heap.size) := Nat.lt_of_lt_of_le (by simp; omega) hq.size
          clear k0 k1 k2 k3 k4 k5 x0 x1 hpl hA1 hXb hway hb hbX hq hqa hK2 hoka
          have hg1 := Lib.hid (grown_set6 wd g7 (Value.int .i64 l2.now) (Value.int .i64 l2.delay) (Value.bool l2.cut) (Value.int .i64 l2.count) (Value.slice l2.lA l2.ln l2.lc) (Value.slice l2.bA l2.bn l2.bc))
          have hA := Lib.hid (lk_set6 hA2.out (Value.int .i64 l2.now) (Value.int .i64 l2.delay) (Value.bool l2.cut) (Value.int .i64 l2.count) (Value.slice l2.lA l2.ln l2.lc) (Value.slice l2.bA l2.bn l2.bc))
          have hX3 := Lib.hid (hX2.out.grown hg1.out (by intro e; injection e with e; have := hq7.out; omega))
          have hok := Lib.hid (LkOk_q hok2 (LkQ.left hq2.out) hg1.out)
          have hway := Lib.hid (hway2.out.far hg1.out (Nat.lt_succ_self _))
          have hb := Lib.hid (hb2.out.grown hg1.out hb2.out.size (fun g8 e8 => by injection e8 with e8; rw [← e8]; exact hg7w.out))
          have hC3 := Lib.hid (hC.grownB hA2.out (by decide) hg1.out)
          have hCd3 : Hid (∀ b ∈ C6, BOwn ((((((wd.setCell ⟨g7, 0, none⟩ (Value.int .i64 l2.now)).setCell ⟨g7, 1, none⟩ (Value.int .i64 l2.delay)).setCell ⟨g7, 2, none⟩ (Value.bool l2.cut)).setCell ⟨g7, 3, none⟩ (Value.int .i64 l2.count)).setCell ⟨g7, 4, none⟩ (Value.slice l2.lA l2.ln l2.lc)).setCell ⟨g7, 5, none⟩ (Value.slice l2.bA l2.bn l2.bc)) ((wr.alloc (.cells #[Value.int .i64 1, Value.slice (some ⟨wr.heap.size + 1, 0, none⟩) 2 2] 48)).alloc (.cells #[Value.int .u8 number, Value.int .u8 (number / 256)] 5)).heap.size (.slice b.A b.n b.c) b.d) := fun b hb => (hCd b hb).grownB hA2.out (by decide) hg1.out
          replace hv2 := Lib.hid hv2
          replace hCm := Lib.hid hCm
          obtain ⟨k0, k1, k2, k3, k4, k5, z0, z1, z2, z3, z4, z5⟩ := (show wd.cell? ⟨g7, 0, none⟩ = some (Value.int .i64 la.now) ∧ wd.cell? ⟨g7, 1, none⟩ = some (Value.int .i64 la.delay) ∧ wd.cell? ⟨g7, 2, none⟩ = some (Value.bool la.cut) ∧ wd.cell? ⟨g7, 3, none⟩ = some (Value.int .i64 la.count) ∧ wd.cell? ⟨g7, 4, none⟩ = some (Value.slice la.lA la.ln la.lc) ∧ wd.cell? ⟨g7, 5, none⟩ = some (Value.slice la.bA la.bn la.bc) ∧ wd.frozen? ⟨g7, 0, none⟩ = false ∧ wd.frozen? ⟨g7, 1, none⟩ = false ∧ wd.frozen? ⟨g7, 2, none⟩ = false ∧ wd.frozen? ⟨g7, 3, none⟩ = false ∧ wd.frozen? ⟨g7, 4, none⟩ = false ∧ wd.frozen? ⟨g7, 5, none⟩ = false from ⟨hA2.out.cell 0, hA2.out.cell 1, hA2.out.cell 2, hA2.out.cell 3, hA2.out.cell 4, hA2.out.cell 5, hA2.out.frozen 0, hA2.out.frozen 1, hA2.out.frozen 2, hA2.out.frozen 3, hA2.out.frozen 4, hA2.out.frozen 5⟩)
          obtain ⟨x0, x1⟩ := (show ((((((wd.setCell ⟨g7, 0, none⟩ (Value.int .i64 l2.now)).setCell ⟨g7, 1, none⟩ (Value.int .i64 l2.delay)).setCell ⟨g7, 2, none⟩ (Value.bool l2.cut)).setCell ⟨g7, 3, none⟩ (Value.int .i64 l2.count)).setCell ⟨g7, 4, none⟩ (Value.slice l2.lA l2.ln l2.lc)).setCell ⟨g7, 5, none⟩ (Value.slice l2.bA l2.bn l2.bc)).cell? ⟨wr.heap.size, 0, none⟩ = some (Value.int .i64 1) ∧ ((((((wd.setCell ⟨g7, 0, none⟩ (Value.int .i64 l2.now)).setCell ⟨g7, 1, none⟩ (Value.int .i64 l2.delay)).setCell ⟨g7, 2, none⟩ (Value.bool l2.cut)).setCell ⟨g7, 3, none⟩ (Value.int .i64 l2.count)).setCell ⟨g7, 4, none⟩ (Value.slice l2.lA l2.ln l2.lc)).setCell ⟨g7, 5, none⟩ (Value.slice l2.bA l2.bn l2.bc)).cell? ⟨wr.heap.size, 1, none⟩ = some (Value.slice (some ⟨wr.heap.size + 1, 0, none⟩) 2 2) from ⟨hX3.out.cell 0, hX3.out.cell 1⟩)
          clear hok2 hC hCd hA2 hX2 hway2 hb2 hg1
          go_wp2_with fail
          clear k0 k1 k2 k3 k4 k5 z0 z1 z2 z3 z4 z5 x0 x1
          generalize ((((((wd.setCell ⟨g7, 0, none⟩ (Value.int .i64 l2.now)).setCell ⟨g7, 1, none⟩ (Value.int .i64 l2.delay)).setCell ⟨g7, 2, none⟩ (Value.bool l2.cut)).setCell ⟨g7, 3, none⟩ (Value.int .i64 l2.count)).setCell ⟨g7, 4, none⟩ (Value.slice l2.lA l2.ln l2.lc)).setCell ⟨g7, 5, none⟩ (Value.slice l2.bA l2.bn l2.bc)) = ws at *
          refine (hc9.out ws hb.out).mono ?_; rintro e wt ⟨rfl, hq⟩
          have hA := Lib.hid (hA.out.below hq hA.out.lt)
          have hok := Lib.hid (hok.out.more hq)
          have hway := Lib.hid (hway.out.kept hq)
          have hwsz : Hid (wr.heap.size ≤ wt.heap.size) := Nat.le_trans (by have := hwdX.out; have := hX3.out.lt; omega) hq.size
          have hb := Lib.hid (hb.out.trans (hq.mono hb.out.size))
          clear hq hc9 hC3 hCd3 hX3
          cases hct : lose.contains number with
          | true =>
            have ha : Hid (addS ⟨now, delay, false, number, lose, boxOf way⟩ way = way) := by show _ = _; unfold addS; rw [if_neg (fun h => by rw [hct] at h; simp at h)]
            clear hct
            go_wp2_with fail
            go_roundw
            case rel => exact ⟨k + 1, l2, way, now, (number + 1), false, by omega, by go_num, rfl, by go_num, rfl, hA.out, hok.out, (by show _ = _; rw [hv2.out, hrX.out, ha.out]), (by show Good _; rw [← ha.out]; exact hgn.out), hq2.out, hway.out, hb.out, (by have := hwl.out; show way.length ≤ k + 1; omega), by omega, by omega, by omega, by omega⟩
            case measure => simp [intOf]; omega
          | false =>
            have ha : Hid (addS ⟨now, delay, false, number, lose, boxOf way⟩ way = way ++ [⟨number, now + delay⟩]) := by show _ = _; unfold addS; rw [if_pos ⟨rfl, hct⟩]
            clear hct
            obtain ⟨i57, hi57, hz570, hz571, hz572⟩ := info_parts sn_info
            replace hi57 := Lib.hid hi57
            replace hz570 := Lib.hid hz570
            replace hz571 := Lib.hid hz571
            replace hz572 := Lib.hid hz572
            have hdl : 1 ≤ delay ∧ delay ≤ 60 := ⟨hgd.out.del0, hgd.out.del1⟩
            have hnd2 : IntKind.i64.wrap (now + delay) = now + delay := IntWalk.i64_in _ (by omega)
            have hwayL : Hid (OOwn snC 2 57 (wt.alloc (.cells #[Value.int .i64 number, Value.int .i64 (now + delay)] 57)) (g7 + 1) (Value.slice Aw way.length cw) way) := hway.out.kept (a1 wt _)
            have hAL := Lib.hid (hA.out.alloc (.cells #[Value.int .i64 number, Value.int .i64 (now + delay)] 57))
            have hokL := Lib.hid (hok.out.more (a1 wt (.cells #[Value.int .i64 number, Value.int .i64 (now + delay)] 57)))
            have hbL : Hid (Below w.heap.size w (wt.alloc (.cells #[Value.int .i64 number, Value.int .i64 (now + delay)] 57))) := hb.out.alloc hb.out.size _
            have hrd : Hid (Reads (wt.alloc (.cells #[Value.int .i64 number, Value.int .i64 (now + delay)] 57)) (wt.heap.size + 1) 2 (some ⟨wt.heap.size, 0, none⟩) 1 (snC ⟨number, now + delay⟩)) := by
              have e := (lit_at (e := 57) snC_len wt [(⟨number, now + delay⟩ : Sn)] #[Value.int .i64 number, Value.int .i64 (now + delay)] (by simp [flat, snC])).2
              rw [flat_one] at e
              exact e
            have hwl9 := hwl.out
            have hg78 : g7 < wt.heap.size := hA.out.lt
            have hlt2 := Lib.hid (LkOk_lt hok.out)
            go_wp2_with (at_builtin; refine wpList_append_off _ rfl (.tmp 68) (.tmp 74) _ rfl (g7 + 1) 57 i57 _ 2 16 Try.underlying53 hi57.out hz570.out hz571.out hz572.out rfl (by omega) (Value.slice Aw way.length cw) rfl hwayL.out (wt.heap.size + 1) (some ⟨wt.heap.size, 0, none⟩) 1 ⟨number, now + delay⟩ rfl hrd.out (sn_one _) (by simp only [maxLen]; omega) (by omega) (by simp; omega) ?_
                         intro v' w1 hown1 hg1 hat1)
            have hq5 := Lib.hid (LkQ.app hq2.out hlt2.out hat1 (by simp))
            have hA := Lib.hid (hAL.out.grown hg1 (by intro e; have := hwayL.out.blk_lt g7 e.symm; omega))
            have hok := Lib.hid (LkOk_qO hokL.out (LkQ.right hq2.out) hg1)
            have hb := Lib.hid (hbL.out.grown hg1 hbL.out.size (fun g8 e8 => by have := hwayL.out.blk_lt g8 e8; have := hg7w.out; omega))
            clear hg1 hat1 hwayL hAL hokL hbL
            go_roundw
            case rel => exact ⟨k + 1, l2, (way ++ [(⟨number, now + delay⟩ : Sn)]), now, (number + 1), false, by omega, by go_num, rfl, by go_num, rfl, hA.out, hok.out, (by show _ = _; rw [hv2.out, hrX.out, ha.out]), (by show Good _; rw [← ha.out]; exact hgn.out), hq5.out, hown1, hb.out, (by rw [List.length_append]; show way.length + 1 ≤ k + 1; omega), by omega, by omega, by omega, by omega⟩
            case measure => simp [intOf]; omega
      · have q1d : (kd == 1) = false := by simpa using q1
        by_cases q2 : kd = 2
        · subst q2
          have hrX : Hid (r = ((tickL ⟨now, delay, cut, number, lose, boxOf way⟩).1, (tickL ⟨now, delay, cut, number, lose, boxOf way⟩).2, 0)) := by show _ = _; rw [hr.out]; rfl
          go_wp2_with fail
          refine hpl.out.mono ?_; rintro e wd ⟨⟨l2, A6, n6, c6, C6, rfl, hok2, hv2, hC, hCd, hCm, hK2⟩, hq⟩
          rw [e8]
          simp only [lkV]
          have hq2 : Hid (LkQ (fun b => b ≠ g7 ∧ some b ≠ (Value.slice Aw way.length cw).ownBlock) l2) := hK2 _ hqa.out (fun b hb8 => ⟨by have := hbX.out.size; have := hq7.out; omega, fun e => by have := hway.out.blk_lt b e.symm; have := hbX.out.size; omega⟩)
          have hA2 := Lib.hid (hA1.out.below hq hA1.out.lt)
          have hX2 := Lib.hid (hXb.out.below hq hXb.out.lt)
          have hway2 := Lib.hid ((hway.out.kept hbX.out).kept hq)
          have hb2 := Lib.hid ((hb.out.trans (hbX.out.mono hb.out.size)).trans (hq.mono (Nat.le_trans hb.out.size hbX.out.size)))
          have hwdX : Hid (wr.heap.size < wd.heap.size) := Nat.lt_of_lt_of_le (by simp; omega) hq.size
          clear k0 k1 k2 k3 k4 k5 x0 x1 hpl hA1 hXb hway hb hbX hq hqa hK2 hoka
          have hg1 := Lib.hid (grown_set6 wd g7 (Value.int .i64 l2.now) (Value.int .i64 l2.delay) (Value.bool l2.cut) (Value.int .i64 l2.count) (Value.slice l2.lA l2.ln l2.lc) (Value.slice l2.bA l2.bn l2.bc))
          have hA := Lib.hid (lk_set6 hA2.out (Value.int .i64 l2.now) (Value.int .i64 l2.delay) (Value.bool l2.cut) (Value.int .i64 l2.count) (Value.slice l2.lA l2.ln l2.lc) (Value.slice l2.bA l2.bn l2.bc))
          have hX3 := Lib.hid (hX2.out.grown hg1.out (by intro e; injection e with e; have := hq7.out; omega))
          have hok := Lib.hid (LkOk_q hok2 (LkQ.left hq2.out) hg1.out)
          have hway := Lib.hid (hway2.out.far hg1.out (Nat.lt_succ_self _))
          have hb := Lib.hid (hb2.out.grown hg1.out hb2.out.size (fun g8 e8 => by injection e8 with e8; rw [← e8]; exact hg7w.out))
          have hC3 := Lib.hid (hC.grownB hA2.out (by decide) hg1.out)
          have hCd3 : Hid (∀ b ∈ C6, BOwn ((((((wd.setCell ⟨g7, 0, none⟩ (Value.int .i64 l2.now)).setCell ⟨g7, 1, none⟩ (Value.int .i64 l2.delay)).setCell ⟨g7, 2, none⟩ (Value.bool l2.cut)).setCell ⟨g7, 3, none⟩ (Value.int .i64 l2.count)).setCell ⟨g7, 4, none⟩ (Value.slice l2.lA l2.ln l2.lc)).setCell ⟨g7, 5, none⟩ (Value.slice l2.bA l2.bn l2.bc)) ((wr.alloc (.cells #[Value.int .i64 2, Value.slice (some ⟨wr.heap.size + 1, 0, none⟩) 2 2] 48)).alloc (.cells #[Value.int .u8 number, Value.int .u8 (number / 256)] 5)).heap.size (.slice b.A b.n b.c) b.d) := fun b hb => (hCd b hb).grownB hA2.out (by decide) hg1.out
          replace hv2 := Lib.hid hv2
          replace hCm := Lib.hid hCm
          obtain ⟨k0, k1, k2, k3, k4, k5, z0, z1, z2, z3, z4, z5⟩ := (show wd.cell? ⟨g7, 0, none⟩ = some (Value.int .i64 la.now) ∧ wd.cell? ⟨g7, 1, none⟩ = some (Value.int .i64 la.delay) ∧ wd.cell? ⟨g7, 2, none⟩ = some (Value.bool la.cut) ∧ wd.cell? ⟨g7, 3, none⟩ = some (Value.int .i64 la.count) ∧ wd.cell? ⟨g7, 4, none⟩ = some (Value.slice la.lA la.ln la.lc) ∧ wd.cell? ⟨g7, 5, none⟩ = some (Value.slice la.bA la.bn la.bc) ∧ wd.frozen? ⟨g7, 0, none⟩ = false ∧ wd.frozen? ⟨g7, 1, none⟩ = false ∧ wd.frozen? ⟨g7, 2, none⟩ = false ∧ wd.frozen? ⟨g7, 3, none⟩ = false ∧ wd.frozen? ⟨g7, 4, none⟩ = false ∧ wd.frozen? ⟨g7, 5, none⟩ = false from ⟨hA2.out.cell 0, hA2.out.cell 1, hA2.out.cell 2, hA2.out.cell 3, hA2.out.cell 4, hA2.out.cell 5, hA2.out.frozen 0, hA2.out.frozen 1, hA2.out.frozen 2, hA2.out.frozen 3, hA2.out.frozen 4, hA2.out.frozen 5⟩)
          obtain ⟨x0, x1⟩ := (show ((((((wd.setCell ⟨g7, 0, none⟩ (Value.int .i64 l2.now)).setCell ⟨g7, 1, none⟩ (Value.int .i64 l2.delay)).setCell ⟨g7, 2, none⟩ (Value.bool l2.cut)).setCell ⟨g7, 3, none⟩ (Value.int .i64 l2.count)).setCell ⟨g7, 4, none⟩ (Value.slice l2.lA l2.ln l2.lc)).setCell ⟨g7, 5, none⟩ (Value.slice l2.bA l2.bn l2.bc)).cell? ⟨wr.heap.size, 0, none⟩ = some (Value.int .i64 2) ∧ ((((((wd.setCell ⟨g7, 0, none⟩ (Value.int .i64 l2.now)).setCell ⟨g7, 1, none⟩ (Value.int .i64 l2.delay)).setCell ⟨g7, 2, none⟩ (Value.bool l2.cut)).setCell ⟨g7, 3, none⟩ (Value.int .i64 l2.count)).setCell ⟨g7, 4, none⟩ (Value.slice l2.lA l2.ln l2.lc)).setCell ⟨g7, 5, none⟩ (Value.slice l2.bA l2.bn l2.bc)).cell? ⟨wr.heap.size, 1, none⟩ = some (Value.slice (some ⟨wr.heap.size + 1, 0, none⟩) 2 2) from ⟨hX3.out.cell 0, hX3.out.cell 1⟩)
          clear hok2 hC hCd hA2 hX2 hway2 hb2 hg1
          have hnw : IntKind.i64.wrap (now + 1) = now + 1 := IntWalk.i64_in _ (by omega)
          go_wp2_with fail
          clear k0 k1 k2 k3 k4 k5 z0 z1 z2 z3 z4 z5 x0 x1
          generalize ((((((wd.setCell ⟨g7, 0, none⟩ (Value.int .i64 l2.now)).setCell ⟨g7, 1, none⟩ (Value.int .i64 l2.delay)).setCell ⟨g7, 2, none⟩ (Value.bool l2.cut)).setCell ⟨g7, 3, none⟩ (Value.int .i64 l2.count)).setCell ⟨g7, 4, none⟩ (Value.slice l2.lA l2.ln l2.lc)).setCell ⟨g7, 5, none⟩ (Value.slice l2.bA l2.bn l2.bc)) = ws at *
          replace hC3 := Lib.hid (hC3.out.mono (Nat.zero_le _))
          replace hCd3 : Hid (∀ b ∈ C6, BOwn ws 0 (.slice b.A b.n b.c) b.d) := fun b hb => (hCd3.out b hb).mono (Nat.zero_le _)
          have hCm6 := hCm
          clear hCm
          go_loopw [9, 16] (fun v9 v16 wz => ∃ (P R : List Sn) (A9 : Option Addr) (m c9 : Nat) (C : List Bs), Hid (way = P ++ R) ∧ Hid (R.length = m) ∧ v9 = .slice A9 m c9 ∧ Hid (OOwn snC 2 57 ws (g7 + 1) (.slice A9 m c9) R) ∧ Hid (LOwn sC 1 27 wz ws.heap.size v16 C) ∧ Hid (∀ b ∈ C, BOwn wz ws.heap.size (.slice b.A b.n b.c) b.d) ∧ Hid (C.map (·.d) = if cut then [] else P.map (fun s => nbs s.number)) ∧ Hid (∀ s ∈ P, s.due = now + 1) ∧ Hid ((Value.slice A9 m c9).ownBlock = (Value.slice Aw way.length cw).ownBlock) ∧ Hid (Below ws.heap.size ws wz)) (fun v9 _ _ => lenV v9)
          case atStart => exact ⟨[], way, Aw, way.length, cw, [], rfl, rfl, rfl, hway.out, LOwn.nil sC_len _ _, fun b hb => by simp at hb, by show _ = _; simp, fun s hs => by simp at hs, rfl, Below.refl _ _⟩
          case round =>
            obtain ⟨P, R, A9, m, c9, C, hPR, hRm, rfl, hR, hC, hCd, hCm, hPd, hob, hbz⟩ := hrel
            cases R with
            | nil =>
              obtain rfl : 0 = m := hRm.out
              have hex : Hid (∀ s, ([] : List Sn).head? = some s → s.due ≠ now + 1) := fun s hs => by simp at hs
              obtain ⟨A16, c16, rfl, -, -, -, -⟩ := hC.out.form
              have hT := ord_tick hgd.out rfl (by show now < _; omega) P.length (nbs number) (by
                intro s hs
                rw [hPR.out, List.take_left] at hs
                exact hPd.out s hs) (by
                intro s hs
                rw [hPR.out, List.drop_left] at hs
                exact hex.out s hs)
              rw [← hr.out] at hT
              rw [show way.drop P.length = [] by rw [hPR.out, List.drop_left], show way.take P.length = P by rw [hPR.out, List.take_left]] at hT
              have hTv : Hid (l2.val = ⟨now + 1, delay, cut, number, lose, boxOf []⟩) := by show _ = _; rw [hv2.out, hT]
              have hTc : Hid (C6.map (·.d) = C.map (·.d)) := by show _ = _; rw [hCm6.out, hCm.out, hT]
              have hgn : Hid (Good ⟨now + 1, delay, cut, number, lose, boxOf []⟩) := by
                have := hgd.out.play 2 (nbs number)
                rw [← hr.out, hT] at this
                exact this
              clear hT
              have hlw : Hid (P.length + ([] : List Sn).length ≤ 250) := by
                have e2 := congrArg List.length hPR.out
                have e3 := hwl.out
                rw [List.length_append] at e2
                show _ ≤ _
                omega
              have hC6 := Lib.hid (rows_at (hC3.out.kept hbz.out))
              have hn6 : n6 ≤ 1000 := by
                have e1 := congrArg List.length hTc.out
                have e2 := congrArg List.length hCm.out
                have e3 := hC6.out.len
                have e4 := hlw.out
                rw [List.length_map, List.length_map] at e1
                rw [List.length_map] at e2
                split at e2
                · have e5 : C.length = 0 := e2
                  omega
                · rw [List.length_map] at e2; omega
              have hsd := Lib.hid (sameData_any A6 A16 n6 c6 C.length c16 C6 C wr hC6.out (rows_at hC.out) (fun b hb => bs_of_own ((hCd3.out b hb).kept hbz.out)) (fun b hb => bs_of_own (hCd.out b hb)) hTc.out (by omega))
              have hA := Lib.hid (hA.out.below hbz.out hA.out.lt)
              have hok := Lib.hid (hok.out.more hbz.out)
              have hRw := Lib.hid (hR.out.kept hbz.out)
              have hb := Lib.hid (hb.out.trans (hbz.out.mono hb.out.size))
              have hqn : Hid (LkQ (fun b => b ≠ g7 ∧ some b ≠ (Value.slice A9 0 c9).ownBlock) l2) := by rw [hob.out]; exact hq2.out
              clear hC3 hCd3 hC6 hCd hCm hCm6 hC hR hob
              go_wp2_with fail
              refine hsd.out.mono ?_; rintro e wh ⟨rfl, rfl⟩
              clear hsd
              go_wp2_with fail
              go_roundw
              case rel => exact ⟨k + 1, l2, [], (now + 1), number, cut, by omega, by go_num, rfl, by go_num, rfl, hA.out, hok.out, hTv.out, hgn.out, hqn.out, hRw.out, hb.out, (by have := hlw.out; have e2 := congrArg List.length hPR.out; rw [List.length_append] at e2; have := hwl.out; show List.length _ ≤ k + 1; omega), by omega, by omega, by omega, by omega⟩
              case measure => simp [intOf]; omega

            | cons s R =>
              obtain ⟨sn, sd⟩ := s
              obtain ⟨Aq, cq, e9, hcq, hcmq, hadq, hatq⟩ := (hR.out.kept hbz.out).form
              injection e9 with e1 e2 e3
              subst e1
              subst e3
              have hm0 : (0 : Int) < m := by rw [e2]; simp
              clear e2
              obtain ⟨ad, rfl, -, hcl⟩ := hatq.at_ (k := 0) (by simp)
              obtain ⟨hlit, hg8, -⟩ := hadq ad rfl
              have n0 := hcl 0 _ rfl
              have n1 := hcl 1 _ rfl
              obtain ⟨gw, ow, pw⟩ := ad
              simp only [Addr.mk.injEq, true_and] at hlit
              obtain rfl := hlit
              rw [Addr.add_lit] at n0 n1
              simp only [List.getElem_cons_zero, Nat.zero_mul, Nat.add_zero, Nat.zero_add] at n0 n1
              (try simp only at n0 n1)
              have hg8i : g7 < gw := hg8
              clear hg8 hadq hcl hatq hcq hcmq
              by_cases hd : sd = now + 1
              · subst hd
                cases hcut : cut with
                | true =>
                  subst hcut
                  obtain ⟨hR2, hob2⟩ := pop_at hR.out
                  replace hR2 := Lib.hid hR2
                  replace hob2 := Lib.hid hob2
                  go_wp2_with fail
                  go_roundw
                  case rel => exact ⟨P ++ [⟨sn, now + 1⟩], R, _, m - 1, _, C, by show _ = _; rw [hPR.out]; simp, by have := hRm.out; show R.length = m - 1; simp at this; omega, rfl, hR2.out, hC.out, hCd.out, by show _ = _; rw [hCm.out]; rfl, fun s hs => by rcases List.mem_append.1 hs with hs | hs; exact hPd.out s hs; simp at hs; rw [hs], hob2.out.trans hob.out, hbz.out⟩
                  case measure => simp [lenV]; omega
                | false =>
                  subst hcut
                  obtain ⟨hR2, hob2⟩ := pop_at hR.out
                  replace hR2 := Lib.hid hR2
                  replace hob2 := Lib.hid hob2
                  obtain ⟨A16, c16, rfl, hc16, hm16, hf16, -⟩ := hC.out.form
                  replace hf16 := Lib.hid hf16
                  have hcel : Hid (∀ wz, Below wr.heap.size wr wz → wz.cell? ⟨gw, ow, none⟩ = some (.int .i64 sn) ∧ wz.cell? ⟨gw, ow + 1, none⟩ = some (.int .i64 (now + 1))) := fun wz hz => by
                    have h8 : OOwn snC 2 57 wz (g7 + 1) (.slice (some ⟨gw, ow, none⟩) m c9) (⟨sn, now + 1⟩ :: R) := hR.out.kept (hbz.out.trans (hz.mono hbz.out.size))
                    obtain ⟨Aq, cq, e9, -, -, -, hatq⟩ := h8.form
                    injection e9 with e1 _ _
                    subst e1
                    obtain ⟨ad8, e8, -, hcl⟩ := hatq.at_ (k := 0) (by simp)
                    injection e8 with e8
                    subst e8
                    have q0 := hcl 0 _ rfl
                    have q1 := hcl 1 _ rfl
                    rw [Addr.add_lit] at q0 q1
                    simp only [List.getElem_cons_zero, Nat.zero_mul, Nat.add_zero, Nat.zero_add] at q0 q1
                    exact ⟨q0, q1⟩
                  have hbs : Hid (ws.heap.size ≤ wr.heap.size) := hbz.out.size
                  have hCl : Hid (C.length ≤ 250) := by
                    have e1 := congrArg List.length hCm.out
                    have e2 := congrArg List.length hPR.out
                    have e3 := hwl.out
                    rw [if_neg (by decide), List.length_map, List.length_map] at e1
                    rw [List.length_append] at e2
                    show _ ≤ _
                    omega
                  go_wp2_with fail
                  refine RUZ.region [] [] 14 (F := F25 gw ow m c9 ws.heap.size sn (Value.slice A16 C.length c16)) (W := fun wz => Below wr.heap.size wr wz) (R := fun _ => Rb) rfl F25_more (by kernel_rfl) (by kernel_rfl) (by kernel_rfl) (by kernel_rfl) (by kernel_rfl) (by kernel_rfl) ?_ ?_ ?_ ?_
                  · exact (Below.refl _ _).drew
                  · intro t ht
                    unfold F25
                    split <;> first | trivial | exact rfl | (exact absurd ht (by decide))
                  · intro i o hi ho
                    have hcs : i = 0 ∨ i = 1 ∨ i = 2 ∨ i = 3 ∨ i = 4 ∨ i = 5 ∨ i = 6 ∨ i = 7 ∨ i = 8 ∨ i = 9 ∨ i = 10 ∨ i = 11 ∨ i = 12 ∨ i = 13 := by omega
                    rcases hcs with rfl | rfl | rfl | rfl | rfl | rfl | rfl | rfl | rfl | rfl | rfl | rfl | rfl | rfl <;> (injection ho with ho; subst ho)
                    · intro a w2 hw _ hf K hK
                      have f0 := hf 16 rfl
                      simp only [F25] at f0
                      clear hf
                      go_simp
                      exact hK _ _ _ rfl rfl hw (Below.refl _ _) (fun h => absurd h (by decide))
                    · intro a w2 hw _ hf K hK
                      have f0 := hf 9 rfl
                      simp only [F25] at f0
                      clear hf
                      go_simp
                      exact hK _ _ _ rfl rfl hw (Below.refl _ _) (fun h => absurd h (by decide))
                    · intro a w2 hw _ hf K hK
                      have f0 := hf 96 rfl
                      simp only [F25] at f0
                      clear hf
                      go_simp
                      exact hK _ _ _ rfl rfl hw (Below.refl _ _) (fun h => absurd h (by decide))
                    · intro a w2 hw _ hf K hK
                      have f0 := hf 97 rfl
                      simp only [F25] at f0
                      clear hf
                      go_simp
                      exact hK _ _ _ rfl rfl hw (Below.refl _ _) (fun h => absurd h (by decide))
                    · intro a w2 hw _ hf K hK
                      have f0 := hf 98 rfl
                      simp only [F25] at f0
                      clear hf
                      obtain ⟨c0, c1⟩ := hcel.out w2 hw
                      go_simp
                      exact hK _ _ _ rfl rfl hw (Below.refl _ _) (fun h => absurd h (by decide))
                    · intro a w2 hw _ hf K hK
                      have f0 := hf 99 rfl
                      simp only [F25] at f0
                      clear hf
                      go_simp
                      exact hK _ _ _ rfl rfl hw (Below.refl _ _) (fun h => absurd h (by decide))
                    · intro a w2 hw _ hf K hK
                      have f0 := hf 9 rfl
                      simp only [F25] at f0
                      clear hf
                      go_simp
                      exact hK _ _ _ rfl rfl hw (Below.refl _ _) (fun h => absurd h (by decide))
                    · intro a w2 hw _ hf K hK
                      have f0 := hf 101 rfl
                      simp only [F25] at f0
                      clear hf
                      go_simp
                      exact hK _ _ _ rfl rfl hw (Below.refl _ _) (fun h => absurd h (by decide))
                    · intro a w2 hw _ hf K hK
                      have f0 := hf 102 rfl
                      simp only [F25] at f0
                      clear hf
                      go_simp
                      exact hK _ _ _ rfl rfl hw (Below.refl _ _) (fun h => absurd h (by decide))
                    · intro a w2 hw _ hf K hK
                      have f0 := hf 103 rfl
                      simp only [F25] at f0
                      clear hf
                      obtain ⟨c0, c1⟩ := hcel.out w2 hw
                      go_simp
                      exact hK _ _ _ rfl rfl hw (Below.refl _ _) (fun h => absurd h (by decide))
                    · intro a w2 hw _ hf K hK
                      have f0 := hf 104 rfl
                      simp only [F25] at f0
                      clear hf
                      go_simp
                      exact hK _ _ _ rfl rfl hw (Below.refl _ _) (fun h => absurd h (by decide))
                    · intro a w2 hw _ hf K hK
                      have f0 := hf 105 rfl
                      simp only [F25] at f0
                      clear hf
                      go_simp
                      exact hK _ _ _ rfl rfl hw (Below.refl _ _) (fun h => absurd h (by decide))
                    · intro a w2 hw _ hf K hK
                      have f0 := hf 100 rfl
                      have f1 := hf 106 rfl
                      simp only [F25] at f0 f1
                      clear hf
                      go_simp
                      have hbq : Below w2.heap.size w2 (w2.alloc (.cells #[Value.int .u8 (sn % 256), Value.int .u8 (sn / 256 % 256)] 5)) := a1 w2 _
                      have hbo : BOwn (w2.alloc (.cells #[Value.int .u8 (sn % 256), Value.int .u8 (sn / 256 % 256)] 5)) ws.heap.size (.slice (some ⟨w2.heap.size, 0, none⟩) 2 2) (nbs sn) := (lit_own (e := 5) bC_len w2 (nbs sn) #[Value.int .u8 (sn % 256), Value.int .u8 (sn / 256 % 256)] (by simp only [nbs, flat, List.flatMap_cons, List.flatMap_nil, bC, List.append_nil, List.singleton_append, nb_eq]) (by show 2 ≤ maxLen; decide)).mono (Nat.le_trans hbs.out hw.size)
                      exact hK _ _ _ rfl ⟨hbo, _, _, rfl⟩ (hw.trans (hbq.mono hw.size)) hbq (fun h => absurd h (by decide))
                    · intro a w2 hw _ hf K hK
                      have f0 := hf 107 rfl
                      simp only [F25] at f0
                      clear hf
                      obtain ⟨f0, A9, c8, e9⟩ := f0
                      rw [e9] at f0
                      have f0 := Lib.hid f0
                      go_simp
                      have hbq : Below w2.heap.size w2 (w2.alloc (.cells #[Value.slice A9 2 c8] 27)) := a1 w2 _
                      exact hK _ _ _ rfl ⟨w2.heap.size, A9, c8, rfl, Nat.le_trans hbs.out hw.size, Blk.new w2 27 _, f0.out.alloc _⟩ (hw.trans (hbq.mono hw.size)) hbq (fun h => absurd h (by decide))
                  · intro a' w9 hd hs hw hout hf
                    have h95 := hf 0 95 (by decide) rfl rfl
                    simp only [F25] at h95
                    have h108 := hf 13 108 (by decide) rfl rfl
                    simp only [F25] at h108
                    have e0 := hout 0 rfl
                    simp only [List.getElem?_toArray, List.getElem?_cons_succ, List.getElem?_cons_zero] at e0
                    have e1 := hout 1 rfl
                    simp only [List.getElem?_toArray, List.getElem?_cons_succ, List.getElem?_cons_zero] at e1
                    have e2 := hout 2 rfl
                    simp only [List.getElem?_toArray, List.getElem?_cons_succ, List.getElem?_cons_zero] at e2
                    have e3 := hout 3 rfl
                    simp only [List.getElem?_toArray, List.getElem?_cons_succ, List.getElem?_cons_zero] at e3
                    have e4 := hout 4 rfl
                    simp only [List.getElem?_toArray, List.getElem?_cons_succ, List.getElem?_cons_zero] at e4
                    have e5 := hout 5 rfl
                    simp only [List.getElem?_toArray, List.getElem?_cons_succ, List.getElem?_cons_zero] at e5
                    have e6 := hout 6 rfl
                    simp only [List.getElem?_toArray, List.getElem?_cons_succ, List.getElem?_cons_zero] at e6
                    have e7 := hout 7 rfl
                    simp only [List.getElem?_toArray, List.getElem?_cons_succ, List.getElem?_cons_zero] at e7
                    have e8 := hout 8 rfl
                    simp only [List.getElem?_toArray, List.getElem?_cons_succ, List.getElem?_cons_zero] at e8
                    have e9 := hout 9 rfl
                    simp only [List.getElem?_toArray, List.getElem?_cons_succ, List.getElem?_cons_zero] at e9
                    have e10 := hout 10 rfl
                    simp only [List.getElem?_toArray, List.getElem?_cons_succ, List.getElem?_cons_zero] at e10
                    have e11 := hout 11 rfl
                    simp only [List.getElem?_toArray, List.getElem?_cons_succ, List.getElem?_cons_zero] at e11
                    have e12 := hout 12 rfl
                    simp only [List.getElem?_toArray, List.getElem?_cons_succ, List.getElem?_cons_zero] at e12
                    have e13 := hout 13 rfl
                    simp only [List.getElem?_toArray, List.getElem?_cons_succ, List.getElem?_cons_zero] at e13
                    have e14 := hout 14 rfl
                    simp only [List.getElem?_toArray, List.getElem?_cons_succ, List.getElem?_cons_zero] at e14
                    have e15 := hout 15 rfl
                    simp only [List.getElem?_toArray, List.getElem?_cons_succ, List.getElem?_cons_zero] at e15
                    have e16 := hout 16 rfl
                    simp only [List.getElem?_toArray, List.getElem?_cons_succ, List.getElem?_cons_zero] at e16
                    have e17 := hout 17 rfl
                    simp only [List.getElem?_toArray, List.getElem?_cons_succ, List.getElem?_cons_zero] at e17
                    have e18 := hout 18 rfl
                    simp only [List.getElem?_toArray, List.getElem?_cons_succ, List.getElem?_cons_zero] at e18
                    have e19 := hout 19 rfl
                    simp only [List.getElem?_toArray, List.getElem?_cons_succ, List.getElem?_cons_zero] at e19
                    have e20 := hout 20 rfl
                    simp only [List.getElem?_toArray, List.getElem?_cons_succ, List.getElem?_cons_zero] at e20
                    have e21 := hout 21 rfl
                    simp only [List.getElem?_toArray, List.getElem?_cons_succ, List.getElem?_cons_zero] at e21
                    have e22 := hout 22 rfl
                    simp only [List.getElem?_toArray, List.getElem?_cons_succ, List.getElem?_cons_zero] at e22
                    have e23 := hout 23 rfl
                    simp only [List.getElem?_toArray, List.getElem?_cons_succ, List.getElem?_cons_zero] at e23
                    have e24 := hout 24 rfl
                    simp only [List.getElem?_toArray, List.getElem?_cons_succ, List.getElem?_cons_zero] at e24
                    have e25 := hout 25 rfl
                    simp only [List.getElem?_toArray, List.getElem?_cons_succ, List.getElem?_cons_zero] at e25
                    have e26 := hout 26 rfl
                    simp only [List.getElem?_toArray, List.getElem?_cons_succ, List.getElem?_cons_zero] at e26
                    have e27 := hout 27 rfl
                    simp only [List.getElem?_toArray, List.getElem?_cons_succ, List.getElem?_cons_zero] at e27
                    have e28 := hout 28 rfl
                    simp only [List.getElem?_toArray, List.getElem?_cons_succ, List.getElem?_cons_zero] at e28
                    have e29 := hout 29 rfl
                    simp only [List.getElem?_toArray, List.getElem?_cons_succ, List.getElem?_cons_zero] at e29
                    have e30 := hout 30 rfl
                    simp only [List.getElem?_toArray, List.getElem?_cons_succ, List.getElem?_cons_zero] at e30
                    have e31 := hout 31 rfl
                    simp only [List.getElem?_toArray, List.getElem?_cons_succ, List.getElem?_cons_zero] at e31
                    have e32 := hout 32 rfl
                    simp only [List.getElem?_toArray, List.getElem?_cons_succ, List.getElem?_cons_zero] at e32
                    have e33 := hout 33 rfl
                    simp only [List.getElem?_toArray, List.getElem?_cons_succ, List.getElem?_cons_zero] at e33
                    have e34 := hout 34 rfl
                    simp only [List.getElem?_toArray, List.getElem?_cons_succ, List.getElem?_cons_zero] at e34
                    have e35 := hout 35 rfl
                    simp only [List.getElem?_toArray, List.getElem?_cons_succ, List.getElem?_cons_zero] at e35
                    have e36 := hout 36 rfl
                    simp only [List.getElem?_toArray, List.getElem?_cons_succ, List.getElem?_cons_zero] at e36
                    have e37 := hout 37 rfl
                    simp only [List.getElem?_toArray, List.getElem?_cons_succ, List.getElem?_cons_zero] at e37
                    have e38 := hout 38 rfl
                    simp only [List.getElem?_toArray, List.getElem?_cons_succ, List.getElem?_cons_zero] at e38
                    have e39 := hout 39 rfl
                    simp only [List.getElem?_toArray, List.getElem?_cons_succ, List.getElem?_cons_zero] at e39
                    have e40 := hout 40 rfl
                    simp only [List.getElem?_toArray, List.getElem?_cons_succ, List.getElem?_cons_zero] at e40
                    have e41 := hout 41 rfl
                    simp only [List.getElem?_toArray, List.getElem?_cons_succ, List.getElem?_cons_zero] at e41
                    have e42 := hout 42 rfl
                    simp only [List.getElem?_toArray, List.getElem?_cons_succ, List.getElem?_cons_zero] at e42
                    have e43 := hout 43 rfl
                    simp only [List.getElem?_toArray, List.getElem?_cons_succ, List.getElem?_cons_zero] at e43
                    have e44 := hout 44 rfl
                    simp only [List.getElem?_toArray, List.getElem?_cons_succ, List.getElem?_cons_zero] at e44
                    have e45 := hout 45 rfl
                    simp only [List.getElem?_toArray, List.getElem?_cons_succ, List.getElem?_cons_zero] at e45
                    have e46 := hout 46 rfl
                    simp only [List.getElem?_toArray, List.getElem?_cons_succ, List.getElem?_cons_zero] at e46
                    have e47 := hout 47 rfl
                    simp only [List.getElem?_toArray, List.getElem?_cons_succ, List.getElem?_cons_zero] at e47
                    have e48 := hout 48 rfl
                    simp only [List.getElem?_toArray, List.getElem?_cons_succ, List.getElem?_cons_zero] at e48
                    have e49 := hout 49 rfl
                    simp only [List.getElem?_toArray, List.getElem?_cons_succ, List.getElem?_cons_zero] at e49
                    have e50 := hout 50 rfl
                    simp only [List.getElem?_toArray, List.getElem?_cons_succ, List.getElem?_cons_zero] at e50
                    have e51 := hout 51 rfl
                    simp only [List.getElem?_toArray, List.getElem?_cons_succ, List.getElem?_cons_zero] at e51
                    have e52 := hout 52 rfl
                    simp only [List.getElem?_toArray, List.getElem?_cons_succ, List.getElem?_cons_zero] at e52
                    have e53 := hout 53 rfl
                    simp only [List.getElem?_toArray, List.getElem?_cons_succ, List.getElem?_cons_zero] at e53
                    have e54 := hout 54 rfl
                    simp only [List.getElem?_toArray, List.getElem?_cons_succ, List.getElem?_cons_zero] at e54
                    have e55 := hout 55 rfl
                    simp only [List.getElem?_toArray, List.getElem?_cons_succ, List.getElem?_cons_zero] at e55
                    have e56 := hout 56 rfl
                    simp only [List.getElem?_toArray, List.getElem?_cons_succ, List.getElem?_cons_zero] at e56
                    have e57 := hout 57 rfl
                    simp only [List.getElem?_toArray, List.getElem?_cons_succ, List.getElem?_cons_zero] at e57
                    have e58 := hout 58 rfl
                    simp only [List.getElem?_toArray, List.getElem?_cons_succ, List.getElem?_cons_zero] at e58
                    have e59 := hout 59 rfl
                    simp only [List.getElem?_toArray, List.getElem?_cons_succ, List.getElem?_cons_zero] at e59
                    have e60 := hout 60 rfl
                    simp only [List.getElem?_toArray, List.getElem?_cons_succ, List.getElem?_cons_zero] at e60
                    have e61 := hout 61 rfl
                    simp only [List.getElem?_toArray, List.getElem?_cons_succ, List.getElem?_cons_zero] at e61
                    have e62 := hout 62 rfl
                    simp only [List.getElem?_toArray, List.getElem?_cons_succ, List.getElem?_cons_zero] at e62
                    have e63 := hout 63 rfl
                    simp only [List.getElem?_toArray, List.getElem?_cons_succ, List.getElem?_cons_zero] at e63
                    have e64 := hout 64 rfl
                    simp only [List.getElem?_toArray, List.getElem?_cons_succ, List.getElem?_cons_zero] at e64
                    have e65 := hout 65 rfl
                    simp only [List.getElem?_toArray, List.getElem?_cons_succ, List.getElem?_cons_zero] at e65
                    have e66 := hout 66 rfl
                    simp only [List.getElem?_toArray, List.getElem?_cons_succ, List.getElem?_cons_zero] at e66
                    have e67 := hout 67 rfl
                    simp only [List.getElem?_toArray, List.getElem?_cons_succ, List.getElem?_cons_zero] at e67
                    have e68 := hout 68 rfl
                    simp only [List.getElem?_toArray, List.getElem?_cons_succ, List.getElem?_cons_zero] at e68
                    have e69 := hout 69 rfl
                    simp only [List.getElem?_toArray, List.getElem?_cons_succ, List.getElem?_cons_zero] at e69
                    have e70 := hout 70 rfl
                    simp only [List.getElem?_toArray, List.getElem?_cons_succ, List.getElem?_cons_zero] at e70
                    have e71 := hout 71 rfl
                    simp only [List.getElem?_toArray, List.getElem?_cons_succ, List.getElem?_cons_zero] at e71
                    have e72 := hout 72 rfl
                    simp only [List.getElem?_toArray, List.getElem?_cons_succ, List.getElem?_cons_zero] at e72
                    have e73 := hout 73 rfl
                    simp only [List.getElem?_toArray, List.getElem?_cons_succ, List.getElem?_cons_zero] at e73
                    have e74 := hout 74 rfl
                    simp only [List.getElem?_toArray, List.getElem?_cons_succ, List.getElem?_cons_zero] at e74
                    have e75 := hout 75 rfl
                    simp only [List.getElem?_toArray, List.getElem?_cons_succ, List.getElem?_cons_zero] at e75
                    have e76 := hout 76 rfl
                    simp only [List.getElem?_toArray, List.getElem?_cons_succ, List.getElem?_cons_zero] at e76
                    have e77 := hout 77 rfl
                    simp only [List.getElem?_toArray, List.getElem?_cons_succ, List.getElem?_cons_zero] at e77
                    have e78 := hout 78 rfl
                    simp only [List.getElem?_toArray, List.getElem?_cons_succ, List.getElem?_cons_zero] at e78
                    have e79 := hout 79 rfl
                    simp only [List.getElem?_toArray, List.getElem?_cons_succ, List.getElem?_cons_zero] at e79
                    have e80 := hout 80 rfl
                    simp only [List.getElem?_toArray, List.getElem?_cons_succ, List.getElem?_cons_zero] at e80
                    have e81 := hout 81 rfl
                    simp only [List.getElem?_toArray, List.getElem?_cons_succ, List.getElem?_cons_zero] at e81
                    have e112 := hout 112 rfl
                    simp only [List.getElem?_toArray, List.getElem?_cons_succ, List.getElem?_cons_zero] at e112
                    have e113 := hout 113 rfl
                    simp only [List.getElem?_toArray, List.getElem?_cons_succ, List.getElem?_cons_zero] at e113
                    have e114 := hout 114 rfl
                    simp only [List.getElem?_toArray, List.getElem?_cons_succ, List.getElem?_cons_zero] at e114
                    have e115 := hout 115 rfl
                    simp only [List.getElem?_toArray, List.getElem?_cons_succ, List.getElem?_cons_zero] at e115
                    have e116 := hout 116 rfl
                    simp only [List.getElem?_toArray, List.getElem?_cons_succ, List.getElem?_cons_zero] at e116
                    have e117 := hout 117 rfl
                    simp only [List.getElem?_toArray, List.getElem?_cons_succ, List.getElem?_cons_zero] at e117
                    have e118 := hout 118 rfl
                    simp only [List.getElem?_toArray, List.getElem?_cons_succ, List.getElem?_cons_zero] at e118
                    have e119 := hout 119 rfl
                    simp only [List.getElem?_toArray, List.getElem?_cons_succ, List.getElem?_cons_zero] at e119
                    have e120 := hout 120 rfl
                    simp only [List.getElem?_toArray, List.getElem?_cons_succ, List.getElem?_cons_zero] at e120
                    have e121 := hout 121 rfl
                    simp only [List.getElem?_toArray, List.getElem?_cons_succ, List.getElem?_cons_zero] at e121
                    have e122 := hout 122 rfl
                    simp only [List.getElem?_toArray, List.getElem?_cons_succ, List.getElem?_cons_zero] at e122
                    have e123 := hout 123 rfl
                    simp only [List.getElem?_toArray, List.getElem?_cons_succ, List.getElem?_cons_zero] at e123
                    have e124 := hout 124 rfl
                    simp only [List.getElem?_toArray, List.getElem?_cons_succ, List.getElem?_cons_zero] at e124
                    have e125 := hout 125 rfl
                    simp only [List.getElem?_toArray, List.getElem?_cons_succ, List.getElem?_cons_zero] at e125
                    have e126 := hout 126 rfl
                    simp only [List.getElem?_toArray, List.getElem?_cons_succ, List.getElem?_cons_zero] at e126
                    have e127 := hout 127 rfl
                    simp only [List.getElem?_toArray, List.getElem?_cons_succ, List.getElem?_cons_zero] at e127
                    have e128 := hout 128 rfl
                    simp only [List.getElem?_toArray, List.getElem?_cons_succ, List.getElem?_cons_zero] at e128
                    have e129 := hout 129 rfl
                    simp only [List.getElem?_toArray, List.getElem?_cons_succ, List.getElem?_cons_zero] at e129
                    have e130 := hout 130 rfl
                    simp only [List.getElem?_toArray, List.getElem?_cons_succ, List.getElem?_cons_zero] at e130
                    have e131 := hout 131 rfl
                    simp only [List.getElem?_toArray, List.getElem?_cons_succ, List.getElem?_cons_zero] at e131
                    have e132 := hout 132 rfl
                    simp only [List.getElem?_toArray, List.getElem?_cons_succ, List.getElem?_cons_zero] at e132
                    have e133 := hout 133 rfl
                    simp only [List.getElem?_toArray, List.getElem?_cons_succ, List.getElem?_cons_zero] at e133
                    have e134 := hout 134 rfl
                    simp only [List.getElem?_toArray, List.getElem?_cons_succ, List.getElem?_cons_zero] at e134
                    have e135 := hout 135 rfl
                    simp only [List.getElem?_toArray, List.getElem?_cons_succ, List.getElem?_cons_zero] at e135
                    have e136 := hout 136 rfl
                    simp only [List.getElem?_toArray, List.getElem?_cons_succ, List.getElem?_cons_zero] at e136
                    have e137 := hout 137 rfl
                    simp only [List.getElem?_toArray, List.getElem?_cons_succ, List.getElem?_cons_zero] at e137
                    have e138 := hout 138 rfl
                    simp only [List.getElem?_toArray, List.getElem?_cons_succ, List.getElem?_cons_zero] at e138
                    have e139 := hout 139 rfl
                    simp only [List.getElem?_toArray, List.getElem?_cons_succ, List.getElem?_cons_zero] at e139
                    have e140 := hout 140 rfl
                    simp only [List.getElem?_toArray, List.getElem?_cons_succ, List.getElem?_cons_zero] at e140
                    obtain ⟨tm, df⟩ := a'
                    simp only at hd hs h95 h108 e0 e1 e2 e3 e4 e5 e6 e7 e8 e9 e10 e11 e12 e13 e14 e15 e16 e17 e18 e19 e20 e21 e22 e23 e24 e25 e26 e27 e28 e29 e30 e31 e32 e33 e34 e35 e36 e37 e38 e39 e40 e41 e42 e43 e44 e45 e46 e47 e48 e49 e50 e51 e52 e53 e54 e55 e56 e57 e58 e59 e60 e61 e62 e63 e64 e65 e66 e67 e68 e69 e70 e71 e72 e73 e74 e75 e76 e77 e78 e79 e80 e81 e112 e113 e114 e115 e116 e117 e118 e119 e120 e121 e122 e123 e124 e125 e126 e127 e128 e129 e130 e131 e132 e133 e134 e135 e136 e137 e138 e139 e140
                    have e := lit_arr tm 141 hs
                    rw [show (List.range 141).map (fun i => tm[i]?.getD undef) = [tm[0]?.getD undef, tm[1]?.getD undef, tm[2]?.getD undef, tm[3]?.getD undef, tm[4]?.getD undef, tm[5]?.getD undef, tm[6]?.getD undef, tm[7]?.getD undef, tm[8]?.getD undef, tm[9]?.getD undef, tm[10]?.getD undef, tm[11]?.getD undef, tm[12]?.getD undef, tm[13]?.getD undef, tm[14]?.getD undef, tm[15]?.getD undef, tm[16]?.getD undef, tm[17]?.getD undef, tm[18]?.getD undef, tm[19]?.getD undef, tm[20]?.getD undef, tm[21]?.getD undef, tm[22]?.getD undef, tm[23]?.getD undef, tm[24]?.getD undef, tm[25]?.getD undef, tm[26]?.getD undef, tm[27]?.getD undef, tm[28]?.getD undef, tm[29]?.getD undef, tm[30]?.getD undef, tm[31]?.getD undef, tm[32]?.getD undef, tm[33]?.getD undef, tm[34]?.getD undef, tm[35]?.getD undef, tm[36]?.getD undef, tm[37]?.getD undef, tm[38]?.getD undef, tm[39]?.getD undef, tm[40]?.getD undef, tm[41]?.getD undef, tm[42]?.getD undef, tm[43]?.getD undef, tm[44]?.getD undef, tm[45]?.getD undef, tm[46]?.getD undef, tm[47]?.getD undef, tm[48]?.getD undef, tm[49]?.getD undef, tm[50]?.getD undef, tm[51]?.getD undef, tm[52]?.getD undef, tm[53]?.getD undef, tm[54]?.getD undef, tm[55]?.getD undef, tm[56]?.getD undef, tm[57]?.getD undef, tm[58]?.getD undef, tm[59]?.getD undef, tm[60]?.getD undef, tm[61]?.getD undef, tm[62]?.getD undef, tm[63]?.getD undef, tm[64]?.getD undef, tm[65]?.getD undef, tm[66]?.getD undef, tm[67]?.getD undef, tm[68]?.getD undef, tm[69]?.getD undef, tm[70]?.getD undef, tm[71]?.getD undef, tm[72]?.getD undef, tm[73]?.getD undef, tm[74]?.getD undef, tm[75]?.getD undef, tm[76]?.getD undef, tm[77]?.getD undef, tm[78]?.getD undef, tm[79]?.getD undef, tm[80]?.getD undef, tm[81]?.getD undef, tm[82]?.getD undef, tm[83]?.getD undef, tm[84]?.getD undef, tm[85]?.getD undef, tm[86]?.getD undef, tm[87]?.getD undef, tm[88]?.getD undef, tm[89]?.getD undef, tm[90]?.getD undef, tm[91]?.getD undef, tm[92]?.getD undef, tm[93]?.getD undef, tm[94]?.getD undef, tm[95]?.getD undef, tm[96]?.getD undef, tm[97]?.getD undef, tm[98]?.getD undef, tm[99]?.getD undef, tm[100]?.getD undef, tm[101]?.getD undef, tm[102]?.getD undef, tm[103]?.getD undef, tm[104]?.getD undef, tm[105]?.getD undef, tm[106]?.getD undef, tm[107]?.getD undef, tm[108]?.getD undef, tm[109]?.getD undef, tm[110]?.getD undef, tm[111]?.getD undef, tm[112]?.getD undef, tm[113]?.getD undef, tm[114]?.getD undef, tm[115]?.getD undef, tm[116]?.getD undef, tm[117]?.getD undef, tm[118]?.getD undef, tm[119]?.getD undef, tm[120]?.getD undef, tm[121]?.getD undef, tm[122]?.getD undef, tm[123]?.getD undef, tm[124]?.getD undef, tm[125]?.getD undef, tm[126]?.getD undef, tm[127]?.getD undef, tm[128]?.getD undef, tm[129]?.getD undef, tm[130]?.getD undef, tm[131]?.getD undef, tm[132]?.getD undef, tm[133]?.getD undef, tm[134]?.getD undef, tm[135]?.getD undef, tm[136]?.getD undef, tm[137]?.getD undef, tm[138]?.getD undef, tm[139]?.getD undef, tm[140]?.getD undef] from rfl] at e
                    simp only [h95, e0, e1, e2, e3, e4, e5, e6, e7, e8, e9, e10, e11, e12, e13, e14, e15, e16, e17, e18, e19, e20, e21, e22, e23, e24, e25, e26, e27, e28, e29, e30, e31, e32, e33, e34, e35, e36, e37, e38, e39, e40, e41, e42, e43, e44, e45, e46, e47, e48, e49, e50, e51, e52, e53, e54, e55, e56, e57, e58, e59, e60, e61, e62, e63, e64, e65, e66, e67, e68, e69, e70, e71, e72, e73, e74, e75, e76, e77, e78, e79, e80, e81, e112, e113, e114, e115, e116, e117, e118, e119, e120, e121, e122, e123, e124, e125, e126, e127, e128, e129, e130, e131, e132, e133, e134, e135, e136, e137, e138, e139, e140, Option.getD_some] at e
                    clear hf hout hs
                    rw [e, hd]
                    clear e hd h95 e0 e1 e2 e3 e4 e5 e6 e7 e8 e9 e10 e11 e12 e13 e14 e15 e16 e17 e18 e19 e20 e21 e22 e23 e24 e25 e26 e27 e28 e29 e30 e31 e32 e33 e34 e35 e36 e37 e38 e39 e40 e41 e42 e43 e44 e45 e46 e47 e48 e49 e50 e51 e52 e53 e54 e55 e56 e57 e58 e59 e60 e61 e62 e63 e64 e65 e66 e67 e68 e69 e70 e71 e72 e73 e74 e75 e76 e77 e78 e79 e80 e81 e112 e113 e114 e115 e116 e117 e118 e119 e120 e121 e122 e123 e124 e125 e126 e127 e128 e129 e130 e131 e132 e133 e134 e135 e136 e137 e138 e139 e140
                    generalize tm[82]?.getD undef = u82x
                    generalize tm[83]?.getD undef = u83x
                    generalize tm[84]?.getD undef = u84x
                    generalize tm[85]?.getD undef = u85x
                    generalize tm[86]?.getD undef = u86x
                    generalize tm[87]?.getD undef = u87x
                    generalize tm[88]?.getD undef = u88x
                    generalize tm[89]?.getD undef = u89x
                    generalize tm[90]?.getD undef = u90x
                    generalize tm[91]?.getD undef = u91x
                    generalize tm[92]?.getD undef = u92x
                    generalize tm[93]?.getD undef = u93x
                    generalize tm[94]?.getD undef = u94x
                    generalize tm[96]?.getD undef = u96x
                    generalize tm[97]?.getD undef = u97x
                    generalize tm[98]?.getD undef = u98x
                    generalize tm[99]?.getD undef = u99x
                    generalize tm[100]?.getD undef = u100x
                    generalize tm[101]?.getD undef = u101x
                    generalize tm[102]?.getD undef = u102x
                    generalize tm[103]?.getD undef = u103x
                    generalize tm[104]?.getD undef = u104x
                    generalize tm[105]?.getD undef = u105x
                    generalize tm[106]?.getD undef = u106x
                    generalize tm[107]?.getD undef = u107x
                    generalize tm[108]?.getD undef = u108x at h108 ⊢
                    generalize tm[109]?.getD undef = u109x
                    generalize tm[110]?.getD undef = u110x
                    generalize tm[111]?.getD undef = u111x
                    obtain ⟨g5, A5, c5, rfl, hg5, hbk, hbo⟩ := h108
                    obtain ⟨i27, hi27, hz270, hz271, hz272⟩ := info_parts bs_info
                    replace hi27 := Lib.hid hi27
                    replace hz270 := Lib.hid hz270
                    replace hz271 := Lib.hid hz271
                    replace hz272 := Lib.hid hz272
                    replace hbo := Lib.hid hbo
                    have hrd : Hid (Reads w9 w9.heap.size 1 (some ⟨g5, 0, none⟩) 1 (flat sC [(⟨A5, 2, c5, nbs sn⟩ : Bs)])) := (lat_blk sC_len hbk [(⟨A5, 2, c5, nbs sn⟩ : Bs)] 1 rfl (by simp [flat, sC])).2
                    have hC9 := Lib.hid (hC.out.kept hw)
                    have hCd9 : Hid (∀ b ∈ C, BOwn w9 ws.heap.size (.slice b.A b.n b.c) b.d) := fun b hb => (hCd.out b hb).kept hw
                    have hb9 : Hid (Below ws.heap.size ws w9) := hbz.out.trans (hw.mono hbz.out.size)
                    have hl9 := hCl.out
                    have hs9 := hb9.out.size
                    clear hw hcel hbk hg5 hCl hC hCd hbz
                    refine wpList_append_any _ rfl (.tmp 95) (.tmp 108) _ rfl ws.heap.size 27 i27 _ 1 24 Try.underlying37 hi27.out hz270.out hz271.out hz272.out rfl (by omega) (Value.slice A16 C.length c16) C.length (flat sC C) rfl hC9.out.2 w9.heap.size (some ⟨g5, 0, none⟩) 1 1 (flat sC [(⟨A5, 2, c5, nbs sn⟩ : Bs)]) rfl hrd.out (sC_one _) (by simp only [maxLen]; omega) (by omega) (by omega) ?_
                    intro v' w1 hown1 hg1 hat1
                    have hC1 : Hid (LOwn sC 1 27 w1 ws.heap.size v' (C ++ [(⟨A5, 2, c5, nbs sn⟩ : Bs)])) := ⟨sC_len, by rw [List.length_append, flat_append]; exact hown1⟩
                    have hb1 : Hid (Below ws.heap.size ws w1) := below_row hb9.out hC9.out (Nat.le_refl _) hb9.out.size hg1
                    have hCd1 : Hid (∀ b ∈ C ++ [(⟨A5, 2, c5, nbs sn⟩ : Bs)], BOwn w1 ws.heap.size (.slice b.A b.n b.c) b.d) := fun b hb => by
                      rcases List.mem_append.1 hb with hb | hb
                      · exact (hCd9.out b hb).grownT hC9.out (by decide) hg1
                      · simp at hb
                        subst hb
                        exact hbo.out.grownT hC9.out (by decide) hg1
                    clear hown1 hg1 hat1
                    go_wp2_with fail
                    go_roundw
                    case rel => exact ⟨P ++ [⟨sn, now + 1⟩], R, _, m - 1, _, C ++ [(⟨A5, 2, c5, nbs sn⟩ : Bs)], by show _ = _; rw [hPR.out]; simp, by have := hRm.out; show R.length = m - 1; simp at this; omega, rfl, hR2.out, hC1.out, hCd1.out, by show _ = _; rw [List.map_append, hCm.out, if_neg (by decide), if_neg (by decide), List.map_append]; rfl, fun s hs => by rcases List.mem_append.1 hs with hs | hs; exact hPd.out s hs; simp at hs; rw [hs], hob2.out.trans hob.out, hb1.out⟩
                    case measure => simp [lenV]; omega
              · have hdd : (sd == now + 1) = false := by simpa using hd
                have hex : Hid (∀ s, (⟨sn, sd⟩ :: R : List Sn).head? = some s → s.due ≠ now + 1) := fun s hs => by simp at hs; subst hs; exact hd
                obtain ⟨A16, c16, rfl, -, -, -, -⟩ := hC.out.form
                have hT := ord_tick hgd.out rfl (by show now < _; omega) P.length (nbs number) (by
                  intro s hs
                  rw [hPR.out, List.take_left] at hs
                  exact hPd.out s hs) (by
                  intro s hs
                  rw [hPR.out, List.drop_left] at hs
                  exact hex.out s hs)
                rw [← hr.out] at hT
                rw [show way.drop P.length = (⟨sn, sd⟩ :: R) by rw [hPR.out, List.drop_left], show way.take P.length = P by rw [hPR.out, List.take_left]] at hT
                have hTv : Hid (l2.val = ⟨now + 1, delay, cut, number, lose, boxOf (⟨sn, sd⟩ :: R)⟩) := by show _ = _; rw [hv2.out, hT]
                have hTc : Hid (C6.map (·.d) = C.map (·.d)) := by show _ = _; rw [hCm6.out, hCm.out, hT]
                have hgn : Hid (Good ⟨now + 1, delay, cut, number, lose, boxOf (⟨sn, sd⟩ :: R)⟩) := by
                  have := hgd.out.play 2 (nbs number)
                  rw [← hr.out, hT] at this
                  exact this
                clear hT
                have hlw : Hid (P.length + ((⟨sn, sd⟩ :: R) : List Sn).length ≤ 250) := by
                  have e2 := congrArg List.length hPR.out
                  have e3 := hwl.out
                  rw [List.length_append] at e2
                  show _ ≤ _
                  omega
                have hC6 := Lib.hid (rows_at (hC3.out.kept hbz.out))
                have hn6 : n6 ≤ 1000 := by
                  have e1 := congrArg List.length hTc.out
                  have e2 := congrArg List.length hCm.out
                  have e3 := hC6.out.len
                  have e4 := hlw.out
                  rw [List.length_map, List.length_map] at e1
                  rw [List.length_map] at e2
                  split at e2
                  · have e5 : C.length = 0 := e2
                    omega
                  · rw [List.length_map] at e2; omega
                have hsd := Lib.hid (sameData_any A6 A16 n6 c6 C.length c16 C6 C wr hC6.out (rows_at hC.out) (fun b hb => bs_of_own ((hCd3.out b hb).kept hbz.out)) (fun b hb => bs_of_own (hCd.out b hb)) hTc.out (by omega))
                have hA := Lib.hid (hA.out.below hbz.out hA.out.lt)
                have hok := Lib.hid (hok.out.more hbz.out)
                have hRw := Lib.hid (hR.out.kept hbz.out)
                have hb := Lib.hid (hb.out.trans (hbz.out.mono hb.out.size))
                have hqn : Hid (LkQ (fun b => b ≠ g7 ∧ some b ≠ (Value.slice (some ⟨gw, ow, none⟩) m c9).ownBlock) l2) := by rw [hob.out]; exact hq2.out
                clear hC3 hCd3 hC6 hCd hCm hCm6 hC hR hob
                go_wp2_with fail
                refine hsd.out.mono ?_; rintro e wh ⟨rfl, rfl⟩
                clear hsd
                go_wp2_with fail
                go_roundw
                case rel => exact ⟨k + 1, l2, (⟨sn, sd⟩ :: R), (now + 1), number, cut, by omega, by go_num, rfl, by go_num, rfl, hA.out, hok.out, hTv.out, hgn.out, hqn.out, hRw.out, hb.out, (by have := hlw.out; have e2 := congrArg List.length hPR.out; rw [List.length_append] at e2; have := hwl.out; show List.length _ ≤ k + 1; omega), by omega, by omega, by omega, by omega⟩
                case measure => simp [intOf]; omega
        · have q2d : (kd == 2) = false := by simpa using q2
          by_cases q3 : kd = 3
          · subst q3
            have hrX : Hid (r = (⟨now, delay, true, number, lose, boxOf way⟩, [], 0)) := by
              show _ = _
              rw [hr.out]
              exact ord_cut ⟨now, delay, cut, number, lose, boxOf way⟩ true 3 (nbs number) (by decide) rfl
            have hgn : Hid (Good ⟨now, delay, true, number, lose, boxOf way⟩) := by
              have := hgd.out.play 3 (nbs number)
              rw [← hr.out, hrX.out] at this
              exact this
            go_wp2_with fail
            refine hpl.out.mono ?_; rintro e wd ⟨⟨l2, A6, n6, c6, C6, rfl, hok2, hv2, hC, hCd, hCm, hK2⟩, hq⟩
            rw [e8]
            simp only [lkV]
            have hq2 : Hid (LkQ (fun b => b ≠ g7 ∧ some b ≠ (Value.slice Aw way.length cw).ownBlock) l2) := hK2 _ hqa.out (fun b hb8 => ⟨by have := hbX.out.size; have := hq7.out; omega, fun e => by have := hway.out.blk_lt b e.symm; have := hbX.out.size; omega⟩)
            have hA2 := Lib.hid (hA1.out.below hq hA1.out.lt)
            have hX2 := Lib.hid (hXb.out.below hq hXb.out.lt)
            have hway2 := Lib.hid ((hway.out.kept hbX.out).kept hq)
            have hb2 := Lib.hid ((hb.out.trans (hbX.out.mono hb.out.size)).trans (hq.mono (Nat.le_trans hb.out.size hbX.out.size)))
            have hwdX : Hid (wr.heap.size < wd.heap.size) := Nat.lt_of_lt_of_le (by simp; omega) hq.size
            clear k0 k1 k2 k3 k4 k5 x0 x1 hpl hA1 hXb hway hb hbX hq hqa hK2 hoka
            have hg1 := Lib.hid (grown_set6 wd g7 (Value.int .i64 l2.now) (Value.int .i64 l2.delay) (Value.bool l2.cut) (Value.int .i64 l2.count) (Value.slice l2.lA l2.ln l2.lc) (Value.slice l2.bA l2.bn l2.bc))
            have hA := Lib.hid (lk_set6 hA2.out (Value.int .i64 l2.now) (Value.int .i64 l2.delay) (Value.bool l2.cut) (Value.int .i64 l2.count) (Value.slice l2.lA l2.ln l2.lc) (Value.slice l2.bA l2.bn l2.bc))
            have hX3 := Lib.hid (hX2.out.grown hg1.out (by intro e; injection e with e; have := hq7.out; omega))
            have hok := Lib.hid (LkOk_q hok2 (LkQ.left hq2.out) hg1.out)
            have hway := Lib.hid (hway2.out.far hg1.out (Nat.lt_succ_self _))
            have hb := Lib.hid (hb2.out.grown hg1.out hb2.out.size (fun g8 e8 => by injection e8 with e8; rw [← e8]; exact hg7w.out))
            have hC3 := Lib.hid (hC.grownB hA2.out (by decide) hg1.out)
            have hCd3 : Hid (∀ b ∈ C6, BOwn ((((((wd.setCell ⟨g7, 0, none⟩ (Value.int .i64 l2.now)).setCell ⟨g7, 1, none⟩ (Value.int .i64 l2.delay)).setCell ⟨g7, 2, none⟩ (Value.bool l2.cut)).setCell ⟨g7, 3, none⟩ (Value.int .i64 l2.count)).setCell ⟨g7, 4, none⟩ (Value.slice l2.lA l2.ln l2.lc)).setCell ⟨g7, 5, none⟩ (Value.slice l2.bA l2.bn l2.bc)) ((wr.alloc (.cells #[Value.int .i64 3, Value.slice (some ⟨wr.heap.size + 1, 0, none⟩) 2 2] 48)).alloc (.cells #[Value.int .u8 number, Value.int .u8 (number / 256)] 5)).heap.size (.slice b.A b.n b.c) b.d) := fun b hb => (hCd b hb).grownB hA2.out (by decide) hg1.out
            replace hv2 := Lib.hid hv2
            replace hCm := Lib.hid hCm
            obtain ⟨k0, k1, k2, k3, k4, k5, z0, z1, z2, z3, z4, z5⟩ := (show wd.cell? ⟨g7, 0, none⟩ = some (Value.int .i64 la.now) ∧ wd.cell? ⟨g7, 1, none⟩ = some (Value.int .i64 la.delay) ∧ wd.cell? ⟨g7, 2, none⟩ = some (Value.bool la.cut) ∧ wd.cell? ⟨g7, 3, none⟩ = some (Value.int .i64 la.count) ∧ wd.cell? ⟨g7, 4, none⟩ = some (Value.slice la.lA la.ln la.lc) ∧ wd.cell? ⟨g7, 5, none⟩ = some (Value.slice la.bA la.bn la.bc) ∧ wd.frozen? ⟨g7, 0, none⟩ = false ∧ wd.frozen? ⟨g7, 1, none⟩ = false ∧ wd.frozen? ⟨g7, 2, none⟩ = false ∧ wd.frozen? ⟨g7, 3, none⟩ = false ∧ wd.frozen? ⟨g7, 4, none⟩ = false ∧ wd.frozen? ⟨g7, 5, none⟩ = false from ⟨hA2.out.cell 0, hA2.out.cell 1, hA2.out.cell 2, hA2.out.cell 3, hA2.out.cell 4, hA2.out.cell 5, hA2.out.frozen 0, hA2.out.frozen 1, hA2.out.frozen 2, hA2.out.frozen 3, hA2.out.frozen 4, hA2.out.frozen 5⟩)
            obtain ⟨x0, x1⟩ := (show ((((((wd.setCell ⟨g7, 0, none⟩ (Value.int .i64 l2.now)).setCell ⟨g7, 1, none⟩ (Value.int .i64 l2.delay)).setCell ⟨g7, 2, none⟩ (Value.bool l2.cut)).setCell ⟨g7, 3, none⟩ (Value.int .i64 l2.count)).setCell ⟨g7, 4, none⟩ (Value.slice l2.lA l2.ln l2.lc)).setCell ⟨g7, 5, none⟩ (Value.slice l2.bA l2.bn l2.bc)).cell? ⟨wr.heap.size, 0, none⟩ = some (Value.int .i64 3) ∧ ((((((wd.setCell ⟨g7, 0, none⟩ (Value.int .i64 l2.now)).setCell ⟨g7, 1, none⟩ (Value.int .i64 l2.delay)).setCell ⟨g7, 2, none⟩ (Value.bool l2.cut)).setCell ⟨g7, 3, none⟩ (Value.int .i64 l2.count)).setCell ⟨g7, 4, none⟩ (Value.slice l2.lA l2.ln l2.lc)).setCell ⟨g7, 5, none⟩ (Value.slice l2.bA l2.bn l2.bc)).cell? ⟨wr.heap.size, 1, none⟩ = some (Value.slice (some ⟨wr.heap.size + 1, 0, none⟩) 2 2) from ⟨hX3.out.cell 0, hX3.out.cell 1⟩)
            clear hok2 hC hCd hA2 hX2 hway2 hb2 hg1
            go_wp2_with fail
            clear k0 k1 k2 k3 k4 k5 z0 z1 z2 z3 z4 z5 x0 x1
            go_roundw
            case rel => exact ⟨k + 1, l2, way, now, number, true, by omega, by go_num, rfl, by go_num, rfl, hA.out, hok.out, (by show _ = _; rw [hv2.out, hrX.out]), hgn.out, hq2.out, hway.out, hb.out, (by have := hwl.out; show way.length ≤ k + 1; omega), by omega, by omega, by omega, by omega⟩
            case measure => simp [intOf]; omega
          · have q3d : (kd == 3) = false := by simpa using q3
            by_cases q4 : kd = 4
            · subst q4
              have hrX : Hid (r = (⟨now, delay, false, number, lose, boxOf way⟩, [], 0)) := by
                show _ = _
                rw [hr.out]
                exact ord_cut ⟨now, delay, cut, number, lose, boxOf way⟩ false 4 (nbs number) (by decide) rfl
              have hgn : Hid (Good ⟨now, delay, false, number, lose, boxOf way⟩) := by
                have := hgd.out.play 4 (nbs number)
                rw [← hr.out, hrX.out] at this
                exact this
              go_wp2_with fail
              refine hpl.out.mono ?_; rintro e wd ⟨⟨l2, A6, n6, c6, C6, rfl, hok2, hv2, hC, hCd, hCm, hK2⟩, hq⟩
              rw [e8]
              simp only [lkV]
              have hq2 : Hid (LkQ (fun b => b ≠ g7 ∧ some b ≠ (Value.slice Aw way.length cw).ownBlock) l2) := hK2 _ hqa.out (fun b hb8 => ⟨by have := hbX.out.size; have := hq7.out; omega, fun e => by have := hway.out.blk_lt b e.symm; have := hbX.out.size; omega⟩)
              have hA2 := Lib.hid (hA1.out.below hq hA1.out.lt)
              have hX2 := Lib.hid (hXb.out.below hq hXb.out.lt)
              have hway2 := Lib.hid ((hway.out.kept hbX.out).kept hq)
              have hb2 := Lib.hid ((hb.out.trans (hbX.out.mono hb.out.size)).trans (hq.mono (Nat.le_trans hb.out.size hbX.out.size)))
              have hwdX : Hid (wr.heap.size < wd.heap.size) := Nat.lt_of_lt_of_le (by simp; omega) hq.size
              clear k0 k1 k2 k3 k4 k5 x0 x1 hpl hA1 hXb hway hb hbX hq hqa hK2 hoka
              have hg1 := Lib.hid (grown_set6 wd g7 (Value.int .i64 l2.now) (Value.int .i64 l2.delay) (Value.bool l2.cut) (Value.int .i64 l2.count) (Value.slice l2.lA l2.ln l2.lc) (Value.slice l2.bA l2.bn l2.bc))
              have hA := Lib.hid (lk_set6 hA2.out (Value.int .i64 l2.now) (Value.int .i64 l2.delay) (Value.bool l2.cut) (Value.int .i64 l2.count) (Value.slice l2.lA l2.ln l2.lc) (Value.slice l2.bA l2.bn l2.bc))
              have hX3 := Lib.hid (hX2.out.grown hg1.out (by intro e; injection e with e; have := hq7.out; omega))
              have hok := Lib.hid (LkOk_q hok2 (LkQ.left hq2.out) hg1.out)
              have hway := Lib.hid (hway2.out.far hg1.out (Nat.lt_succ_self _))
              have hb := Lib.hid (hb2.out.grown hg1.out hb2.out.size (fun g8 e8 => by injection e8 with e8; rw [← e8]; exact hg7w.out))
              have hC3 := Lib.hid (hC.grownB hA2.out (by decide) hg1.out)
              have hCd3 : Hid (∀ b ∈ C6, BOwn ((((((wd.setCell ⟨g7, 0, none⟩ (Value.int .i64 l2.now)).setCell ⟨g7, 1, none⟩ (Value.int .i64 l2.delay)).setCell ⟨g7, 2, none⟩ (Value.bool l2.cut)).setCell ⟨g7, 3, none⟩ (Value.int .i64 l2.count)).setCell ⟨g7, 4, none⟩ (Value.slice l2.lA l2.ln l2.lc)).setCell ⟨g7, 5, none⟩ (Value.slice l2.bA l2.bn l2.bc)) ((wr.alloc (.cells #[Value.int .i64 4, Value.slice (some ⟨wr.heap.size + 1, 0, none⟩) 2 2] 48)).alloc (.cells #[Value.int .u8 number, Value.int .u8 (number / 256)] 5)).heap.size (.slice b.A b.n b.c) b.d) := fun b hb => (hCd b hb).grownB hA2.out (by decide) hg1.out
              replace hv2 := Lib.hid hv2
              replace hCm := Lib.hid hCm
              obtain ⟨k0, k1, k2, k3, k4, k5, z0, z1, z2, z3, z4, z5⟩ := (show wd.cell? ⟨g7, 0, none⟩ = some (Value.int .i64 la.now) ∧ wd.cell? ⟨g7, 1, none⟩ = some (Value.int .i64 la.delay) ∧ wd.cell? ⟨g7, 2, none⟩ = some (Value.bool la.cut) ∧ wd.cell? ⟨g7, 3, none⟩ = some (Value.int .i64 la.count) ∧ wd.cell? ⟨g7, 4, none⟩ = some (Value.slice la.lA la.ln la.lc) ∧ wd.cell? ⟨g7, 5, none⟩ = some (Value.slice la.bA la.bn la.bc) ∧ wd.frozen? ⟨g7, 0, none⟩ = false ∧ wd.frozen? ⟨g7, 1, none⟩ = false ∧ wd.frozen? ⟨g7, 2, none⟩ = false ∧ wd.frozen? ⟨g7, 3, none⟩ = false ∧ wd.frozen? ⟨g7, 4, none⟩ = false ∧ wd.frozen? ⟨g7, 5, none⟩ = false from ⟨hA2.out.cell 0, hA2.out.cell 1, hA2.out.cell 2, hA2.out.cell 3, hA2.out.cell 4, hA2.out.cell 5, hA2.out.frozen 0, hA2.out.frozen 1, hA2.out.frozen 2, hA2.out.frozen 3, hA2.out.frozen 4, hA2.out.frozen 5⟩)
              obtain ⟨x0, x1⟩ := (show ((((((wd.setCell ⟨g7, 0, none⟩ (Value.int .i64 l2.now)).setCell ⟨g7, 1, none⟩ (Value.int .i64 l2.delay)).setCell ⟨g7, 2, none⟩ (Value.bool l2.cut)).setCell ⟨g7, 3, none⟩ (Value.int .i64 l2.count)).setCell ⟨g7, 4, none⟩ (Value.slice l2.lA l2.ln l2.lc)).setCell ⟨g7, 5, none⟩ (Value.slice l2.bA l2.bn l2.bc)).cell? ⟨wr.heap.size, 0, none⟩ = some (Value.int .i64 4) ∧ ((((((wd.setCell ⟨g7, 0, none⟩ (Value.int .i64 l2.now)).setCell ⟨g7, 1, none⟩ (Value.int .i64 l2.delay)).setCell ⟨g7, 2, none⟩ (Value.bool l2.cut)).setCell ⟨g7, 3, none⟩ (Value.int .i64 l2.count)).setCell ⟨g7, 4, none⟩ (Value.slice l2.lA l2.ln l2.lc)).setCell ⟨g7, 5, none⟩ (Value.slice l2.bA l2.bn l2.bc)).cell? ⟨wr.heap.size, 1, none⟩ = some (Value.slice (some ⟨wr.heap.size + 1, 0, none⟩) 2 2) from ⟨hX3.out.cell 0, hX3.out.cell 1⟩)
              clear hok2 hC hCd hA2 hX2 hway2 hb2 hg1
              go_wp2_with fail
              clear k0 k1 k2 k3 k4 k5 z0 z1 z2 z3 z4 z5 x0 x1
              go_roundw
              case rel => exact ⟨k + 1, l2, way, now, number, false, by omega, by go_num, rfl, by go_num, rfl, hA.out, hok.out, (by show _ = _; rw [hv2.out, hrX.out]), hgn.out, hq2.out, hway.out, hb.out, (by have := hwl.out; show way.length ≤ k + 1; omega), by omega, by omega, by omega, by omega⟩
              case measure => simp [intOf]; omega
            · have q4d : (kd == 4) = false := by simpa using q4
              have hrX : Hid (r = (⟨now, delay, cut, number, lose, boxOf way⟩, [], 0)) := by
                show _ = _
                rw [hr.out]
                exact ord_none _ kd _ q1 q2 q3 q4
              go_wp2_with fail
              refine hpl.out.mono ?_; rintro e wd ⟨⟨l2, A6, n6, c6, C6, rfl, hok2, hv2, hC, hCd, hCm, hK2⟩, hq⟩
              rw [e8]
              simp only [lkV]
              have hq2 : Hid (LkQ (fun b => b ≠ g7 ∧ some b ≠ (Value.slice Aw way.length cw).ownBlock) l2) := hK2 _ hqa.out (fun b hb8 => ⟨by have := hbX.out.size; have := hq7.out; omega, fun e => by have := hway.out.blk_lt b e.symm; have := hbX.out.size; omega⟩)
              have hA2 := Lib.hid (hA1.out.below hq hA1.out.lt)
              have hX2 := Lib.hid (hXb.out.below hq hXb.out.lt)
              have hway2 := Lib.hid ((hway.out.kept hbX.out).kept hq)
              have hb2 := Lib.hid ((hb.out.trans (hbX.out.mono hb.out.size)).trans (hq.mono (Nat.le_trans hb.out.size hbX.out.size)))
              have hwdX : Hid (wr.heap.size < wd.heap.size) := Nat.lt_of_lt_of_le (by simp; omega) hq.size
              clear k0 k1 k2 k3 k4 k5 x0 x1 hpl hA1 hXb hway hb hbX hq hqa hK2 hoka
              have hg1 := Lib.hid (grown_set6 wd g7 (Value.int .i64 l2.now) (Value.int .i64 l2.delay) (Value.bool l2.cut) (Value.int .i64 l2.count) (Value.slice l2.lA l2.ln l2.lc) (Value.slice l2.bA l2.bn l2.bc))
              have hA := Lib.hid (lk_set6 hA2.out (Value.int .i64 l2.now) (Value.int .i64 l2.delay) (Value.bool l2.cut) (Value.int .i64 l2.count) (Value.slice l2.lA l2.ln l2.lc) (Value.slice l2.bA l2.bn l2.bc))
              have hX3 := Lib.hid (hX2.out.grown hg1.out (by intro e; injection e with e; have := hq7.out; omega))
              have hok := Lib.hid (LkOk_q hok2 (LkQ.left hq2.out) hg1.out)
              have hway := Lib.hid (hway2.out.far hg1.out (Nat.lt_succ_self _))
              have hb := Lib.hid (hb2.out.grown hg1.out hb2.out.size (fun g8 e8 => by injection e8 with e8; rw [← e8]; exact hg7w.out))
              have hC3 := Lib.hid (hC.grownB hA2.out (by decide) hg1.out)
              have hCd3 : Hid (∀ b ∈ C6, BOwn ((((((wd.setCell ⟨g7, 0, none⟩ (Value.int .i64 l2.now)).setCell ⟨g7, 1, none⟩ (Value.int .i64 l2.delay)).setCell ⟨g7, 2, none⟩ (Value.bool l2.cut)).setCell ⟨g7, 3, none⟩ (Value.int .i64 l2.count)).setCell ⟨g7, 4, none⟩ (Value.slice l2.lA l2.ln l2.lc)).setCell ⟨g7, 5, none⟩ (Value.slice l2.bA l2.bn l2.bc)) ((wr.alloc (.cells #[Value.int .i64 kd, Value.slice (some ⟨wr.heap.size + 1, 0, none⟩) 2 2] 48)).alloc (.cells #[Value.int .u8 number, Value.int .u8 (number / 256)] 5)).heap.size (.slice b.A b.n b.c) b.d) := fun b hb => (hCd b hb).grownB hA2.out (by decide) hg1.out
              replace hv2 := Lib.hid hv2
              replace hCm := Lib.hid hCm
              obtain ⟨k0, k1, k2, k3, k4, k5, z0, z1, z2, z3, z4, z5⟩ := (show wd.cell? ⟨g7, 0, none⟩ = some (Value.int .i64 la.now) ∧ wd.cell? ⟨g7, 1, none⟩ = some (Value.int .i64 la.delay) ∧ wd.cell? ⟨g7, 2, none⟩ = some (Value.bool la.cut) ∧ wd.cell? ⟨g7, 3, none⟩ = some (Value.int .i64 la.count) ∧ wd.cell? ⟨g7, 4, none⟩ = some (Value.slice la.lA la.ln la.lc) ∧ wd.cell? ⟨g7, 5, none⟩ = some (Value.slice la.bA la.bn la.bc) ∧ wd.frozen? ⟨g7, 0, none⟩ = false ∧ wd.frozen? ⟨g7, 1, none⟩ = false ∧ wd.frozen? ⟨g7, 2, none⟩ = false ∧ wd.frozen? ⟨g7, 3, none⟩ = false ∧ wd.frozen? ⟨g7, 4, none⟩ = false ∧ wd.frozen? ⟨g7, 5, none⟩ = false from ⟨hA2.out.cell 0, hA2.out.cell 1, hA2.out.cell 2, hA2.out.cell 3, hA2.out.cell 4, hA2.out.cell 5, hA2.out.frozen 0, hA2.out.frozen 1, hA2.out.frozen 2, hA2.out.frozen 3, hA2.out.frozen 4, hA2.out.frozen 5⟩)
              obtain ⟨x0, x1⟩ := (show ((((((wd.setCell ⟨g7, 0, none⟩ (Value.int .i64 l2.now)).setCell ⟨g7, 1, none⟩ (Value.int .i64 l2.delay)).setCell ⟨g7, 2, none⟩ (Value.bool l2.cut)).setCell ⟨g7, 3, none⟩ (Value.int .i64 l2.count)).setCell ⟨g7, 4, none⟩ (Value.slice l2.lA l2.ln l2.lc)).setCell ⟨g7, 5, none⟩ (Value.slice l2.bA l2.bn l2.bc)).cell? ⟨wr.heap.size, 0, none⟩ = some (Value.int .i64 kd) ∧ ((((((wd.setCell ⟨g7, 0, none⟩ (Value.int .i64 l2.now)).setCell ⟨g7, 1, none⟩ (Value.int .i64 l2.delay)).setCell ⟨g7, 2, none⟩ (Value.bool l2.cut)).setCell ⟨g7, 3, none⟩ (Value.int .i64 l2.count)).setCell ⟨g7, 4, none⟩ (Value.slice l2.lA l2.ln l2.lc)).setCell ⟨g7, 5, none⟩ (Value.slice l2.bA l2.bn l2.bc)).cell? ⟨wr.heap.size, 1, none⟩ = some (Value.slice (some ⟨wr.heap.size + 1, 0, none⟩) 2 2) from ⟨hX3.out.cell 0, hX3.out.cell 1⟩)
              clear hok2 hC hCd hA2 hX2 hway2 hb2 hg1
              go_wp2_with fail
              clear k0 k1 k2 k3 k4 k5 z0 z1 z2 z3 z4 z5 x0 x1
              go_roundw
              case rel => exact ⟨k + 1, l2, way, now, number, cut, by omega, by go_num, rfl, by go_num, rfl, hA.out, hok.out, (by show _ = _; rw [hv2.out, hrX.out]), hgd.out, hq2.out, hway.out, hb.out, (by have := hwl.out; show way.length ≤ k + 1; omega), by omega, by omega, by omega, by omega⟩
              case measure => simp [intOf]; omega
    · obtain ⟨Aw, cw, rfl, -, -, -, -⟩ := hway.out.form
      have hba := hoka.out.ba.len
      have e1 : la.now = now := congrArg Lv.now hv.out
      have e2 : la.count = number := congrArg Lv.count hv.out
      have e3 : la.bn = way.length := by
        have := congrArg (fun v : Lv => v.box.length) hv.out
        simp only [Lk.val, boxOf, List.length_map] at this
        omega
      have hA9 : Hid (Blk wr g7 25 #[Value.int .i64 now, Value.int .i64 la.delay, Value.bool la.cut, Value.int .i64 number, Value.slice la.lA la.ln la.lc, Value.slice la.bA way.length la.bc]) := by
        have := hA.out
        rw [e1, e2, e3] at this
        exact this
      clear e1 e2 e3 hba hA
      obtain ⟨k0, k1, k2, k3, k4, k5⟩ := (show wr.cell? ⟨g7, 0, none⟩ = some (Value.int .i64 now) ∧ wr.cell? ⟨g7, 1, none⟩ = some (Value.int .i64 la.delay) ∧ wr.cell? ⟨g7, 2, none⟩ = some (Value.bool la.cut) ∧ wr.cell? ⟨g7, 3, none⟩ = some (Value.int .i64 number) ∧ wr.cell? ⟨g7, 4, none⟩ = some (Value.slice la.lA la.ln la.lc) ∧ wr.cell? ⟨g7, 5, none⟩ = some (Value.slice la.bA way.length la.bc) from ⟨hA9.out.cell 0, hA9.out.cell 1, hA9.out.cell 2, hA9.out.cell 3, hA9.out.cell 4, hA9.out.cell 5⟩)
      go_wp2_with fail
      go_ret
      exact ⟨rfl, hb.out⟩
end Go.Proofs.Yteolglmdfjddlaa
