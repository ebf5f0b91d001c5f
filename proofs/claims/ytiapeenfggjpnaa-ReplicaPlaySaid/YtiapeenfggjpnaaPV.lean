/- Replicated servers: words for the laws: a cluster in a box that was made by some calls. -/
import Derived.Test.YtiapeenfggjpnaaPS
import Derived.BigQuiet
set_option linter.unusedVariables false
set_option linter.unusedSimpArgs false
namespace Go.Proofs.Ytiapeenfggjpnaa
open Go.RowKit
/-- a cluster in a box -/
structure CBox (w : World) (g : Nat) (k : Cm) : Prop where
  blk : Blk w g 24 #[Value.int .i64 k.primary, Value.int .i64 k.view, Value.int .i64 k.commit, Value.slice k.A k.n k.c]
  at_ : CmAt w (fun b => b ≠ g) k
theorem CBox.more {w w' : World} {g : Nat} {k : Cm} (h : CBox w g k) (hq : Below w.heap.size w w') : CBox w' g k := ⟨h.blk.below hq h.blk.lt, h.at_.more hq⟩
/-- a cluster that m calls made, in a box of the call's own; C: what is committed -/
structure StOk (w0 : World) (M m g : Nat) (C : List En) (k : Cm) (w : World) : Prop where
  box : CBox w g k
  inv : Inv k.val C
  good : Good m k.val
  len : k.n = M
  below : Below w0.heap.size w0 w
  base : w0.heap.size ≤ g
section
variable {w0 w w2 : World} {M m g : Nat} {C C' : List En} {k k' : Cm}
theorem StOk.more (h : StOk w0 M m g C k w) (hq : Below w.heap.size w w2) : StOk w0 M m g C k w2 := ⟨h.box.more hq, h.inv, h.good, h.len, h.below.trans (hq.mono h.below.size), h.base⟩
theorem val_len {w : World} {Q : Nat → Prop} {k : Cm} (h : CmAt w Q k) : k.val.servers.length = k.n := by
  have : k.servers.length = k.n := h.at_.len
  show (k.servers.map _).length = _
  rw [List.length_map, this]
theorem StOk.sm2 (h : StOk w0 M m g C k w) (hm : m ≤ 120) : CmSm2 k := sm2_of h.box.at_ ⟨h.inv.n1, h.inv.n7, fun s hs => by
  obtain ⟨-, h1, -, h2⟩ := h.good.all s hs
  omega⟩
theorem StOk.hp1 (h : StOk w0 M m g C k w) : k.primary < k.n := by
  have := h.inv.p1
  rw [val_len h.box.at_] at this
  exact this
theorem StOk.hv (h : StOk w0 M m g C k w) : 1 ≤ k.view ∧ k.view ≤ 2147483647 := ⟨h.inv.v1, h.good.v2⟩
theorem StOk.hpu (h : StOk w0 M m g C k w) : ∀ p, primOf k.val = some p → p.up = true := fun p hp => (h.inv.prim p hp).1
theorem StOk.com (h : StOk w0 M m g C k w) (hm : m ≤ 120) : Calls Try.prog 17 #[clV k] w fun e w' => ComRes w w' (C.map (·.d)) e ∧ Below w.heap.size w w' := by
  obtain ⟨h1, h2, -⟩ := committed_eq h.inv
  rw [← h1]
  exact committed_any k C.length w h.box.at_ (h.sm2 hm) h.inv.com.symm h2
theorem StOk.sm1 (h : StOk w0 M m g C k w) (hm : m ≤ 121) : CmSm k := by
  have h7 := h.inv.n7
  have h1 := h.inv.n1
  rw [val_len h.box.at_] at h7 h1
  refine ⟨h1, by omega, fun s hs => ?_⟩
  obtain ⟨-, g1, -, g2⟩ := h.good.all s.val (List.mem_map_of_mem hs)
  have h6 : s.log.length = s.n := LogAt.len (h.box.at_.els s hs)
  have g1 : (s.log.map Em.val).length ≤ 4096 := g1
  have g2 : lenD (s.log.map Em.val) ≤ 8198 * m := g2
  rw [List.length_map] at g1
  rw [sumD_val] at g2
  omega
theorem StOk.com1 (h : StOk w0 M m g C k w) (hm : m ≤ 121) : Calls Try.prog 17 #[clV k] w fun e w' => ComRes w w' (C.map (·.d)) e ∧ Below w.heap.size w w' := by
  obtain ⟨h1, h2, -⟩ := committed_eq h.inv
  rw [← h1]
  exact committed_any0 k C.length w h.box.at_ (h.sm1 hm) h.inv.com.symm h2
theorem StOk.valid (h : StOk w0 M m g C k w) : Calls Try.prog 25 #[clV k] w fun e w' => e = .returned (.int .i64 0) ∧ Below w.heap.size w w' := by
  have := valid_any k w h.box.at_
  rw [valid_of h.inv h.good] at this
  exact this
/-- the box takes the cluster that a call gave -/
theorem StOk.store {m' : Nat} (h : StOk w0 M m g C k w) (hq : Below w.heap.size w w2) (hk : CmAt w2 (fun b => b ≠ g ∨ w.heap.size ≤ b) k') (hi : Inv k'.val C') (hgd : Good m' k'.val) (hl : k'.val.servers.length = k.val.servers.length) : StOk w0 M m' g C' k' ((((w2.setCell ⟨g, 0, none⟩ (Value.int .i64 k'.primary)).setCell ⟨g, 1, none⟩ (Value.int .i64 k'.view)).setCell ⟨g, 2, none⟩ (Value.int .i64 k'.commit)).setCell ⟨g, 3, none⟩ (Value.slice k'.A k'.n k'.c)) := by
  have hg := grown_set4 w2 g (Value.int .i64 k'.primary) (Value.int .i64 k'.view) (Value.int .i64 k'.commit) (Value.slice k'.A k'.n k'.c)
  have hlt := h.box.blk.lt
  refine ⟨⟨cl_set4 (h.box.blk.below hq hlt) (Value.int .i64 k'.primary) (Value.int .i64 k'.view) (Value.int .i64 k'.commit) (Value.slice k'.A k'.n k'.c), (hk.imp (Q' := fun b => b ≠ g) (fun b hb => hb.elim (fun h => h) (fun h => by omega))).st hg (fun b hb e => by injection e with e; exact hb e)⟩, hi, hgd, ?_, below_set4 (h.below.trans (hq.mono h.below.size)) h.base (Value.int .i64 k'.primary) (Value.int .i64 k'.view) (Value.int .i64 k'.commit) (Value.slice k'.A k'.n k'.c), h.base⟩
  rw [← h.len, ← val_len h.box.at_, ← val_len hk, hl]
/-- as store, for a result of a call in plain words -/
theorem StOk.next {c' : Cv} {d : List UInt8} (h : StOk w0 M m g C k w) (hq : Below w.heap.size w w2) (hk : CmAt w2 (fun b => b ≠ g ∨ w.heap.size ≤ b) k') (hv : k'.val = c') (hi : Inv c' C') (hf : From k.val d c') : StOk w0 M (m + 1) g C' k' ((((w2.setCell ⟨g, 0, none⟩ (Value.int .i64 k'.primary)).setCell ⟨g, 1, none⟩ (Value.int .i64 k'.view)).setCell ⟨g, 2, none⟩ (Value.int .i64 k'.commit)).setCell ⟨g, 3, none⟩ (Value.slice k'.A k'.n k'.c)) := by
  subst hv
  exact h.store hq hk hi (h.good.step h.inv hf) hf.len
/-- the new cluster's box -/
theorem StOk.new {n : Nat} (hn : 1 ≤ n) (hn7 : n ≤ 7) (hq : Below w0.heap.size w0 w) (hk : CmAt w (fun b => False ∨ w0.heap.size ≤ b) k) (hv : k.val = newC n) : StOk w0 n 0 w.heap.size [] k (w.alloc (.cells #[Value.int .i64 k.primary, Value.int .i64 k.view, Value.int .i64 k.commit, Value.slice k.A k.n k.c] 24)) := by
  refine ⟨⟨Blk.new w 24 _, ?_⟩, by rw [hv]; exact newC_inv n hn hn7, by rw [hv]; exact newC_good n, ?_, hq.alloc hq.size _, hq.size⟩
  · exact (hk.lt.imp (Q' := fun b => b ≠ w.heap.size) (fun b hb => by have := hb.2; omega)).more (a1 w _)
  · rw [← val_len hk, hv]
    show (List.replicate _ _).length = _
    rw [List.length_replicate, Int.toNat_natCast]
/-- a further cluster that a call gave, in a box of its own -/
theorem StOk.fresh {c' : Cv} {d : List UInt8} (h : StOk w0 M m g C k w) (hq : Below w.heap.size w w2) (hk : CmAt w2 (fun b => b ≠ g ∨ w.heap.size ≤ b) k') (hv : k'.val = c') (hi : Inv c' C') (hf : From k.val d c') : StOk w0 M (m + 1) w2.heap.size C' k' (w2.alloc (.cells #[Value.int .i64 k'.primary, Value.int .i64 k'.view, Value.int .i64 k'.commit, Value.slice k'.A k'.n k'.c] 24)) := by
  subst hv
  have hb := h.below.trans (hq.mono h.below.size)
  refine ⟨⟨Blk.new w2 24 _, (hk.lt.imp (Q' := fun b => b ≠ w2.heap.size) (fun b hb => by have := hb.2; omega)).more (a1 w2 _)⟩, hi, h.good.step h.inv hf, ?_, hb.alloc hb.size _, hb.size⟩
  rw [← h.len, ← val_len h.box.at_, ← val_len hk, hf.len]
theorem StOk.call {x : Ox} (h : StOk w0 M m g C k w) (hm : m ≤ 120) (hx : OxAt w x) : Calls Try.prog 13 #[clV k, .agg #[Value.int .i64 x.kind, Value.int .i64 x.num, Value.slice x.A x.n x.c]] w fun e w' => ResS (fun b => b ≠ g) w w' (callC k.val x.val) e ∧ Below w.heap.size w w' :=
  call_any k x w h.box.at_ (h.sm2 hm) hx h.hp1 h.hv h.hpu
end
end Go.Proofs.Ytiapeenfggjpnaa
