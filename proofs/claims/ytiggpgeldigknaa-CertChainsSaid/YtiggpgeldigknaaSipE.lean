/- Seal: the reference's sum, walked. -/
import Derived.Test.YtiggpgeldigknaaSipD
set_option linter.unusedVariables false
namespace Go.Proofs.Ytiggpgeldigknaa
open Go.RowKit
theorem SB.over {t : TypeId} {w0 w w' : World} {g : Nat} {a b c d : Int} (h : SB t w0 g a b c d w) (hb : Below w.heap.size w w') : SB t w' g a b c d w' :=
  ⟨(hb.block g (lt_of_heap h.1)).trans h.1, World.grownBy.refl _ _⟩
set_option maxRecDepth 100000 in
set_option maxHeartbeats 1000000 in
theorem pair_any (A : Option Addr) (l : List UInt8) (n cap : Nat) (k0 l0 : Int) (w : World) (h : BytesAt w w.heap.size A l) (hn : l.length = n) (hl : l.length ≤ 5000) :
    Calls Try.prog 105 #[.int .u64 k0, .int .u64 l0, .slice A n cap] w fun e w' => e = .returned (.int .u64 (Sip.pair k0 l0 l)) ∧ Below w.heap.size w w' := by
  subst hn
  replace h := Lib.hid h
  go_enter Try.func105, Try.ntmps105
  go_wp2
  generalize hS : Sip.start k0 l0 = S
  replace hS := Lib.hid hS
  refine wp_world (fun w1 => SB 141 w1 w.heap.size S.a S.b S.c S.d w1 ∧ Below w.heap.size w w1) ⟨⟨by rw [← hS.out]; exact heap_alloc_new _ _, World.grownBy.refl _ _⟩, (Below.refl _ _).alloc (Nat.le_refl _) _⟩ ?_
  intro W1 hW; replace hW := Lib.hid hW
  generalize hG : w.heap.size = G at *
  replace hG := Lib.hid hG
  go_loopw [8] (fun i wr => ∃ k : Nat, 8 * k ≤ l.length + 8 ∧ i = .int .i64 ((8 * k : Nat) : Int) ∧ SB 141 wr G (Sip.st S l k).a (Sip.st S l k).b (Sip.st S l k).c (Sip.st S l k).d wr ∧ Below G w wr) (fun i _ => l.length + 16 - (intOf i).toNat)
  case atStart => exact ⟨0, by omega, rfl, hW.out.1, hW.out.2⟩
  case round =>
    obtain ⟨k, hk, rfl, h1, hb⟩ := hrel
    have hR : Hid (Sip.st S l (k + 1) = Sip.absorb (Sip.st S l k) (Sip.wordAt l (8 * k))) := by show _ = _; rw [Sip.st]
    generalize hz : Sip.st S l k = z at h1 hR
    replace hz := Lib.hid hz
    obtain ⟨a, b, c, d⟩ := z
    simp only at h1
    obtain ⟨c0, c1, c2, c3, f0⟩ := h1.facts
    replace h1 := Lib.hid h1
    replace hb := Lib.hid hb
    by_cases hlt : 8 * k ≤ l.length
    · go_wp2_with fail
      refine (rword_any A G l l.length cap (8 * k) _ (h.out.below hb.out (Nat.le_refl _)) rfl hl hlt).mono ?_
      rintro e w2 ⟨rfl, rfl⟩
      generalize hm : Sip.wordAt l (8 * k) = m at *
      replace hm := Lib.hid hm
      go_wp2_with fail
      have h2 := (h1.out.set3 (bits .xor .u64 d m)).anew
      have hb2 : Below G w (w2.setCell ⟨G, 3, none⟩ (.int .u64 (bits .xor .u64 d m))) := hb.out.setCell (Nat.le_refl _) _
      refine (rrounds_any 2 (by omega) _ ⟨a, b, c, bits .xor .u64 d m⟩).mono ?_
      rintro e w3 ⟨rfl, hb3⟩
      have h3 := h2.over hb3
      replace hb3 := Lib.hid (hb2.trans (hb3.mono (Nat.le_of_lt (lt_of_heap h2.1))))
      clear hb2 h2 c0 c1 c2 c3 f0
      have hA : Hid (Sip.absorb ⟨a, b, c, d⟩ m = ⟨bits .xor .u64 (Sip.rnds ⟨a, b, c, bits .xor .u64 d m⟩ 2).a m, (Sip.rnds ⟨a, b, c, bits .xor .u64 d m⟩ 2).b, (Sip.rnds ⟨a, b, c, bits .xor .u64 d m⟩ 2).c, (Sip.rnds ⟨a, b, c, bits .xor .u64 d m⟩ 2).d⟩) := by
        show Sip.absorb ⟨a, b, c, d⟩ m = _
        rw [Sip.absorb]
      generalize hy : Sip.rnds ⟨a, b, c, bits .xor .u64 d m⟩ 2 = y at *
      replace hy := Lib.hid hy
      obtain ⟨ya, yb, yc, yd⟩ := y
      simp only at hA
      obtain ⟨c0, c1, c2, c3, f0⟩ := h3.facts
      replace h3 := Lib.hid h3
      go_wp2_with fail
      go_roundw
      case rel =>
        have h4 := ((((h3.out.set0 ya).set1 yb).set2 yc).set3 yd).set0 (bits .xor .u64 ya m)
        refine ⟨k + 1, by omega, by go_num, ?_, below_of_grown hb3.out h4.2 (Nat.le_refl _) (lt_of_heap h3.out.1)⟩
        rw [hR.out, hA.out]
        exact h4.anew
      case measure => simp [intOf]; omega
    · have hq : Hid (l.length / 8 + 1 = k) := by show _ = _; omega
      go_wp2_with fail
      have h2 := (h1.out.set2 (bits .xor .u64 c 255)).anew
      have hb2 : Below G w (wr.setCell ⟨G, 2, none⟩ (.int .u64 (bits .xor .u64 c 255))) := hb.out.setCell (Nat.le_refl _) _
      refine (rrounds_any 4 (by omega) _ ⟨a, b, bits .xor .u64 c 255, d⟩).mono ?_
      rintro e w3 ⟨rfl, hb3⟩
      have h3 := h2.over hb3
      replace hb3 := Lib.hid (hb2.trans (hb3.mono (Nat.le_of_lt (lt_of_heap h2.1))))
      clear hb2 h2 c0 c1 c2 c3 f0
      generalize hy : Sip.rnds ⟨a, b, bits .xor .u64 c 255, d⟩ 4 = y at *
      replace hy := Lib.hid hy
      obtain ⟨ya, yb, yc, yd⟩ := y
      obtain ⟨c0, c1, c2, c3, f0⟩ := h3.facts
      replace h3 := Lib.hid h3
      go_wp2_with fail
      have h4 := ((((h3.out.set0 ya).set1 yb).set2 yc).set3 yd)
      go_ret
      exact ⟨ret_u64 (by simp only [Sip.pair, hS.out, hq.out, hz.out, hy.out, Sip.fin]), by rw [hG.out]; exact below_of_grown hb3.out h4.2 (Nat.le_refl _) (lt_of_heap h3.out.1)⟩
end Go.Proofs.Ytiggpgeldigknaa
