/- Seal: the sums, walked. -/
import Derived.Test.YtiggpgeldigknaaSipC
set_option linter.unusedVariables false
namespace Go.Proofs.Ytiggpgeldigknaa
open Go.RowKit
def Sip.wordAt (l : List UInt8) (p : Nat) : Int :=
  if l.length < p + 8 then bits .or .u64 (Sip.lit (l.drop p) (l.length - p)) ((l.length : Int) % 256 * 72057594037927936) else Sip.lit (l.drop p) 8
theorem ret_u64 {a b : Int} (h : a = b) : Ending.returned (.int .u64 a) = .returned (.int .u64 b) := by rw [h]
theorem Sip.lit_take (l : List UInt8) (m : Nat) : ∀ k, k ≤ m → Sip.lit (l.take m) k = Sip.lit l k
  | 0, _ => rfl
  | k + 1, h => by
    simp only [Sip.lit]
    rw [Sip.lit_take l m k (by omega)]
    simp [List.getD_eq_getElem?_getD  , show k < m by omega]
set_option maxRecDepth 100000 in
set_option maxHeartbeats 1000000 in
theorem rword_any (A : Option Addr) (B : Nat) (l : List UInt8) (n cap : Nat) (p : Nat) (w : World) (h : BytesAt w B A l) (hn : l.length = n) (hl : l.length ≤ 5000) (hp : p ≤ l.length) :
    Calls Try.prog 113 #[.slice A n cap, .int .i64 p] w fun e w' => e = .returned (.int .u64 (Sip.wordAt l p)) ∧ w' = w := by
  subst hn
  replace h := Lib.hid h
  go_enter Try.func113, Try.ntmps113
  go_wp2
  go_loop [5, 6] (fun m i => ∃ k : Nat, k ≤ 8 ∧ p + k ≤ l.length ∧ i = .int .i64 k ∧ m = .int .u64 (Sip.lit (l.drop p) k)) (fun _ i => 8 - (intOf i).toNat)
  case atStart => exact ⟨0, Nat.zero_le _, by omega, rfl, rfl⟩
  case round =>
    obtain ⟨k, hk, hk2, rfl, rfl⟩ := hrel
    by_cases h8 : k < 8
    · by_cases hlt : p + k < l.length
      · obtain ⟨ad, rfl, _, hc⟩ := h.out (by omega)
        have hc0 := hc (p + k) hlt
        clear hc
        have hb : ((l[p + k]'hlt).toNat : Int) < 256 := by have := (l[p + k]'hlt).toNat_lt; omega
        have H : Hid (Sip.lit (l.drop p) (k + 1) = bits .or .u64 (Sip.lit (l.drop p) k) (IntKind.u64.wrap (((l[p + k]'hlt).toNat : Int) * 2 ^ (8 * k)))) := by
          show Sip.lit (l.drop p) (k + 1) = _
          rw [Sip.lit]; simp [List.getD_eq_getElem?_getD, List.getElem?_eq_getElem hlt]
        go_wp2
        go_round
        case rel => exact ⟨k + 1, by omega, by omega, by go_num, by rw [H.out]⟩
        case measure => simp [intOf]; omega
      · go_wp2
        go_ret
        exact ⟨ret_u64 (by rw [Sip.wordAt, if_pos (by omega), show l.length - p = k by omega]), rfl⟩
    · go_wp2
      go_ret
      exact ⟨ret_u64 (by rw [Sip.wordAt, if_neg (by omega), show k = 8 by omega]), rfl⟩
def Sip.st (s : Sip.St) (l : List UInt8) : Nat → Sip.St
  | 0 => s
  | k + 1 => Sip.absorb (Sip.st s l k) (Sip.wordAt l (8 * k))
def Sip.start (k l : Int) : Sip.St := ⟨bits .xor .u64 k 8317987319222330741, bits .xor .u64 l 7237128888997146477, bits .xor .u64 k 7816392313619706465, bits .xor .u64 l 8387220255154660723⟩
def Sip.fin (s : Sip.St) : Int := bits .xor .u64 (bits .xor .u64 (bits .xor .u64 s.a s.b) s.c) s.d
def Sip.pair (k l : Int) (b : List UInt8) : Int :=
  let s := Sip.st (Sip.start k l) b (b.length / 8 + 1)
  Sip.fin (Sip.rnds ⟨s.a, s.b, bits .xor .u64 s.c 255, s.d⟩ 4)
theorem BytesAt.cut {w : World} {B : Nat} {A : Option Addr} {l : List UInt8} (h : BytesAt w B A l) {k cap : Nat} (hc : l.length ≤ cap) :
    BytesAt w B (if cap = k then A else A.map (·.add k)) (l.drop k) := by
  intro hn
  simp only [List.length_drop] at hn
  obtain ⟨ad, rfl, hb, hcell⟩ := h (by omega)
  rw [if_neg (by omega)]
  have hblk : (ad.add k).block = ad.block := by unfold Addr.add; split <;> rfl
  have hadd : ∀ j, (ad.add k).add j = ad.add (k + j) := fun j => by
    unfold Addr.add
    by_cases hi : k = 0 <;> by_cases hj : j = 0 <;> simp [hi, hj, Nat.add_assoc]
  refine ⟨ad.add k, rfl, by rw [hblk]; exact hb, fun j hj => ?_⟩
  rw [hadd, List.getElem_drop]
  exact hcell _ _
theorem BytesAt.take {w : World} {B : Nat} {A : Option Addr} {l : List UInt8} (h : BytesAt w B A l) (k : Nat) : BytesAt w B A (l.take k) := by
  intro hn
  simp only [List.length_take] at hn
  obtain ⟨ad, rfl, hb, hcell⟩ := h (by omega)
  refine ⟨ad, rfl, hb, fun j hj => ?_⟩
  rw [List.getElem_take]
  exact hcell _ _
theorem BytesAt.below {w w' : World} {B B' : Nat} {A : Option Addr} {l : List UInt8} (h : BytesAt w B A l) (hb : Below B' w w') (hB : B ≤ B') : BytesAt w' B A l := by
  intro hn
  obtain ⟨ad, rfl, h1, hcell⟩ := h hn
  refine ⟨ad, rfl, h1, fun j hj => ?_⟩
  rw [← hcell j hj]
  exact hb.cell (by have hblk : (ad.add j).block = ad.block := by unfold Addr.add; split <;> rfl
                    omega)
theorem grown_below {w w' : World} {g : Nat} (h : w.grownBy w' (some g)) (hg : g ≤ w.heap.size) : Below g w w' := ⟨h.os, h.tape, h.output, h.size, fun i hi => h.block i (Nat.lt_of_lt_of_le hi hg) (by simp; omega)⟩
theorem SB.step {t : TypeId} {w0 w w' : World} {g : Nat} {a b c d a' b' c' d' : Int} (h : SB t w0 g a b c d w) (h' : SB t w g a' b' c' d' w') : SB t w0 g a' b' c' d' w' :=
  ⟨h'.1, ⟨h'.2.os.trans h.2.os, h'.2.tape.trans h.2.tape, h'.2.output.trans h.2.output, Nat.le_trans h.2.size h'.2.size, fun k hk hne => (h'.2.block k (Nat.lt_of_lt_of_le hk h.2.size) hne).trans (h.2.block k hk hne)⟩⟩
theorem SB.anew {t : TypeId} {w0 w : World} {g : Nat} {a b c d : Int} (h : SB t w0 g a b c d w) : SB t w g a b c d w := ⟨h.1, World.grownBy.refl _ _⟩
def sliceLen : Value → Nat | .slice _ n _ => n | _ => 0
set_option maxRecDepth 100000 in
set_option maxHeartbeats 1000000 in
theorem sum_any (A : Option Addr) (l : List UInt8) (n cap : Nat) (key : Int) (w : World) (h : BytesAt w w.heap.size A l) (hn : l.length = n) (hl : l.length ≤ 5000) (hc : l.length ≤ cap) :
    Calls Try.prog 98 #[.int .u64 key, .slice A n cap] w fun e w' => e = .returned (.int .u64 (Sip.pair key (bits .xor .u64 key 6616326155283851669) l)) ∧ Below w.heap.size w w' := by
  subst hn
  replace h := Lib.hid h
  go_enter Try.func98, Try.ntmps98
  go_wp2
  generalize hS : Sip.start key (bits .xor .u64 key 6616326155283851669) = S
  replace hS := Lib.hid hS
  refine wp_world (fun w1 => SB 136 w1 w.heap.size S.a S.b S.c S.d w1 ∧ Below w.heap.size w w1) ⟨⟨by rw [← hS.out]; exact heap_alloc_new _ _, World.grownBy.refl _ _⟩, (Below.refl _ _).alloc (Nat.le_refl _) _⟩ ?_
  intro W1 hW; replace hW := Lib.hid hW
  generalize hG : w.heap.size = G at *
  replace hG := Lib.hid hG
  go_loopw [1] (fun b wr => ∃ (k : Nat) (A' : Option Addr) (c' : Nat), 8 * k ≤ l.length ∧ b = .slice A' (l.length - 8 * k) c' ∧ l.length - 8 * k ≤ c' ∧ BytesAt w G A' (l.drop (8 * k)) ∧
      SB 136 W1 G (Sip.st S l k).a (Sip.st S l k).b (Sip.st S l k).c (Sip.st S l k).d wr) (fun b _ => sliceLen b)
  case atStart => exact ⟨0, A, cap, by omega, rfl, by omega, h.out, hW.out.1⟩
  case round =>
    obtain ⟨k, A', c', hk, rfl, hc', hb, h1⟩ := hrel
    replace hb := Lib.hid hb
    replace h1 := Lib.hid h1
    have hbw : Hid (Below G w wr) := below_of_grown hW.out.2 h1.out.2 (Nat.le_refl _) (lt_of_heap hW.out.1.1)
    by_cases hlt : 8 ≤ l.length - 8 * k
    · have HW : Hid (Sip.lit ((l.drop (8 * k)).take 8) ((l.drop (8 * k)).take 8).length = Sip.wordAt l (8 * k)) := by
        have e : ((l.drop (8 * k)).take 8).length = 8 := by simp; omega
        show _ = _
        rw [e, Sip.wordAt, if_neg (by omega), Sip.lit_take _ _ _ (by omega)]
      go_wp2_with fail
      refine (little_any A' G ((l.drop (8 * k)).take 8) 8 c' _ ((hb.out.below hbw.out (Nat.le_refl _)).take 8) (by simp; omega) (by simp; omega)).mono ?_
      rintro e w2 ⟨rfl, rfl⟩
      rw [HW.out]
      go_wp2_with fail
      refine (word_any _ _ G (Sip.st S l k) h1.out.anew).mono ?_
      rintro e w3 ⟨rfl, h2⟩
      replace h2 := Lib.hid (h1.out.step h2)
      go_wp2_with fail
      go_roundw
      case rel =>
        refine ⟨k + 1, _, c' - 8, by omega, by rw [show l.length - 8 * (k + 1) = l.length - 8 * k - 8 by omega], by omega, ?_, h2.out⟩
        have := hb.out.cut (k := 8) (cap := c') (by simp; omega)
        rw [List.drop_drop] at this
        rw [show 8 * (k + 1) = 8 * k + 8 by omega]
        exact this
      case measure => simp [sliceLen]; omega
    · have HL : Hid (Sip.lit (l.drop (8 * k)) (l.drop (8 * k)).length = Sip.lit (l.drop (8 * k)) (l.length - 8 * k)) := by show _ = _; simp
      have HW : Hid (bits .or .u64 (Sip.lit (l.drop (8 * k)) (l.length - 8 * k)) (IntKind.u64.wrap ((l.length : Int) * 72057594037927936)) = Sip.wordAt l (8 * k)) := by
        show _ = _
        rw [Sip.wordAt, if_pos (by omega)]
        congr 1
        rw [IntKind.wrap]; simp [IntKind.bits, IntKind.signed]; omega
      go_wp2_with fail
      refine (little_any A' G (l.drop (8 * k)) (l.length - 8 * k) c' _ (hb.out.below hbw.out (Nat.le_refl _)) (by simp) (by simp; omega)).mono ?_
      rintro e w2 ⟨rfl, rfl⟩
      rw [HL.out]
      go_wp2_with fail
      rw [HW.out]
      refine (word_any _ _ G (Sip.st S l k) h1.out.anew).mono ?_
      rintro e w3 ⟨rfl, h2⟩
      have hq : l.length / 8 + 1 = k + 1 := by omega
      have h3 : SB 136 W1 G (Sip.st S l (k + 1)).a (Sip.st S l (k + 1)).b (Sip.st S l (k + 1)).c (Sip.st S l (k + 1)).d w3 := h1.out.step h2
      clear h2 HW HL
      generalize hz : Sip.st S l (k + 1) = z at h3
      replace hz := Lib.hid hz
      replace hq := Lib.hid hq
      obtain ⟨a, b, c, d⟩ := z
      simp only at h3
      obtain ⟨c0, c1, c2, c3, f0⟩ := h3.facts
      replace h3 := Lib.hid h3
      go_wp2_with fail
      refine (rounds_any 4 (by omega) _ G ⟨a, b, bits .xor .u64 c 255, d⟩ (h3.out.set2 _).anew).mono ?_
      rintro e w4 ⟨rfl, h4⟩
      replace h4 := (h3.out.set2 _).step h4
      clear c0 c1 c2 c3 f0
      generalize hy : Sip.rnds ⟨a, b, bits .xor .u64 c 255, d⟩ 4 = y at h4
      replace hy := Lib.hid hy
      obtain ⟨a2, b2, c2, d2⟩ := y
      simp only at h4
      obtain ⟨c0, c1, c2, c3, f0⟩ := h4.facts
      replace h4 := Lib.hid h4
      go_wp2_with fail
      go_ret
      refine ⟨ret_u64 ?_, ?_⟩
      · simp only [Sip.pair, hS.out, hq.out, hz.out, hy.out, Sip.fin]
      · rw [hG.out]; exact below_of_grown hW.out.2 h4.out.2 (Nat.le_refl _) (lt_of_heap hW.out.1.1)
end Go.Proofs.Ytiggpgeldigknaa
