/- Ledger: words of LedgerDetects. -/
import Derived.Test.YtiggpgeldigknaaLM
import Derived.Test.YtiggpgeldigknaaRA
set_option linter.unusedVariables false
set_option linter.unusedSimpArgs false
namespace Go.Proofs.Ytiggpgeldigknaa
open Go.RowKit
/-- an empty slice of the call's own -/
def E0 (base : Nat) (v : Value) (w : World) : Prop := ∃ g, v = .slice (some ⟨g, 0, none⟩) 0 0 ∧ base ≤ g ∧ Blk w g 67 #[]
theorem E0.more {base : Nat} {v : Value} {w w' : World} (h : E0 base v w) (hb : Below w.heap.size w w') : E0 base v w' := by
  obtain ⟨g, e, h1, h2⟩ := h
  exact ⟨g, e, h1, h2.below hb h2.lt⟩
theorem lit182 (tm : Array Value) (h : tm.size = 182) : tm = #[tm[0]?.getD undef, tm[1]?.getD undef, tm[2]?.getD undef, tm[3]?.getD undef, tm[4]?.getD undef, tm[5]?.getD undef, tm[6]?.getD undef, tm[7]?.getD undef, tm[8]?.getD undef, tm[9]?.getD undef, tm[10]?.getD undef, tm[11]?.getD undef, tm[12]?.getD undef, tm[13]?.getD undef, tm[14]?.getD undef, tm[15]?.getD undef, tm[16]?.getD undef, tm[17]?.getD undef, tm[18]?.getD undef, tm[19]?.getD undef, tm[20]?.getD undef, tm[21]?.getD undef, tm[22]?.getD undef, tm[23]?.getD undef, tm[24]?.getD undef, tm[25]?.getD undef, tm[26]?.getD undef, tm[27]?.getD undef, tm[28]?.getD undef, tm[29]?.getD undef, tm[30]?.getD undef, tm[31]?.getD undef, tm[32]?.getD undef, tm[33]?.getD undef, tm[34]?.getD undef, tm[35]?.getD undef, tm[36]?.getD undef, tm[37]?.getD undef, tm[38]?.getD undef, tm[39]?.getD undef, tm[40]?.getD undef, tm[41]?.getD undef, tm[42]?.getD undef, tm[43]?.getD undef, tm[44]?.getD undef, tm[45]?.getD undef, tm[46]?.getD undef, tm[47]?.getD undef, tm[48]?.getD undef, tm[49]?.getD undef, tm[50]?.getD undef, tm[51]?.getD undef, tm[52]?.getD undef, tm[53]?.getD undef, tm[54]?.getD undef, tm[55]?.getD undef, tm[56]?.getD undef, tm[57]?.getD undef, tm[58]?.getD undef, tm[59]?.getD undef, tm[60]?.getD undef, tm[61]?.getD undef, tm[62]?.getD undef, tm[63]?.getD undef, tm[64]?.getD undef, tm[65]?.getD undef, tm[66]?.getD undef, tm[67]?.getD undef, tm[68]?.getD undef, tm[69]?.getD undef, tm[70]?.getD undef, tm[71]?.getD undef, tm[72]?.getD undef, tm[73]?.getD undef, tm[74]?.getD undef, tm[75]?.getD undef, tm[76]?.getD undef, tm[77]?.getD undef, tm[78]?.getD undef, tm[79]?.getD undef, tm[80]?.getD undef, tm[81]?.getD undef, tm[82]?.getD undef, tm[83]?.getD undef, tm[84]?.getD undef, tm[85]?.getD undef, tm[86]?.getD undef, tm[87]?.getD undef, tm[88]?.getD undef, tm[89]?.getD undef, tm[90]?.getD undef, tm[91]?.getD undef, tm[92]?.getD undef, tm[93]?.getD undef, tm[94]?.getD undef, tm[95]?.getD undef, tm[96]?.getD undef, tm[97]?.getD undef, tm[98]?.getD undef, tm[99]?.getD undef, tm[100]?.getD undef, tm[101]?.getD undef, tm[102]?.getD undef, tm[103]?.getD undef, tm[104]?.getD undef, tm[105]?.getD undef, tm[106]?.getD undef, tm[107]?.getD undef, tm[108]?.getD undef, tm[109]?.getD undef, tm[110]?.getD undef, tm[111]?.getD undef, tm[112]?.getD undef, tm[113]?.getD undef, tm[114]?.getD undef, tm[115]?.getD undef, tm[116]?.getD undef, tm[117]?.getD undef, tm[118]?.getD undef, tm[119]?.getD undef, tm[120]?.getD undef, tm[121]?.getD undef, tm[122]?.getD undef, tm[123]?.getD undef, tm[124]?.getD undef, tm[125]?.getD undef, tm[126]?.getD undef, tm[127]?.getD undef, tm[128]?.getD undef, tm[129]?.getD undef, tm[130]?.getD undef, tm[131]?.getD undef, tm[132]?.getD undef, tm[133]?.getD undef, tm[134]?.getD undef, tm[135]?.getD undef, tm[136]?.getD undef, tm[137]?.getD undef, tm[138]?.getD undef, tm[139]?.getD undef, tm[140]?.getD undef, tm[141]?.getD undef, tm[142]?.getD undef, tm[143]?.getD undef, tm[144]?.getD undef, tm[145]?.getD undef, tm[146]?.getD undef, tm[147]?.getD undef, tm[148]?.getD undef, tm[149]?.getD undef, tm[150]?.getD undef, tm[151]?.getD undef, tm[152]?.getD undef, tm[153]?.getD undef, tm[154]?.getD undef, tm[155]?.getD undef, tm[156]?.getD undef, tm[157]?.getD undef, tm[158]?.getD undef, tm[159]?.getD undef, tm[160]?.getD undef, tm[161]?.getD undef, tm[162]?.getD undef, tm[163]?.getD undef, tm[164]?.getD undef, tm[165]?.getD undef, tm[166]?.getD undef, tm[167]?.getD undef, tm[168]?.getD undef, tm[169]?.getD undef, tm[170]?.getD undef, tm[171]?.getD undef, tm[172]?.getD undef, tm[173]?.getD undef, tm[174]?.getD undef, tm[175]?.getD undef, tm[176]?.getD undef, tm[177]?.getD undef, tm[178]?.getD undef, tm[179]?.getD undef, tm[180]?.getD undef, tm[181]?.getD undef] := lit_arr tm 182 h
theorem eval_tmp (a : Act) (t : Tmp) : a.eval (.tmp t) = a.tmps[t]?.getD undef := by simp [Act.eval, Array.getD_eq_getD_getElem?]
theorem str_neq {a b : ByteArray} (h : ¬ a = b) : ¬ a.toList = b.toList := by
  intro e
  rw [ByteArray.toList_eq, ByteArray.toList_eq] at e
  exact h (Go.WideShapes.bytes_inj e)
def F20 (am ad : Addr) (nl cm cl k : Nat) (X Y : Array Value) (hd hm hl : Int) : Tmp → Value → World → Prop
  | 9, v, _ => v = .slice (some ad) nl cl
  | 10, v, _ => v = .int .i64 (k : Int)
  | 11, v, _ => v = .slice (some am) nl cm
  | 12, v, _ => v = .bool (hm == hl)
  | 90, v, _ => v = .slice (some am) nl cm
  | 91, v, _ => v = .int .i64 (k : Int)
  | 92, v, _ => v = .slice (some am) k cm
  | 93, v, _ => v = .int .u64 hd
  | 94, v, _ => v = .slice (some am) nl cm
  | 95, v, _ => v = .int .i64 (k : Int)
  | 96, v, _ => v = .pointer (some (am.add (k * 6)))
  | 97, v, _ => v = .agg X
  | 98, v, _ => v = .int .u64 hm
  | 99, v, _ => v = .slice (some ad) nl cl
  | 100, v, _ => v = .int .i64 (k : Int)
  | 101, v, _ => v = .slice (some ad) k cl
  | 102, v, _ => v = .int .u64 hd
  | 103, v, _ => v = .slice (some ad) nl cl
  | 104, v, _ => v = .int .i64 (k : Int)
  | 105, v, _ => v = .pointer (some (ad.add (k * 6)))
  | 106, v, _ => v = .agg Y
  | 107, v, _ => v = .int .u64 hl
  | 108, v, _ => v = .bool (hm == hl)
  | _, _, _ => True
theorem F20_more {am ad : Addr} {nl cm cl k : Nat} {X Y : Array Value} {hd hm hl : Int} (d t : Tmp) (v : Value) (w w' : World) (hR : Rb w w') (hne : t ≠ d) (hc : ([] : List (Tmp × Tmp)).contains (d, t) = false) (h : F20 am ad nl cm cl k X Y hd hm hl t v w) : F20 am ad nl cm cl k X Y hd hm hl t v w' := by
  unfold F20 at *
  split at h <;> first | exact h
def F21 (am ad : Addr) (nl cm cl k : Nat) (X Y : Array Value) (sx sy : Int) (s ns b1 b3 c c2 : Bool) : Tmp → Value → World → Prop
  | 9, v, _ => v = .slice (some ad) nl cl
  | 10, v, _ => v = .int .i64 (k : Int)
  | 11, v, _ => v = .slice (some am) nl cm
  | 12, v, _ => v = .bool s
  | 109, v, _ => v = .slice (some am) nl cm
  | 110, v, _ => v = .int .i64 (k : Int)
  | 111, v, _ => v = .pointer (some (am.add (k * 6)))
  | 112, v, _ => v = .agg X
  | 113, v, _ => v = .slice (some ad) nl cl
  | 114, v, _ => v = .int .i64 (k : Int)
  | 115, v, _ => v = .pointer (some (ad.add (k * 6)))
  | 116, v, _ => v = .agg Y
  | 117, v, _ => v = .bool b1
  | 118, v, _ => v = .bool b1
  | 119, v, _ => b1 = true → v = .bool s
  | 120, v, _ => b1 = true → v = .bool ns
  | 121, v, _ => v = if b1 then .bool ns else undef
  | 122, v, _ => (b1 = true ∧ ns = false) → v = .slice (some am) nl cm
  | 123, v, _ => (b1 = true ∧ ns = false) → v = .int .i64 (k : Int)
  | 124, v, _ => (b1 = true ∧ ns = false) → v = .pointer (some (am.add (k * 6)))
  | 125, v, _ => (b1 = true ∧ ns = false) → v = .pointer (some ⟨(am.add (k * 6)).block, (am.add (k * 6)).off + 5, none⟩)
  | 126, v, _ => (b1 = true ∧ ns = false) → v = .int .u64 sx
  | 127, v, _ => (b1 = true ∧ ns = false) → v = .slice (some ad) nl cl
  | 128, v, _ => (b1 = true ∧ ns = false) → v = .int .i64 (k : Int)
  | 129, v, _ => (b1 = true ∧ ns = false) → v = .pointer (some (ad.add (k * 6)))
  | 130, v, _ => (b1 = true ∧ ns = false) → v = .pointer (some ⟨(ad.add (k * 6)).block, (ad.add (k * 6)).off + 5, none⟩)
  | 131, v, _ => (b1 = true ∧ ns = false) → v = .int .u64 sy
  | 132, v, _ => (b1 = true ∧ ns = false) → v = .bool b3
  | 133, v, _ => b1 = true → v = .bool c
  | 134, v, _ => v = .bool c2
  | _, _, _ => True
theorem F21_more {am ad : Addr} {nl cm cl k : Nat} {X Y : Array Value} {sx sy : Int} {s ns b1 b3 c c2 : Bool} (d t : Tmp) (v : Value) (w w' : World) (hR : Rb w w') (hne : t ≠ d) (hc : ([] : List (Tmp × Tmp)).contains (d, t) = false) (h : F21 am ad nl cm cl k X Y sx sy s ns b1 b3 c c2 t v w) : F21 am ad nl cm cl k X Y sx sy s ns b1 b3 c c2 t v w' := by
  unfold F21 at *
  split at h <;> first | exact h
def F27 (base : Nat) (ad : Addr) (nl cl k : Nat) (L : List Ln) : Tmp → Value → World → Prop
  | 9, v, _ => v = .slice (some ad) nl cl
  | 10, v, _ => v = .int .i64 (k : Int)
  | 15, v, _ => v = .int .i64 (k : Int)
  | 16, v, _ => v = .int .i64 7
  | 158, v, _ => v = .tuple #[.int .i64 k, .int .i64 7]
  | 159, v, w => E0 base v w
  | 160, v, _ => v = .slice (some ad) nl cl
  | 161, v, _ => v = .int .i64 (k : Int)
  | 162, v, _ => v = .slice (some ad) k cl
  | 163, v, w => LOwn lnC 6 67 w base v (L.take k)
  | 164, v, _ => v = .slice (some ad) nl cl
  | 165, v, _ => v = .int .i64 (k : Int)
  | 166, v, _ => v = .int .i64 ((k : Int) + 1)
  | 167, v, _ => v = .slice (if cl = k + 1 then some ad else some (ad.add ((k + 1) * 6))) (nl - (k + 1)) (cl - (k + 1))
  | 168, v, w => LOwn lnC 6 67 w base v (L.take k ++ L.drop (k + 1))
  | 169, v, _ => v = .tuple #[.int .i64 k, .int .i64 7]
  | 170, v, _ => v = .int .i64 (k : Int)
  | 171, v, _ => v = .int .i64 7
  | _, _, _ => True
def R27 (base : Nat) (d : Tmp) (w w' : World) : Prop := if d = 168 then w.heap.size ≤ w'.heap.size ∧ ∀ b, base ≤ b → w.heap[b]? = some (.cells #[] 67) → w'.heap[b]? = w.heap[b]? else Below w.heap.size w w'
theorem F27_more {base : Nat} {ad : Addr} {nl cl k : Nat} {L : List Ln} (d t : Tmp) (v : Value) (w w' : World) (hR : R27 base d w w') (hne : t ≠ d) (hc : [((168 : Nat), (163 : Nat))].contains (d, t) = false) (h : F27 base ad nl cl k L t v w) : F27 base ad nl cl k L t v w' := by
  unfold R27 at hR
  by_cases hd : d = 168
  · subst hd
    rw [if_pos rfl] at hR
    unfold F27 at *
    split at h <;> first
      | exact h
      | exact absurd rfl hne
      | exact absurd hc (by decide)
      | (obtain ⟨g, e, hb, hk⟩ := h; exact ⟨g, e, hb, (hR.2 g hb hk).trans hk⟩)
  · rw [if_neg hd] at hR
    unfold F27 at *
    split at h <;> first | exact h | exact E0.more h hR | exact LOwn.kept h hR
end Go.Proofs.Ytiggpgeldigknaa
