/- Certs: CertChains, walked. -/
import Derived.Test.YtiggpgeldigknaaCS
import Derived.Test.YtiggpgeldigknaaCX
import Derived.Test.YtiggpgeldigknaaRM
import Derived.Test.YtiggpgeldigknaaRA
set_option linter.unusedVariables false
set_option linter.unusedSimpArgs false
namespace Go.Proofs.Ytiggpgeldigknaa
open Go.RowKit
def F10 (g gb : Nat) (ad : Addr) (n cp k base : Nat) (X Bw Cw : Array Value) (E : Int) : Tmp → Value → World → Prop
  | 1, v, _ => v = .pointer (some ⟨g, 0, none⟩)
  | 5, v, _ => v = .pointer (some ⟨gb, 0, none⟩)
  | 7, v, _ => v = .int .i64 k
  | 55, v, _ => v = .pointer (some ⟨g, 8, none⟩)
  | 56, v, _ => v = .slice (some ad) n cp
  | 57, v, _ => v = .int .i64 k
  | 58, v, _ => v = .pointer (some (ad.add (k * 8)))
  | 59, v, _ => v = .agg X
  | 60, v, _ => v = .agg Bw
  | 61, v, _ => v = .tuple #[.agg Cw, .int .i64 E]
  | 54, v, _ => v = .tuple #[.agg Cw, .int .i64 E]
  | 62, v, _ => v = .agg Cw
  | 63, v, _ => v = .int .i64 E
  | 9, v, _ => v = .int .i64 E
  | 8, v, w => Var 52 8 base v w
  | _, _, _ => True
def G10 (base : Nat) (Cw : Array Value) : Tmp → Value → World → Prop
  | 8, v, w => VarIs 52 base Cw v w
  | _, _, _ => True
theorem F10_more {g gb : Nat} {ad : Addr} {n cp k base : Nat} {X Bw Cw : Array Value} {E : Int} (t : Tmp) (v : Value) (w w' : World) (hR : Rb w w') (h : F10 g gb ad n cp k base X Bw Cw E t v w) : F10 g gb ad n cp k base X Bw Cw E t v w' := by
  unfold F10 at *
  split at h <;> first | exact h | exact Var.more h hR
theorem F10_st {g gb : Nat} {ad : Addr} {n cp k base : Nat} {X Bw Cw : Array Value} {E : Int} (u : Value) (t : Tmp) (v : Value) (w w' : World) (hS : St 52 base u w w') (h : F10 g gb ad n cp k base X Bw Cw E t v w) : F10 g gb ad n cp k base X Bw Cw E t v w' := by
  unfold F10 at *
  split at h <;> first | exact h | exact Var.st h hS
theorem G10_more {base : Nat} {Cw : Array Value} (t : Tmp) (v : Value) (w w' : World) (hR : Rb w w') (h : G10 base Cw t v w) : G10 base Cw t v w' := by
  unfold G10 at *
  split at h <;> first | exact h | exact VarIs.more h hR
theorem G10_st {base : Nat} {Cw : Array Value} (u : Value) (t : Tmp) (v : Value) (w w' : World) (hS : St 52 base u w w') (hne : v ≠ u) (h : G10 base Cw t v w) : G10 base Cw t v w' := by
  unfold G10 at *
  split at h <;> first | exact h | exact VarIs.st h hS hne
/-- an empty slice of the call's own -/
def E0c (base : Nat) (v : Value) (w : World) : Prop := ∃ g, v = .slice (some ⟨g, 0, none⟩) 0 0 ∧ base ≤ g ∧ Blk w g 52 #[]
theorem E0c.more {base : Nat} {v : Value} {w w' : World} (h : E0c base v w) (hb : Below w.heap.size w w') : E0c base v w' := by
  obtain ⟨g, e, h1, h2⟩ := h
  exact ⟨g, e, h1, h2.below hb h2.lt⟩
/-- a trust with one revoked number of the call's own -/
def AggIs (base : Nat) (rs : Value) (s : Int) (v : Value) (w : World) : Prop := ∃ g, v = .agg #[rs, .slice (some ⟨g, 0, none⟩) 1 1] ∧ base ≤ g ∧ Blk w g 3 #[Value.int .i64 s]
theorem AggIs.more {base : Nat} {rs : Value} {s : Int} {v : Value} {w w' : World} (h : AggIs base rs s v w) (hb : Below w.heap.size w w') : AggIs base rs s v w' := by
  obtain ⟨g, e, h1, h2⟩ := h
  exact ⟨g, e, h1, h2.below hb h2.lt⟩
theorem eval_tmpc (a : Act) (t : Tmp) : a.eval (.tmp t) = a.tmps[t]?.getD undef := by simp [Act.eval, Array.getD_eq_getD_getElem?]
def F16 (base g gr gt : Nat) (ad : Addr) (k cc : Nat) (T X : Array Value) (now : Int) (C D : List Ct) : Tmp → Value → World → Prop
  | 1, v, _ => v = .pointer (some ⟨g, 0, none⟩)
  | 3, v, _ => v = .pointer (some ⟨gr, 0, none⟩)
  | 6, v, _ => v = .slice (some ad) k cc
  | 10, v, _ => v = .pointer (some ⟨gt, 0, none⟩)
  | 83, v, _ => v = .slice (some ad) k cc
  | 84, v, _ => v = .agg T
  | 85, v, _ => v = .pointer (some ⟨g, 9, none⟩)
  | 86, v, _ => v = .int .i64 now
  | 87, v, _ => v = .int .i64 0
  | 88, v, _ => v = .bool false
  | 89, v, _ => v = .bool false
  | 90, v, w => E0c base v w
  | 91, v, _ => v = .slice (some ad) k cc
  | 92, v, w => LOwn ctC 8 52 w base v C
  | 93, v, _ => v = .agg X
  | 94, v, w => LitIs 52 base 1 X v w
  | 95, v, w => LOwn ctC 8 52 w base v D
  | 96, v, _ => v = .agg T
  | 97, v, _ => v = .pointer (some ⟨g, 9, none⟩)
  | 98, v, _ => v = .int .i64 now
  | 99, v, _ => v = .int .i64 0
  | 100, v, _ => v = .bool false
  | 101, v, _ => v = .bool false
  | _, _, _ => True
def R16 (base : Nat) (d : Tmp) (w w' : World) : Prop := if d = 95 then w.heap.size ≤ w'.heap.size ∧ ∀ b, base ≤ b → w.heap[b]? = some (.cells #[] 52) → w'.heap[b]? = w.heap[b]? else Below w.heap.size w w'
theorem F16_more {base g gr gt : Nat} {ad : Addr} {k cc : Nat} {T X : Array Value} {now : Int} {C D : List Ct} (d t : Tmp) (v : Value) (w w' : World) (hR : R16 base d w w') (hne : t ≠ d) (hc : [((95 : Nat), (92 : Nat)), (95, 94)].contains (d, t) = false) (h : F16 base g gr gt ad k cc T X now C D t v w) : F16 base g gr gt ad k cc T X now C D t v w' := by
  unfold R16 at hR
  by_cases hd : d = 95
  · subst hd
    rw [if_pos rfl] at hR
    unfold F16 at *
    split at h <;> first
      | exact h
      | exact absurd rfl hne
      | exact absurd hc (by decide)
      | (obtain ⟨g, e, hb, hk⟩ := h; exact ⟨g, e, hb, (hR.2 g hb hk).trans hk⟩)
  · rw [if_neg hd] at hR
    unfold F16 at *
    split at h <;> first | exact h | exact E0c.more h hR | exact LOwn.kept h hR | exact LitIs.more h hR
theorem F16_lit (tm : Array Value) (hs : tm.size = 140) : tm = #[tm[0]?.getD undef, tm[1]?.getD undef, tm[2]?.getD undef, tm[3]?.getD undef, tm[4]?.getD undef, tm[5]?.getD undef, tm[6]?.getD undef, tm[7]?.getD undef, tm[8]?.getD undef, tm[9]?.getD undef, tm[10]?.getD undef, tm[11]?.getD undef, tm[12]?.getD undef, tm[13]?.getD undef, tm[14]?.getD undef, tm[15]?.getD undef, tm[16]?.getD undef, tm[17]?.getD undef, tm[18]?.getD undef, tm[19]?.getD undef, tm[20]?.getD undef, tm[21]?.getD undef, tm[22]?.getD undef, tm[23]?.getD undef, tm[24]?.getD undef, tm[25]?.getD undef, tm[26]?.getD undef, tm[27]?.getD undef, tm[28]?.getD undef, tm[29]?.getD undef, tm[30]?.getD undef, tm[31]?.getD undef, tm[32]?.getD undef, tm[33]?.getD undef, tm[34]?.getD undef, tm[35]?.getD undef, tm[36]?.getD undef, tm[37]?.getD undef, tm[38]?.getD undef, tm[39]?.getD undef, tm[40]?.getD undef, tm[41]?.getD undef, tm[42]?.getD undef, tm[43]?.getD undef, tm[44]?.getD undef, tm[45]?.getD undef, tm[46]?.getD undef, tm[47]?.getD undef, tm[48]?.getD undef, tm[49]?.getD undef, tm[50]?.getD undef, tm[51]?.getD undef, tm[52]?.getD undef, tm[53]?.getD undef, tm[54]?.getD undef, tm[55]?.getD undef, tm[56]?.getD undef, tm[57]?.getD undef, tm[58]?.getD undef, tm[59]?.getD undef, tm[60]?.getD undef, tm[61]?.getD undef, tm[62]?.getD undef, tm[63]?.getD undef, tm[64]?.getD undef, tm[65]?.getD undef, tm[66]?.getD undef, tm[67]?.getD undef, tm[68]?.getD undef, tm[69]?.getD undef, tm[70]?.getD undef, tm[71]?.getD undef, tm[72]?.getD undef, tm[73]?.getD undef, tm[74]?.getD undef, tm[75]?.getD undef, tm[76]?.getD undef, tm[77]?.getD undef, tm[78]?.getD undef, tm[79]?.getD undef, tm[80]?.getD undef, tm[81]?.getD undef, tm[82]?.getD undef, tm[83]?.getD undef, tm[84]?.getD undef, tm[85]?.getD undef, tm[86]?.getD undef, tm[87]?.getD undef, tm[88]?.getD undef, tm[89]?.getD undef, tm[90]?.getD undef, tm[91]?.getD undef, tm[92]?.getD undef, tm[93]?.getD undef, tm[94]?.getD undef, tm[95]?.getD undef, tm[96]?.getD undef, tm[97]?.getD undef, tm[98]?.getD undef, tm[99]?.getD undef, tm[100]?.getD undef, tm[101]?.getD undef, tm[102]?.getD undef, tm[103]?.getD undef, tm[104]?.getD undef, tm[105]?.getD undef, tm[106]?.getD undef, tm[107]?.getD undef, tm[108]?.getD undef, tm[109]?.getD undef, tm[110]?.getD undef, tm[111]?.getD undef, tm[112]?.getD undef, tm[113]?.getD undef, tm[114]?.getD undef, tm[115]?.getD undef, tm[116]?.getD undef, tm[117]?.getD undef, tm[118]?.getD undef, tm[119]?.getD undef, tm[120]?.getD undef, tm[121]?.getD undef, tm[122]?.getD undef, tm[123]?.getD undef, tm[124]?.getD undef, tm[125]?.getD undef, tm[126]?.getD undef, tm[127]?.getD undef, tm[128]?.getD undef, tm[129]?.getD undef, tm[130]?.getD undef, tm[131]?.getD undef, tm[132]?.getD undef, tm[133]?.getD undef, tm[134]?.getD undef, tm[135]?.getD undef, tm[136]?.getD undef, tm[137]?.getD undef, tm[138]?.getD undef, tm[139]?.getD undef] := lit_arr tm 140 hs
def F18 (g gt : Nat) (ad : Addr) (k cc : Nat) (T : Array Value) (now tz : Int) : Tmp → Value → World → Prop
  | 1, v, _ => v = .pointer (some ⟨g, 0, none⟩)
  | 6, v, _ => v = .slice (some ad) k cc
  | 10, v, _ => v = .pointer (some ⟨gt, 0, none⟩)
  | 102, v, _ => v = .slice (some ad) k cc
  | 103, v, _ => v = .agg #[Value.slice none 0 0, Value.slice none 0 0]
  | 104, v, _ => v = .pointer (some ⟨g, 9, none⟩)
  | 105, v, _ => v = .int .i64 now
  | 106, v, _ => v = .int .i64 14
  | 107, v, _ => v = .bool false
  | 108, v, _ => v = .bool false
  | 109, v, _ => v = .slice (some ad) k cc
  | 110, v, _ => v = .agg T
  | 111, v, _ => v = .slice (some ad) k cc
  | 112, v, _ => v = .pointer (some ad)
  | 113, v, _ => v = .pointer (some ⟨ad.block, ad.off + 3, none⟩)
  | 114, v, _ => v = .pointer (some ⟨ad.block, ad.off + 4, none⟩)
  | 115, v, _ => v = .int .i64 tz
  | 116, v, _ => v = .int .i64 12
  | 117, v, _ => v = .bool false
  | 118, v, _ => v = .bool false
  | _, _, _ => True
theorem F18_more {g gt : Nat} {ad : Addr} {k cc : Nat} {T : Array Value} {now tz : Int} (d t : Tmp) (v : Value) (w w' : World) (hR : Rb w w') (hne : t ≠ d) (hc : ([] : List (Tmp × Tmp)).contains (d, t) = false) (h : F18 g gt ad k cc T now tz t v w) : F18 g gt ad k cc T now tz t v w' := by
  unfold F18 at *
  split at h <;> first | exact h
theorem F18_lit (tm : Array Value) (hs : tm.size = 140) : tm = #[tm[0]?.getD undef, tm[1]?.getD undef, tm[2]?.getD undef, tm[3]?.getD undef, tm[4]?.getD undef, tm[5]?.getD undef, tm[6]?.getD undef, tm[7]?.getD undef, tm[8]?.getD undef, tm[9]?.getD undef, tm[10]?.getD undef, tm[11]?.getD undef, tm[12]?.getD undef, tm[13]?.getD undef, tm[14]?.getD undef, tm[15]?.getD undef, tm[16]?.getD undef, tm[17]?.getD undef, tm[18]?.getD undef, tm[19]?.getD undef, tm[20]?.getD undef, tm[21]?.getD undef, tm[22]?.getD undef, tm[23]?.getD undef, tm[24]?.getD undef, tm[25]?.getD undef, tm[26]?.getD undef, tm[27]?.getD undef, tm[28]?.getD undef, tm[29]?.getD undef, tm[30]?.getD undef, tm[31]?.getD undef, tm[32]?.getD undef, tm[33]?.getD undef, tm[34]?.getD undef, tm[35]?.getD undef, tm[36]?.getD undef, tm[37]?.getD undef, tm[38]?.getD undef, tm[39]?.getD undef, tm[40]?.getD undef, tm[41]?.getD undef, tm[42]?.getD undef, tm[43]?.getD undef, tm[44]?.getD undef, tm[45]?.getD undef, tm[46]?.getD undef, tm[47]?.getD undef, tm[48]?.getD undef, tm[49]?.getD undef, tm[50]?.getD undef, tm[51]?.getD undef, tm[52]?.getD undef, tm[53]?.getD undef, tm[54]?.getD undef, tm[55]?.getD undef, tm[56]?.getD undef, tm[57]?.getD undef, tm[58]?.getD undef, tm[59]?.getD undef, tm[60]?.getD undef, tm[61]?.getD undef, tm[62]?.getD undef, tm[63]?.getD undef, tm[64]?.getD undef, tm[65]?.getD undef, tm[66]?.getD undef, tm[67]?.getD undef, tm[68]?.getD undef, tm[69]?.getD undef, tm[70]?.getD undef, tm[71]?.getD undef, tm[72]?.getD undef, tm[73]?.getD undef, tm[74]?.getD undef, tm[75]?.getD undef, tm[76]?.getD undef, tm[77]?.getD undef, tm[78]?.getD undef, tm[79]?.getD undef, tm[80]?.getD undef, tm[81]?.getD undef, tm[82]?.getD undef, tm[83]?.getD undef, tm[84]?.getD undef, tm[85]?.getD undef, tm[86]?.getD undef, tm[87]?.getD undef, tm[88]?.getD undef, tm[89]?.getD undef, tm[90]?.getD undef, tm[91]?.getD undef, tm[92]?.getD undef, tm[93]?.getD undef, tm[94]?.getD undef, tm[95]?.getD undef, tm[96]?.getD undef, tm[97]?.getD undef, tm[98]?.getD undef, tm[99]?.getD undef, tm[100]?.getD undef, tm[101]?.getD undef, tm[102]?.getD undef, tm[103]?.getD undef, tm[104]?.getD undef, tm[105]?.getD undef, tm[106]?.getD undef, tm[107]?.getD undef, tm[108]?.getD undef, tm[109]?.getD undef, tm[110]?.getD undef, tm[111]?.getD undef, tm[112]?.getD undef, tm[113]?.getD undef, tm[114]?.getD undef, tm[115]?.getD undef, tm[116]?.getD undef, tm[117]?.getD undef, tm[118]?.getD undef, tm[119]?.getD undef, tm[120]?.getD undef, tm[121]?.getD undef, tm[122]?.getD undef, tm[123]?.getD undef, tm[124]?.getD undef, tm[125]?.getD undef, tm[126]?.getD undef, tm[127]?.getD undef, tm[128]?.getD undef, tm[129]?.getD undef, tm[130]?.getD undef, tm[131]?.getD undef, tm[132]?.getD undef, tm[133]?.getD undef, tm[134]?.getD undef, tm[135]?.getD undef, tm[136]?.getD undef, tm[137]?.getD undef, tm[138]?.getD undef, tm[139]?.getD undef] := lit_arr tm 140 hs
def F23 (base g gt : Nat) (ad : Addr) (k cc i : Nat) (rs : Value) (now s E : Int) : Tmp → Value → World → Prop
  | 1, v, _ => v = .pointer (some ⟨g, 0, none⟩)
  | 6, v, _ => v = .slice (some ad) k cc
  | 10, v, _ => v = .pointer (some ⟨gt, 0, none⟩)
  | 11, v, _ => v = .int .i64 i
  | 125, v, _ => v = .slice (some ad) k cc
  | 126, v, _ => v = .pointer (some ⟨gt, 0, none⟩)
  | 127, v, _ => v = rs
  | 128, v, _ => v = .slice (some ad) k cc
  | 129, v, _ => v = .int .i64 i
  | 130, v, _ => v = .pointer (some (ad.add (i * 8)))
  | 131, v, _ => v = .pointer (some (ad.add (i * 8)))
  | 132, v, _ => v = .int .i64 s
  | 133, v, w => LitIs 3 base 1 #[Value.int .i64 s] v w
  | 134, v, w => AggIs base rs s v w
  | 135, v, _ => v = .pointer (some ⟨g, 9, none⟩)
  | 136, v, _ => v = .int .i64 now
  | 137, v, _ => v = .int .i64 E
  | 138, v, _ => v = .bool false
  | _, _, _ => True
theorem F23_more {base g gt : Nat} {ad : Addr} {k cc i : Nat} {rs : Value} {now s E : Int} (d t : Tmp) (v : Value) (w w' : World) (hR : Rb w w') (hne : t ≠ d) (hc : ([] : List (Tmp × Tmp)).contains (d, t) = false) (h : F23 base g gt ad k cc i rs now s E t v w) : F23 base g gt ad k cc i rs now s E t v w' := by
  unfold F23 at *
  split at h <;> first | exact h | exact LitIs.more h hR | exact fun hg => LitIs.more (h hg) hR | exact AggIs.more h hR | exact fun hg => AggIs.more (h hg) hR
theorem F23_lit (tm : Array Value) (hs : tm.size = 140) : tm = #[tm[0]?.getD undef, tm[1]?.getD undef, tm[2]?.getD undef, tm[3]?.getD undef, tm[4]?.getD undef, tm[5]?.getD undef, tm[6]?.getD undef, tm[7]?.getD undef, tm[8]?.getD undef, tm[9]?.getD undef, tm[10]?.getD undef, tm[11]?.getD undef, tm[12]?.getD undef, tm[13]?.getD undef, tm[14]?.getD undef, tm[15]?.getD undef, tm[16]?.getD undef, tm[17]?.getD undef, tm[18]?.getD undef, tm[19]?.getD undef, tm[20]?.getD undef, tm[21]?.getD undef, tm[22]?.getD undef, tm[23]?.getD undef, tm[24]?.getD undef, tm[25]?.getD undef, tm[26]?.getD undef, tm[27]?.getD undef, tm[28]?.getD undef, tm[29]?.getD undef, tm[30]?.getD undef, tm[31]?.getD undef, tm[32]?.getD undef, tm[33]?.getD undef, tm[34]?.getD undef, tm[35]?.getD undef, tm[36]?.getD undef, tm[37]?.getD undef, tm[38]?.getD undef, tm[39]?.getD undef, tm[40]?.getD undef, tm[41]?.getD undef, tm[42]?.getD undef, tm[43]?.getD undef, tm[44]?.getD undef, tm[45]?.getD undef, tm[46]?.getD undef, tm[47]?.getD undef, tm[48]?.getD undef, tm[49]?.getD undef, tm[50]?.getD undef, tm[51]?.getD undef, tm[52]?.getD undef, tm[53]?.getD undef, tm[54]?.getD undef, tm[55]?.getD undef, tm[56]?.getD undef, tm[57]?.getD undef, tm[58]?.getD undef, tm[59]?.getD undef, tm[60]?.getD undef, tm[61]?.getD undef, tm[62]?.getD undef, tm[63]?.getD undef, tm[64]?.getD undef, tm[65]?.getD undef, tm[66]?.getD undef, tm[67]?.getD undef, tm[68]?.getD undef, tm[69]?.getD undef, tm[70]?.getD undef, tm[71]?.getD undef, tm[72]?.getD undef, tm[73]?.getD undef, tm[74]?.getD undef, tm[75]?.getD undef, tm[76]?.getD undef, tm[77]?.getD undef, tm[78]?.getD undef, tm[79]?.getD undef, tm[80]?.getD undef, tm[81]?.getD undef, tm[82]?.getD undef, tm[83]?.getD undef, tm[84]?.getD undef, tm[85]?.getD undef, tm[86]?.getD undef, tm[87]?.getD undef, tm[88]?.getD undef, tm[89]?.getD undef, tm[90]?.getD undef, tm[91]?.getD undef, tm[92]?.getD undef, tm[93]?.getD undef, tm[94]?.getD undef, tm[95]?.getD undef, tm[96]?.getD undef, tm[97]?.getD undef, tm[98]?.getD undef, tm[99]?.getD undef, tm[100]?.getD undef, tm[101]?.getD undef, tm[102]?.getD undef, tm[103]?.getD undef, tm[104]?.getD undef, tm[105]?.getD undef, tm[106]?.getD undef, tm[107]?.getD undef, tm[108]?.getD undef, tm[109]?.getD undef, tm[110]?.getD undef, tm[111]?.getD undef, tm[112]?.getD undef, tm[113]?.getD undef, tm[114]?.getD undef, tm[115]?.getD undef, tm[116]?.getD undef, tm[117]?.getD undef, tm[118]?.getD undef, tm[119]?.getD undef, tm[120]?.getD undef, tm[121]?.getD undef, tm[122]?.getD undef, tm[123]?.getD undef, tm[124]?.getD undef, tm[125]?.getD undef, tm[126]?.getD undef, tm[127]?.getD undef, tm[128]?.getD undef, tm[129]?.getD undef, tm[130]?.getD undef, tm[131]?.getD undef, tm[132]?.getD undef, tm[133]?.getD undef, tm[134]?.getD undef, tm[135]?.getD undef, tm[136]?.getD undef, tm[137]?.getD undef, tm[138]?.getD undef, tm[139]?.getD undef] := lit_arr tm 140 hs
theorem rootR_ok {c : Ct} (h : CtOk (selfC c)) : CtOk (rootR c).1 := by
  unfold rootR
  split
  · exact noCt_ok
  · split
    · exact noCt_ok
    · exact ⟨h.s, h.f, h.t, h.k, h.len⟩
theorem issue_sub {b by_ : Ct} (h : shortB b = true) : (issueR b by_).1.subj.size ≤ 50 := by
  have := (short_len h).1
  unfold issueR
  split
  · exact Nat.zero_le _
  · split
    · exact Nat.zero_le _
    · split
      · exact Nat.zero_le _
      · split
        · exact Nat.zero_le _
        · exact this
set_option maxRecDepth 100000 in
set_option maxHeartbeats 16000000 in
theorem lawChains (c : Ct) (A : Option Addr) (B : List Ct) (n cp : Nat) (now : Int) (w : World) (hB : LAt ctC 8 w w.heap.size A n B) (hm : n ≤ maxLen) (hr : CtR c) (hrB : ∀ x ∈ B, CtR x) :
    Calls Try.prog 18 #[.agg (ctC c ++ [Value.slice A n cp, Value.int .i64 now]).toArray] w fun e w' => e = .returned (.bool true) ∧ Below w.heap.size w w' := by
  have hlen := Lib.hid hB.len
  obtain ⟨i0, hi0, hz0, hz1, hz2⟩ := info_parts ct_info
  replace hi0 := Lib.hid hi0
  replace hz0 := Lib.hid hz0
  replace hz1 := Lib.hid hz1
  replace hz2 := Lib.hid hz2
  have hokr := fun h => selfC_ok (c := c) hr h
  have hsub := rootR_sub c
  have hslen := fun h => short_len (c := c) h
  have hrp := root_parts (c := c)
  obtain ⟨s0, sb0, is_0, f0, t0, ca0, ky0, sl0⟩ := c
  have px := Lib.hid (Blk.new w 92 #[Value.int .i64 s0, Value.string sb0, Value.string is_0, Value.int .i64 f0, Value.int .i64 t0, Value.bool ca0, Value.int .u64 ky0, Value.int .u64 sl0, Value.slice A n cp, Value.int .i64 now])
  have hb := Lib.hid (a1 w (.cells #[Value.int .i64 s0, Value.string sb0, Value.string is_0, Value.int .i64 f0, Value.int .i64 t0, Value.bool ca0, Value.int .u64 ky0, Value.int .u64 sl0, Value.slice A n cp, Value.int .i64 now] 92))
  have hB0 := Lib.hid (hB.below hb.out (Nat.le_refl _))
  have hB2 := Lib.hid (hB.more hb.out)
  clear hB
  by_cases hn0 : n = 0
  · subst hn0
    clear hokr hsub hslen hrp
    go_enter Try.func18, Try.ntmps18
    simp only [ctC, List.cons_append, List.nil_append]
    obtain ⟨k0, k1, k2, k3, k4, k5, k6, k7, k8, k9⟩ := (show (w.alloc (.cells #[Value.int .i64 s0, Value.string sb0, Value.string is_0, Value.int .i64 f0, Value.int .i64 t0, Value.bool ca0, Value.int .u64 ky0, Value.int .u64 sl0, Value.slice A 0 cp, Value.int .i64 now] 92)).cell? ⟨w.heap.size, 0, none⟩ = some (Value.int .i64 s0) ∧ (w.alloc (.cells #[Value.int .i64 s0, Value.string sb0, Value.string is_0, Value.int .i64 f0, Value.int .i64 t0, Value.bool ca0, Value.int .u64 ky0, Value.int .u64 sl0, Value.slice A 0 cp, Value.int .i64 now] 92)).cell? ⟨w.heap.size, 1, none⟩ = some (Value.string sb0) ∧ (w.alloc (.cells #[Value.int .i64 s0, Value.string sb0, Value.string is_0, Value.int .i64 f0, Value.int .i64 t0, Value.bool ca0, Value.int .u64 ky0, Value.int .u64 sl0, Value.slice A 0 cp, Value.int .i64 now] 92)).cell? ⟨w.heap.size, 2, none⟩ = some (Value.string is_0) ∧ (w.alloc (.cells #[Value.int .i64 s0, Value.string sb0, Value.string is_0, Value.int .i64 f0, Value.int .i64 t0, Value.bool ca0, Value.int .u64 ky0, Value.int .u64 sl0, Value.slice A 0 cp, Value.int .i64 now] 92)).cell? ⟨w.heap.size, 3, none⟩ = some (Value.int .i64 f0) ∧ (w.alloc (.cells #[Value.int .i64 s0, Value.string sb0, Value.string is_0, Value.int .i64 f0, Value.int .i64 t0, Value.bool ca0, Value.int .u64 ky0, Value.int .u64 sl0, Value.slice A 0 cp, Value.int .i64 now] 92)).cell? ⟨w.heap.size, 4, none⟩ = some (Value.int .i64 t0) ∧ (w.alloc (.cells #[Value.int .i64 s0, Value.string sb0, Value.string is_0, Value.int .i64 f0, Value.int .i64 t0, Value.bool ca0, Value.int .u64 ky0, Value.int .u64 sl0, Value.slice A 0 cp, Value.int .i64 now] 92)).cell? ⟨w.heap.size, 5, none⟩ = some (Value.bool ca0) ∧ (w.alloc (.cells #[Value.int .i64 s0, Value.string sb0, Value.string is_0, Value.int .i64 f0, Value.int .i64 t0, Value.bool ca0, Value.int .u64 ky0, Value.int .u64 sl0, Value.slice A 0 cp, Value.int .i64 now] 92)).cell? ⟨w.heap.size, 6, none⟩ = some (Value.int .u64 ky0) ∧ (w.alloc (.cells #[Value.int .i64 s0, Value.string sb0, Value.string is_0, Value.int .i64 f0, Value.int .i64 t0, Value.bool ca0, Value.int .u64 ky0, Value.int .u64 sl0, Value.slice A 0 cp, Value.int .i64 now] 92)).cell? ⟨w.heap.size, 7, none⟩ = some (Value.int .u64 sl0) ∧ (w.alloc (.cells #[Value.int .i64 s0, Value.string sb0, Value.string is_0, Value.int .i64 f0, Value.int .i64 t0, Value.bool ca0, Value.int .u64 ky0, Value.int .u64 sl0, Value.slice A 0 cp, Value.int .i64 now] 92)).cell? ⟨w.heap.size, 8, none⟩ = some (Value.slice A 0 cp) ∧ (w.alloc (.cells #[Value.int .i64 s0, Value.string sb0, Value.string is_0, Value.int .i64 f0, Value.int .i64 t0, Value.bool ca0, Value.int .u64 ky0, Value.int .u64 sl0, Value.slice A 0 cp, Value.int .i64 now] 92)).cell? ⟨w.heap.size, 9, none⟩ = some (Value.int .i64 now) from ⟨px.out.cell 0, px.out.cell 1, px.out.cell 2, px.out.cell 3, px.out.cell 4, px.out.cell 5, px.out.cell 6, px.out.cell 7, px.out.cell 8, px.out.cell 9⟩)
    go_wp2_with fail
    refine (awake_any _).mono ?_; rintro e wa ⟨rfl, hq⟩
    have hb := Lib.hid (hb.out.trans (hq.mono hb.out.size))
    clear hq
    go_wp2_with fail
    go_ret
    exact ⟨rfl, hb.out⟩
  have hn0d : ((n : Int) == 0) = false := by simp; omega
  by_cases hn3 : 3 < n
  · have hn3i : (3 : Int) < n := by omega
    clear hokr hsub hslen hrp
    go_enter Try.func18, Try.ntmps18
    simp only [ctC, List.cons_append, List.nil_append]
    obtain ⟨k0, k1, k2, k3, k4, k5, k6, k7, k8, k9⟩ := (show (w.alloc (.cells #[Value.int .i64 s0, Value.string sb0, Value.string is_0, Value.int .i64 f0, Value.int .i64 t0, Value.bool ca0, Value.int .u64 ky0, Value.int .u64 sl0, Value.slice A n cp, Value.int .i64 now] 92)).cell? ⟨w.heap.size, 0, none⟩ = some (Value.int .i64 s0) ∧ (w.alloc (.cells #[Value.int .i64 s0, Value.string sb0, Value.string is_0, Value.int .i64 f0, Value.int .i64 t0, Value.bool ca0, Value.int .u64 ky0, Value.int .u64 sl0, Value.slice A n cp, Value.int .i64 now] 92)).cell? ⟨w.heap.size, 1, none⟩ = some (Value.string sb0) ∧ (w.alloc (.cells #[Value.int .i64 s0, Value.string sb0, Value.string is_0, Value.int .i64 f0, Value.int .i64 t0, Value.bool ca0, Value.int .u64 ky0, Value.int .u64 sl0, Value.slice A n cp, Value.int .i64 now] 92)).cell? ⟨w.heap.size, 2, none⟩ = some (Value.string is_0) ∧ (w.alloc (.cells #[Value.int .i64 s0, Value.string sb0, Value.string is_0, Value.int .i64 f0, Value.int .i64 t0, Value.bool ca0, Value.int .u64 ky0, Value.int .u64 sl0, Value.slice A n cp, Value.int .i64 now] 92)).cell? ⟨w.heap.size, 3, none⟩ = some (Value.int .i64 f0) ∧ (w.alloc (.cells #[Value.int .i64 s0, Value.string sb0, Value.string is_0, Value.int .i64 f0, Value.int .i64 t0, Value.bool ca0, Value.int .u64 ky0, Value.int .u64 sl0, Value.slice A n cp, Value.int .i64 now] 92)).cell? ⟨w.heap.size, 4, none⟩ = some (Value.int .i64 t0) ∧ (w.alloc (.cells #[Value.int .i64 s0, Value.string sb0, Value.string is_0, Value.int .i64 f0, Value.int .i64 t0, Value.bool ca0, Value.int .u64 ky0, Value.int .u64 sl0, Value.slice A n cp, Value.int .i64 now] 92)).cell? ⟨w.heap.size, 5, none⟩ = some (Value.bool ca0) ∧ (w.alloc (.cells #[Value.int .i64 s0, Value.string sb0, Value.string is_0, Value.int .i64 f0, Value.int .i64 t0, Value.bool ca0, Value.int .u64 ky0, Value.int .u64 sl0, Value.slice A n cp, Value.int .i64 now] 92)).cell? ⟨w.heap.size, 6, none⟩ = some (Value.int .u64 ky0) ∧ (w.alloc (.cells #[Value.int .i64 s0, Value.string sb0, Value.string is_0, Value.int .i64 f0, Value.int .i64 t0, Value.bool ca0, Value.int .u64 ky0, Value.int .u64 sl0, Value.slice A n cp, Value.int .i64 now] 92)).cell? ⟨w.heap.size, 7, none⟩ = some (Value.int .u64 sl0) ∧ (w.alloc (.cells #[Value.int .i64 s0, Value.string sb0, Value.string is_0, Value.int .i64 f0, Value.int .i64 t0, Value.bool ca0, Value.int .u64 ky0, Value.int .u64 sl0, Value.slice A n cp, Value.int .i64 now] 92)).cell? ⟨w.heap.size, 8, none⟩ = some (Value.slice A n cp) ∧ (w.alloc (.cells #[Value.int .i64 s0, Value.string sb0, Value.string is_0, Value.int .i64 f0, Value.int .i64 t0, Value.bool ca0, Value.int .u64 ky0, Value.int .u64 sl0, Value.slice A n cp, Value.int .i64 now] 92)).cell? ⟨w.heap.size, 9, none⟩ = some (Value.int .i64 now) from ⟨px.out.cell 0, px.out.cell 1, px.out.cell 2, px.out.cell 3, px.out.cell 4, px.out.cell 5, px.out.cell 6, px.out.cell 7, px.out.cell 8, px.out.cell 9⟩)
    go_wp2_with fail
    refine (awake_any _).mono ?_; rintro e wa ⟨rfl, hq⟩
    have hb := Lib.hid (hb.out.trans (hq.mono hb.out.size))
    clear hq
    go_wp2_with fail
    go_ret
    exact ⟨rfl, hb.out⟩
  have hn3i : (n : Int) ≤ 3 := by omega
  go_enter Try.func18, Try.ntmps18
  simp only [ctC, List.cons_append, List.nil_append]
  obtain ⟨k0, k1, k2, k3, k4, k5, k6, k7, k8, k9⟩ := (show (w.alloc (.cells #[Value.int .i64 s0, Value.string sb0, Value.string is_0, Value.int .i64 f0, Value.int .i64 t0, Value.bool ca0, Value.int .u64 ky0, Value.int .u64 sl0, Value.slice A n cp, Value.int .i64 now] 92)).cell? ⟨w.heap.size, 0, none⟩ = some (Value.int .i64 s0) ∧ (w.alloc (.cells #[Value.int .i64 s0, Value.string sb0, Value.string is_0, Value.int .i64 f0, Value.int .i64 t0, Value.bool ca0, Value.int .u64 ky0, Value.int .u64 sl0, Value.slice A n cp, Value.int .i64 now] 92)).cell? ⟨w.heap.size, 1, none⟩ = some (Value.string sb0) ∧ (w.alloc (.cells #[Value.int .i64 s0, Value.string sb0, Value.string is_0, Value.int .i64 f0, Value.int .i64 t0, Value.bool ca0, Value.int .u64 ky0, Value.int .u64 sl0, Value.slice A n cp, Value.int .i64 now] 92)).cell? ⟨w.heap.size, 2, none⟩ = some (Value.string is_0) ∧ (w.alloc (.cells #[Value.int .i64 s0, Value.string sb0, Value.string is_0, Value.int .i64 f0, Value.int .i64 t0, Value.bool ca0, Value.int .u64 ky0, Value.int .u64 sl0, Value.slice A n cp, Value.int .i64 now] 92)).cell? ⟨w.heap.size, 3, none⟩ = some (Value.int .i64 f0) ∧ (w.alloc (.cells #[Value.int .i64 s0, Value.string sb0, Value.string is_0, Value.int .i64 f0, Value.int .i64 t0, Value.bool ca0, Value.int .u64 ky0, Value.int .u64 sl0, Value.slice A n cp, Value.int .i64 now] 92)).cell? ⟨w.heap.size, 4, none⟩ = some (Value.int .i64 t0) ∧ (w.alloc (.cells #[Value.int .i64 s0, Value.string sb0, Value.string is_0, Value.int .i64 f0, Value.int .i64 t0, Value.bool ca0, Value.int .u64 ky0, Value.int .u64 sl0, Value.slice A n cp, Value.int .i64 now] 92)).cell? ⟨w.heap.size, 5, none⟩ = some (Value.bool ca0) ∧ (w.alloc (.cells #[Value.int .i64 s0, Value.string sb0, Value.string is_0, Value.int .i64 f0, Value.int .i64 t0, Value.bool ca0, Value.int .u64 ky0, Value.int .u64 sl0, Value.slice A n cp, Value.int .i64 now] 92)).cell? ⟨w.heap.size, 6, none⟩ = some (Value.int .u64 ky0) ∧ (w.alloc (.cells #[Value.int .i64 s0, Value.string sb0, Value.string is_0, Value.int .i64 f0, Value.int .i64 t0, Value.bool ca0, Value.int .u64 ky0, Value.int .u64 sl0, Value.slice A n cp, Value.int .i64 now] 92)).cell? ⟨w.heap.size, 7, none⟩ = some (Value.int .u64 sl0) ∧ (w.alloc (.cells #[Value.int .i64 s0, Value.string sb0, Value.string is_0, Value.int .i64 f0, Value.int .i64 t0, Value.bool ca0, Value.int .u64 ky0, Value.int .u64 sl0, Value.slice A n cp, Value.int .i64 now] 92)).cell? ⟨w.heap.size, 8, none⟩ = some (Value.slice A n cp) ∧ (w.alloc (.cells #[Value.int .i64 s0, Value.string sb0, Value.string is_0, Value.int .i64 f0, Value.int .i64 t0, Value.bool ca0, Value.int .u64 ky0, Value.int .u64 sl0, Value.slice A n cp, Value.int .i64 now] 92)).cell? ⟨w.heap.size, 9, none⟩ = some (Value.int .i64 now) from ⟨px.out.cell 0, px.out.cell 1, px.out.cell 2, px.out.cell 3, px.out.cell 4, px.out.cell 5, px.out.cell 6, px.out.cell 7, px.out.cell 8, px.out.cell 9⟩)
  go_wp2_with fail
  clear k0 k1 k2 k3 k4 k5 k6 k7 k8 k9
  refine (few_any A none none n 0 0 cp 0 0 B [] [] _ hB2.out (LAt.nil ctC_len _ _) (LAt.nil iC_len _ _)).mono ?_; rintro e w2 ⟨rfl, hq⟩
  have hB0 := Lib.hid (hB0.out.below hq (by simp; try omega))
  have px := Lib.hid (px.out.below hq px.out.lt)
  have hb := Lib.hid (hb.out.trans (hq.mono hb.out.size))
  clear hq
  cases hf : fewB B [] [] with
  | false =>
    clear hokr hsub hslen hrp
    go_wp2_with fail
    refine (awake_any _).mono ?_; rintro e wa ⟨rfl, hq⟩
    have hb := Lib.hid (hb.out.trans (hq.mono hb.out.size))
    clear hq
    go_wp2_with fail
    go_ret
    exact ⟨rfl, hb.out⟩
  | true =>
    have hsB := fun x (hx : x ∈ B) => few_short hf hx
    replace hf := Lib.hid hf
    obtain ⟨k0, k1, k2, k3, k4, k5, k6, k7, k8, k9⟩ := (show w2.cell? ⟨w.heap.size, 0, none⟩ = some (Value.int .i64 s0) ∧ w2.cell? ⟨w.heap.size, 1, none⟩ = some (Value.string sb0) ∧ w2.cell? ⟨w.heap.size, 2, none⟩ = some (Value.string is_0) ∧ w2.cell? ⟨w.heap.size, 3, none⟩ = some (Value.int .i64 f0) ∧ w2.cell? ⟨w.heap.size, 4, none⟩ = some (Value.int .i64 t0) ∧ w2.cell? ⟨w.heap.size, 5, none⟩ = some (Value.bool ca0) ∧ w2.cell? ⟨w.heap.size, 6, none⟩ = some (Value.int .u64 ky0) ∧ w2.cell? ⟨w.heap.size, 7, none⟩ = some (Value.int .u64 sl0) ∧ w2.cell? ⟨w.heap.size, 8, none⟩ = some (Value.slice A n cp) ∧ w2.cell? ⟨w.heap.size, 9, none⟩ = some (Value.int .i64 now) from ⟨px.out.cell 0, px.out.cell 1, px.out.cell 2, px.out.cell 3, px.out.cell 4, px.out.cell 5, px.out.cell 6, px.out.cell 7, px.out.cell 8, px.out.cell 9⟩)
    go_wp2_with fail
    clear k0 k1 k2 k3 k4 k5 k6 k7 k8 k9
    refine (short_any ⟨s0, sb0, is_0, f0, t0, ca0, ky0, sl0⟩ _).mono ?_; rintro e w3 ⟨rfl, hq⟩
    have hB0 := Lib.hid (hB0.out.below hq (Nat.le_trans (by simp; try omega) hb.out.size))
    have px := Lib.hid (px.out.below hq px.out.lt)
    have hb := Lib.hid (hb.out.trans (hq.mono hb.out.size))
    clear hq
    cases hs : shortB ⟨s0, sb0, is_0, f0, t0, ca0, ky0, sl0⟩ with
    | false =>
      clear hokr hsub hslen hrp
      go_wp2_with fail
      refine (awake_any _).mono ?_; rintro e wa ⟨rfl, hq⟩
      have hb := Lib.hid (hb.out.trans (hq.mono hb.out.size))
      clear hq
      go_wp2_with fail
      go_ret
      exact ⟨rfl, hb.out⟩
    | true =>
      replace hokr := hokr hs
      replace hslen := hslen hs
      replace hs := Lib.hid hs
      have h1 := fun w => root_any ⟨s0, sb0, is_0, f0, t0, ca0, ky0, sl0⟩ w hokr
      have hrok := rootR_ok hokr
      generalize rootR ⟨s0, sb0, is_0, f0, t0, ca0, ky0, sl0⟩ = yr at *
      obtain ⟨⟨sr, sbr, is_r, fr, tr, car, kyr, slr⟩, E⟩ := yr
      dsimp only [ctC] at h1
      replace h1 := Lib.hid h1
      obtain ⟨k0, k1, k2, k3, k4, k5, k6, k7, k8, k9⟩ := (show w3.cell? ⟨w.heap.size, 0, none⟩ = some (Value.int .i64 s0) ∧ w3.cell? ⟨w.heap.size, 1, none⟩ = some (Value.string sb0) ∧ w3.cell? ⟨w.heap.size, 2, none⟩ = some (Value.string is_0) ∧ w3.cell? ⟨w.heap.size, 3, none⟩ = some (Value.int .i64 f0) ∧ w3.cell? ⟨w.heap.size, 4, none⟩ = some (Value.int .i64 t0) ∧ w3.cell? ⟨w.heap.size, 5, none⟩ = some (Value.bool ca0) ∧ w3.cell? ⟨w.heap.size, 6, none⟩ = some (Value.int .u64 ky0) ∧ w3.cell? ⟨w.heap.size, 7, none⟩ = some (Value.int .u64 sl0) ∧ w3.cell? ⟨w.heap.size, 8, none⟩ = some (Value.slice A n cp) ∧ w3.cell? ⟨w.heap.size, 9, none⟩ = some (Value.int .i64 now) from ⟨px.out.cell 0, px.out.cell 1, px.out.cell 2, px.out.cell 3, px.out.cell 4, px.out.cell 5, px.out.cell 6, px.out.cell 7, px.out.cell 8, px.out.cell 9⟩)
      go_wp2_with fail
      clear k0 k1 k2 k3 k4 k5 k6 k7 k8 k9
      refine (h1.out _).mono ?_; rintro e w4 ⟨rfl, hq⟩
      have hB0 := Lib.hid (hB0.out.below hq (Nat.le_trans (by simp; try omega) hb.out.size))
      have px := Lib.hid (px.out.below hq px.out.lt)
      have hb := Lib.hid (hb.out.trans (hq.mono hb.out.size))
      clear hq
      by_cases hE : E = 0
      · subst hE
        replace hrp := Lib.hid (hrp rfl)
        replace hrok := Lib.hid hrok
        replace hsub := Lib.hid hsub
        have hwl4 : w.heap.size < w4.heap.size := px.out.lt
        have pr := Lib.hid (Blk.new w4 52 #[Value.int .i64 sr, Value.string sbr, Value.string is_r, Value.int .i64 fr, Value.int .i64 tr, Value.bool car, Value.int .u64 kyr, Value.int .u64 slr])
        have px := Lib.hid (px.out.alloc (.cells #[Value.int .i64 sr, Value.string sbr, Value.string is_r, Value.int .i64 fr, Value.int .i64 tr, Value.bool car, Value.int .u64 kyr, Value.int .u64 slr] 52))
        have hB0 := Lib.hid (hB0.out.below (a1 w4 (.cells #[Value.int .i64 sr, Value.string sbr, Value.string is_r, Value.int .i64 fr, Value.int .i64 tr, Value.bool car, Value.int .u64 kyr, Value.int .u64 slr] 52)) (Nat.le_trans (by simp; try omega) hb.out.size))
        have hb := Lib.hid (below_new hb.out (.cells #[Value.int .i64 sr, Value.string sbr, Value.string is_r, Value.int .i64 fr, Value.int .i64 tr, Value.bool car, Value.int .u64 kyr, Value.int .u64 slr] 52))
        go_wp2_with fail
        have pr := Lib.hid ((pr.out.alloc (.cells #[] 52)).alloc (.cells #[Value.int .i64 sr, Value.string sbr, Value.string is_r, Value.int .i64 fr, Value.int .i64 tr, Value.bool car, Value.int .u64 kyr, Value.int .u64 slr] 52))
        have px := Lib.hid ((px.out.alloc (.cells #[] 52)).alloc (.cells #[Value.int .i64 sr, Value.string sbr, Value.string is_r, Value.int .i64 fr, Value.int .i64 tr, Value.bool car, Value.int .u64 kyr, Value.int .u64 slr] 52))
        have pb := Blk.new ((w4.alloc (.cells #[Value.int .i64 sr, Value.string sbr, Value.string is_r, Value.int .i64 fr, Value.int .i64 tr, Value.bool car, Value.int .u64 kyr, Value.int .u64 slr] 52)).alloc (.cells #[] 52)) 52 #[Value.int .i64 sr, Value.string sbr, Value.string is_r, Value.int .i64 fr, Value.int .i64 tr, Value.bool car, Value.int .u64 kyr, Value.int .u64 slr]
        rw [show ((w4.alloc (.cells #[Value.int .i64 sr, Value.string sbr, Value.string is_r, Value.int .i64 fr, Value.int .i64 tr, Value.bool car, Value.int .u64 kyr, Value.int .u64 slr] 52)).alloc (.cells #[] 52)).heap.size = w4.heap.size + 1 + 1 by simp] at pb
        replace pb := Lib.hid pb
        have pe := (Blk.new (w4.alloc (.cells #[Value.int .i64 sr, Value.string sbr, Value.string is_r, Value.int .i64 fr, Value.int .i64 tr, Value.bool car, Value.int .u64 kyr, Value.int .u64 slr] 52)) 52 #[]).alloc (.cells #[Value.int .i64 sr, Value.string sbr, Value.string is_r, Value.int .i64 fr, Value.int .i64 tr, Value.bool car, Value.int .u64 kyr, Value.int .u64 slr] 52)
        rw [show (w4.alloc (.cells #[Value.int .i64 sr, Value.string sbr, Value.string is_r, Value.int .i64 fr, Value.int .i64 tr, Value.bool car, Value.int .u64 kyr, Value.int .u64 slr] 52)).heap.size = w4.heap.size + 1 by simp] at pe
        have hbs := hb.out.size
        have hB0 := Lib.hid (hB0.out.below (below_new (a1 (w4.alloc (.cells #[Value.int .i64 sr, Value.string sbr, Value.string is_r, Value.int .i64 fr, Value.int .i64 tr, Value.bool car, Value.int .u64 kyr, Value.int .u64 slr] 52)) (.cells #[] 52)) (.cells #[Value.int .i64 sr, Value.string sbr, Value.string is_r, Value.int .i64 fr, Value.int .i64 tr, Value.bool car, Value.int .u64 kyr, Value.int .u64 slr] 52)) (Nat.le_trans (by simp; try omega) hbs))
        have hb := Lib.hid (below_new (below_new hb.out (.cells #[] 52)) (.cells #[Value.int .i64 sr, Value.string sbr, Value.string is_r, Value.int .i64 fr, Value.int .i64 tr, Value.bool car, Value.int .u64 kyr, Value.int .u64 slr] 52))
        have hg1l : w.heap.size < w4.heap.size := by have := px.out.lt; exact hwl4
        generalize hw6 : ((w4.alloc (.cells #[Value.int .i64 sr, Value.string sbr, Value.string is_r, Value.int .i64 fr, Value.int .i64 tr, Value.bool car, Value.int .u64 kyr, Value.int .u64 slr] 52)).alloc (.cells #[] 52)).alloc (.cells #[Value.int .i64 sr, Value.string sbr, Value.string is_r, Value.int .i64 fr, Value.int .i64 tr, Value.bool car, Value.int .u64 kyr, Value.int .u64 slr] 52) = w6 at px pr pb pe hB0 hb ⊢
        generalize hgr : w4.heap.size = gr at px pr pb pe hg1l ⊢
        have hE0 : LAt ctC 8 w6 w6.heap.size (some ⟨gr + 1, 0, none⟩) 0 [] := lat_blk ctC_len pe [] 0 rfl rfl
        go_loopw [7, 6] (fun i ch wr => ∃ (k : Nat) (C : List Ct) (AC : Option Addr) (cc : Nat), k ≤ n ∧ i = .int .i64 k ∧ ch = .slice AC k cc ∧ Hid (LAt ctC 8 wr wr.heap.size AC k C) ∧ Hid (GoodC ⟨sr, sbr, is_r, fr, tr, car, kyr, slr⟩ now C) ∧ Hid (Blk wr (gr + 1 + 1) 52 (ctC (nextOf ⟨sr, sbr, is_r, fr, tr, car, kyr, slr⟩ C)).toArray) ∧ Hid (Blk wr w.heap.size 92 #[Value.int .i64 s0, Value.string sb0, Value.string is_0, Value.int .i64 f0, Value.int .i64 t0, Value.bool ca0, Value.int .u64 ky0, Value.int .u64 sl0, Value.slice A n cp, Value.int .i64 now]) ∧ Hid (Blk wr gr 52 #[Value.int .i64 sr, Value.string sbr, Value.string is_r, Value.int .i64 fr, Value.int .i64 tr, Value.bool car, Value.int .u64 kyr, Value.int .u64 slr]) ∧ Hid (Below w.heap.size w wr) ∧ Hid (LAt ctC 8 wr w.heap.size A n B) ∧ Hid (C = [] ∨ spanH fr tr now = true) ∧ Hid (∀ x ∈ C, CtOk x) ∧ Hid ((nextOf ⟨sr, sbr, is_r, fr, tr, car, kyr, slr⟩ C).subj.size ≤ 50)) (fun i _ _ => n - (intOf i).toNat)
        case atStart => exact ⟨0, [], _, _, Nat.zero_le _, rfl, rfl, hE0, trivial, pb.out, px.out, pr.out, hb.out, hB0.out, .inl rfl, fun x hx => by simp at hx, Nat.le_trans hsub.out hslen.1⟩
        case round =>
          clear px pr pb pe hB0 hb hE0 hbs
          obtain ⟨k, C, AC, cc, hkn, rfl, rfl, hC, hG, pb, px, pr, hbL, hB0, hsp, hokC, hns⟩ := hrel
          by_cases hlt : k < n
          · have hk0 : (0 : Int) ≤ k := by omega
            have hk1 : (k : Int) < n := by omega
            have hkl : k < B.length := by have := hlen.out; omega
            have hrx : CtR B[k] := hrB _ (List.getElem_mem hkl)
            have hsx : shortB B[k] = true := hsB _ (List.getElem_mem hkl)
            obtain ⟨ad, hA, hadb, e0, e1, e2, e3, e4, e5, e6, e7⟩ := ct_cells hB0.out hlt
            subst hA
            have hb := hbL
            generalize hxk : B[k] = x at hrx hsx e0 e1 e2 e3 e4 e5 e6 e7
            generalize hby : nextOf ⟨sr, sbr, is_r, fr, tr, car, kyr, slr⟩ C = by_ at pb hns
            have hci : CtOk (issC x by_) := ⟨hrx.s, hrx.f, hrx.t, hrx.k, by have := short_len hsx; have := hns.out; show x.subj.size + by_.subj.size ≤ 4000; omega⟩
            have hiss := fun w => issue_any x by_ w hci
            have hcok := issueR_ok hci
            have hgc := fun h hs => good_cons (now := now) (b := x) hG.out hby h hs
            have hsps := fun h hs => issue_span (now := now) (b := x) (by_ := by_) h hs
            have hsubq : (issueR x by_).1.subj.size ≤ 50 := issue_sub hsx
            generalize issueR x by_ = yc at hiss hcok hgc hsps hsubq
            obtain ⟨sx, sbx, is_x, fx, tx, cax, kyx, slx⟩ := x
            obtain ⟨sy, sby, is_y, fy, ty, cay, kyy, sly⟩ := by_
            obtain ⟨⟨sq, sbq, is_q, fq, tq, caq, kyq, slq⟩, E2⟩ := yc
            dsimp only [ctC] at hiss
            replace pb : Hid (Blk wr (gr + 1 + 1) 52 #[Value.int .i64 sy, Value.string sby, Value.string is_y, Value.int .i64 fy, Value.int .i64 ty, Value.bool cay, Value.int .u64 kyy, Value.int .u64 sly]) := pb
            replace hiss := Lib.hid hiss
            replace hcok := Lib.hid hcok
            replace hgc := Lib.hid hgc
            replace hsps := Lib.hid hsps
            replace hsubq := Lib.hid hsubq
            replace hby := Lib.hid hby
            replace hxk := Lib.hid hxk
            clear hci hrx hsx
            have hwa := px.out.lt
            have hcell : Hid (∀ wz, Below wr.heap.size wr wz → wz.cell? ⟨w.heap.size, 8, none⟩ = some (Value.slice (some ad) n cp) ∧ wz.cell? (ad.add (k * 8)) = some (Value.int .i64 sx) ∧ wz.cell? ⟨(ad.add (k * 8)).block, (ad.add (k * 8)).off + 1, none⟩ = some (Value.string sbx) ∧ wz.cell? ⟨(ad.add (k * 8)).block, (ad.add (k * 8)).off + 2, none⟩ = some (Value.string is_x) ∧ wz.cell? ⟨(ad.add (k * 8)).block, (ad.add (k * 8)).off + 3, none⟩ = some (Value.int .i64 fx) ∧ wz.cell? ⟨(ad.add (k * 8)).block, (ad.add (k * 8)).off + 4, none⟩ = some (Value.int .i64 tx) ∧ wz.cell? ⟨(ad.add (k * 8)).block, (ad.add (k * 8)).off + 5, none⟩ = some (Value.bool cax) ∧ wz.cell? ⟨(ad.add (k * 8)).block, (ad.add (k * 8)).off + 6, none⟩ = some (Value.int .u64 kyx) ∧ wz.cell? ⟨(ad.add (k * 8)).block, (ad.add (k * 8)).off + 7, none⟩ = some (Value.int .u64 slx) ∧ wz.cell? ⟨(gr + 1 + 1), 0, none⟩ = some (Value.int .i64 sy) ∧ wz.cell? ⟨(gr + 1 + 1), 1, none⟩ = some (Value.string sby) ∧ wz.cell? ⟨(gr + 1 + 1), 2, none⟩ = some (Value.string is_y) ∧ wz.cell? ⟨(gr + 1 + 1), 3, none⟩ = some (Value.int .i64 fy) ∧ wz.cell? ⟨(gr + 1 + 1), 4, none⟩ = some (Value.int .i64 ty) ∧ wz.cell? ⟨(gr + 1 + 1), 5, none⟩ = some (Value.bool cay) ∧ wz.cell? ⟨(gr + 1 + 1), 6, none⟩ = some (Value.int .u64 kyy) ∧ wz.cell? ⟨(gr + 1 + 1), 7, none⟩ = some (Value.int .u64 sly)) := fun wz h => by
              have q := px.out.below h px.out.lt
              have q2 := pb.out.below h pb.out.lt
              have hadl : (ad.add (k * 8)).block < wr.heap.size := by rw [add_block]; omega
              exact ⟨q.cell 8, (h.cell hadl).trans e0, (h.cell (by exact hadl)).trans e1, (h.cell (by exact hadl)).trans e2, (h.cell (by exact hadl)).trans e3, (h.cell (by exact hadl)).trans e4, (h.cell (by exact hadl)).trans e5, (h.cell (by exact hadl)).trans e6, (h.cell (by exact hadl)).trans e7, q2.cell 0, q2.cell 1, q2.cell 2, q2.cell 3, q2.cell 4, q2.cell 5, q2.cell 6, q2.cell 7⟩
            obtain ⟨d8⟩ : _ ∧ True := ⟨(show wr.cell? ⟨w.heap.size, 8, none⟩ = some (Value.slice (some ad) n cp) from px.out.cell 8), trivial⟩
            clear e0 e1 e2 e3 e4 e5 e6 e7
            go_wp2_with fail
            clear d8
            refine RK.region [8] [] (F := F10 w.heap.size (gr + 1 + 1) ad n cp k wr.heap.size #[Value.int .i64 sx, Value.string sbx, Value.string is_x, Value.int .i64 fx, Value.int .i64 tx, Value.bool cax, Value.int .u64 kyx, Value.int .u64 slx] #[Value.int .i64 sy, Value.string sby, Value.string is_y, Value.int .i64 fy, Value.int .i64 ty, Value.bool cay, Value.int .u64 kyy, Value.int .u64 sly] #[Value.int .i64 sq, Value.string sbq, Value.string is_q, Value.int .i64 fq, Value.int .i64 tq, Value.bool caq, Value.int .u64 kyq, Value.int .u64 slq] E2) (W := fun wz => Below wr.heap.size wr wz) (R := Rb) (S := St 52 wr.heap.size) (G := G10 wr.heap.size #[Value.int .i64 sq, Value.string sbq, Value.string is_q, Value.int .i64 fq, Value.int .i64 tq, Value.bool caq, Value.int .u64 kyq, Value.int .u64 slq]) rfl F10_more G10_more F10_st G10_st (by kernel_rfl) (by kernel_rfl) (by kernel_rfl) (by kernel_rfl) (by kernel_rfl) ?_ ?_ ?_ ?_ (by decide) ?_
            · exact (Below.refl _ _).drew
            · intro t ht
              unfold F10
              split <;> first | trivial | exact rfl | (exact absurd ht (by decide))
            · simp only [List.forall_mem_cons, List.not_mem_nil, false_implies, implies_true, and_true]
              refine ⟨?_, ?_, ?_, ?_, ?_, ?_, ?_, ?_, ?_, ?_, ?_, ?_, ?_⟩
              · intro a w2 hw hf K hK
                have f0 := hf 1 rfl
                simp only [F10] at f0
                clear hf
                go_simp
                exact hK _ _ _ rfl rfl hw (Below.refl _ _) (fun h => absurd h (by decide))
              · intro a w2 hw hf K hK
                have f0 := hf 55 rfl
                simp only [F10] at f0
                clear hf
                obtain ⟨c0, c1, c2, c3, c4, c5, c6, c7, c8, c9, c10, c11, c12, c13, c14, c15, c16⟩ := hcell.out w2 hw
                go_simp
                exact hK _ _ _ rfl rfl hw (Below.refl _ _) (fun h => absurd h (by decide))
              · intro a w2 hw hf K hK
                have f0 := hf 7 rfl
                simp only [F10] at f0
                clear hf
                go_simp
                exact hK _ _ _ rfl rfl hw (Below.refl _ _) (fun h => absurd h (by decide))
              · intro a w2 hw hf K hK
                have f0 := hf 56 rfl
                have f1 := hf 57 rfl
                simp only [F10] at f0 f1
                clear hf
                go_simp
                exact hK _ _ _ rfl rfl hw (Below.refl _ _) (fun h => absurd h (by decide))
              · intro a w2 hw hf K hK
                have f0 := hf 58 rfl
                simp only [F10] at f0
                clear hf
                obtain ⟨c0, c1, c2, c3, c4, c5, c6, c7, c8, c9, c10, c11, c12, c13, c14, c15, c16⟩ := hcell.out w2 hw
                go_simp
                exact hK _ _ _ rfl rfl hw (Below.refl _ _) (fun h => absurd h (by decide))
              · intro a w2 hw hf K hK
                have f0 := hf 5 rfl
                simp only [F10] at f0
                clear hf
                obtain ⟨c0, c1, c2, c3, c4, c5, c6, c7, c8, c9, c10, c11, c12, c13, c14, c15, c16⟩ := hcell.out w2 hw
                go_simp
                exact hK _ _ _ rfl rfl hw (Below.refl _ _) (fun h => absurd h (by decide))
              · intro a w2 hw hf K hK
                have f0 := hf 59 rfl
                have f1 := hf 60 rfl
                simp only [F10] at f0 f1
                clear hf
                go_simp
                refine (hiss.out w2).mono ?_; rintro e w5 ⟨rfl, hb⟩
                exact hK _ _ _ rfl rfl (hw.trans (hb.mono hw.size)) hb (fun h => absurd h (by decide))
              · intro a w2 hw hf K hK
                have f0 := hf 61 rfl
                simp only [F10] at f0
                clear hf
                go_simp
                exact hK _ _ _ rfl rfl hw (Below.refl _ _) (fun h => absurd h (by decide))
              · intro a w2 hw hf K hK
                have f0 := hf 54 rfl
                simp only [F10] at f0
                clear hf
                go_simp
                exact hK _ _ _ rfl rfl hw (Below.refl _ _) (fun h => absurd h (by decide))
              · intro a w2 hw hf K hK
                have f0 := hf 54 rfl
                simp only [F10] at f0
                clear hf
                go_simp
                exact hK _ _ _ rfl rfl hw (Below.refl _ _) (fun h => absurd h (by decide))
              · intro a w2 hw hf K hK
                clear hf
                go_simp
                refine hK _ _ _ rfl (Var.made w2 _ hw.size rfl) (below_new hw _) (a1 _ _) (fun _ t u ht hu => ?_)
                obtain rfl : t = 8 := by simpa using ht
                exact Var.fresh hu (Nat.le_refl _)
              · intro a w2 hw hf K hK
                have f0 := hf 8 rfl
                have f1 := hf 62 rfl
                simp only [F10] at f0 f1
                clear hf
                obtain ⟨g, e0, hg, cs, hbk, hn⟩ := f0
                obtain ⟨b0, b1, b2, b3, b4, b5, b6, b7, rfl⟩ := arr8 hn
                obtain ⟨k0, k1, k2, k3, k4, k5, k6, k7, z0, z1, z2, z3, z4, z5, z6, z7⟩ := (show w2.cell? ⟨g, 0, none⟩ = some b0 ∧ w2.cell? ⟨g, 1, none⟩ = some b1 ∧ w2.cell? ⟨g, 2, none⟩ = some b2 ∧ w2.cell? ⟨g, 3, none⟩ = some b3 ∧ w2.cell? ⟨g, 4, none⟩ = some b4 ∧ w2.cell? ⟨g, 5, none⟩ = some b5 ∧ w2.cell? ⟨g, 6, none⟩ = some b6 ∧ w2.cell? ⟨g, 7, none⟩ = some b7 ∧ w2.frozen? ⟨g, 0, none⟩ = false ∧ w2.frozen? ⟨g, 1, none⟩ = false ∧ w2.frozen? ⟨g, 2, none⟩ = false ∧ w2.frozen? ⟨g, 3, none⟩ = false ∧ w2.frozen? ⟨g, 4, none⟩ = false ∧ w2.frozen? ⟨g, 5, none⟩ = false ∧ w2.frozen? ⟨g, 6, none⟩ = false ∧ w2.frozen? ⟨g, 7, none⟩ = false from ⟨hbk.cell 0, hbk.cell 1, hbk.cell 2, hbk.cell 3, hbk.cell 4, hbk.cell 5, hbk.cell 6, hbk.cell 7, hbk.frozen 0, hbk.frozen 1, hbk.frozen 2, hbk.frozen 3, hbk.frozen 4, hbk.frozen 5, hbk.frozen 6, hbk.frozen 7⟩)
                replace hbk := Lib.hid hbk
                go_simp
                have hB := ct_set8 hbk.out (Value.int .i64 sq) (Value.string sbq) (Value.string is_q) (Value.int .i64 fq) (Value.int .i64 tq) (Value.bool caq) (Value.int .u64 kyq) (Value.int .u64 slq)
                have hS : St 52 wr.heap.size (.pointer (some ⟨g, 0, none⟩)) w2 _ := ⟨g, _, _, rfl, hg, (only_set (only_set (only_set (only_set (only_set (only_set (only_set (only_set (World.grownBy.refl _ _) 0 _) 1 _) 2 _) 3 _) 4 _) 5 _) 6 _) 7 _), hbk.out, hB, rfl⟩
                refine hK undef _ (hS.below hw (Nat.le_refl _)) ?_ ?_
                · show St _ _ (a.tmps[8]?.getD undef) _ _; rw [e0]; exact hS
                · show VarIs _ _ _ (a.tmps[8]?.getD undef) _; rw [e0]; exact ⟨g, rfl, hg, hB⟩
              · intro a w2 hw hf K hK
                have f0 := hf 63 rfl
                simp only [F10] at f0
                clear hf
                go_simp
                exact hK _ _ _ rfl rfl hw (Below.refl _ _) (fun h => absurd h (by decide))
            · simp only [List.forall_mem_cons, List.not_mem_nil, false_implies, implies_true, and_true]
              refine ⟨?_, ?_, ?_, ?_, ?_, ?_, ?_, ?_, ?_, ?_, ?_, ?_, ?_⟩
              all_goals first | exact trivial | (intro v w h; exact h)
            · intro a' w7 hd hs hw hout hf hg
              simp only [List.forall_mem_cons] at hg
              have f8 : VarIs 52 wr.heap.size #[Value.int .i64 sq, Value.string sbq, Value.string is_q, Value.int .i64 fq, Value.int .i64 tq, Value.bool caq, Value.int .u64 kyq, Value.int .u64 slq] (a'.tmps[8]?.getD undef) w7 := hg.2.2.2.2.2.2.2.2.2.2.2.1 trivial
              have f9 := hf 9
              simp only [F10] at f9
              have e0 : _ = some _ := hout 0 rfl
              have e1 : _ = some _ := hout 1 rfl
              have e2 : _ = some _ := hout 2 rfl
              have e3 : _ = some _ := hout 3 rfl
              have e4 : _ = some _ := hout 4 rfl
              have e5 : _ = some _ := hout 5 rfl
              have e6 : _ = some _ := hout 6 rfl
              have e7 : _ = some _ := hout 7 rfl
              have e10 : _ = some _ := hout 10 rfl
              have e11 : _ = some _ := hout 11 rfl
              have e12 : _ = some _ := hout 12 rfl
              have e13 : _ = some _ := hout 13 rfl
              have e14 : _ = some _ := hout 14 rfl
              have e15 : _ = some _ := hout 15 rfl
              have e16 : _ = some _ := hout 16 rfl
              have e17 : _ = some _ := hout 17 rfl
              have e18 : _ = some _ := hout 18 rfl
              have e19 : _ = some _ := hout 19 rfl
              have e20 : _ = some _ := hout 20 rfl
              have e21 : _ = some _ := hout 21 rfl
              have e22 : _ = some _ := hout 22 rfl
              have e23 : _ = some _ := hout 23 rfl
              have e24 : _ = some _ := hout 24 rfl
              have e25 : _ = some _ := hout 25 rfl
              have e26 : _ = some _ := hout 26 rfl
              have e27 : _ = some _ := hout 27 rfl
              have e28 : _ = some _ := hout 28 rfl
              have e29 : _ = some _ := hout 29 rfl
              have e30 : _ = some _ := hout 30 rfl
              have e31 : _ = some _ := hout 31 rfl
              have e32 : _ = some _ := hout 32 rfl
              have e33 : _ = some _ := hout 33 rfl
              have e34 : _ = some _ := hout 34 rfl
              have e35 : _ = some _ := hout 35 rfl
              have e36 : _ = some _ := hout 36 rfl
              have e37 : _ = some _ := hout 37 rfl
              have e38 : _ = some _ := hout 38 rfl
              have e39 : _ = some _ := hout 39 rfl
              have e40 : _ = some _ := hout 40 rfl
              have e41 : _ = some _ := hout 41 rfl
              have e42 : _ = some _ := hout 42 rfl
              have e43 : _ = some _ := hout 43 rfl
              have e44 : _ = some _ := hout 44 rfl
              have e45 : _ = some _ := hout 45 rfl
              have e46 : _ = some _ := hout 46 rfl
              have e47 : _ = some _ := hout 47 rfl
              have e48 : _ = some _ := hout 48 rfl
              have e49 : _ = some _ := hout 49 rfl
              have e50 : _ = some _ := hout 50 rfl
              have e51 : _ = some _ := hout 51 rfl
              have e52 : _ = some _ := hout 52 rfl
              have e53 : _ = some _ := hout 53 rfl
              have e64 : _ = some _ := hout 64 rfl
              have e65 : _ = some _ := hout 65 rfl
              have e66 : _ = some _ := hout 66 rfl
              have e67 : _ = some _ := hout 67 rfl
              have e68 : _ = some _ := hout 68 rfl
              have e69 : _ = some _ := hout 69 rfl
              have e70 : _ = some _ := hout 70 rfl
              have e71 : _ = some _ := hout 71 rfl
              have e72 : _ = some _ := hout 72 rfl
              have e73 : _ = some _ := hout 73 rfl
              have e74 : _ = some _ := hout 74 rfl
              have e75 : _ = some _ := hout 75 rfl
              have e76 : _ = some _ := hout 76 rfl
              have e77 : _ = some _ := hout 77 rfl
              have e78 : _ = some _ := hout 78 rfl
              have e79 : _ = some _ := hout 79 rfl
              have e80 : _ = some _ := hout 80 rfl
              have e81 : _ = some _ := hout 81 rfl
              have e82 : _ = some _ := hout 82 rfl
              have e83 : _ = some _ := hout 83 rfl
              have e84 : _ = some _ := hout 84 rfl
              have e85 : _ = some _ := hout 85 rfl
              have e86 : _ = some _ := hout 86 rfl
              have e87 : _ = some _ := hout 87 rfl
              have e88 : _ = some _ := hout 88 rfl
              have e89 : _ = some _ := hout 89 rfl
              have e90 : _ = some _ := hout 90 rfl
              have e91 : _ = some _ := hout 91 rfl
              have e92 : _ = some _ := hout 92 rfl
              have e93 : _ = some _ := hout 93 rfl
              have e94 : _ = some _ := hout 94 rfl
              have e95 : _ = some _ := hout 95 rfl
              have e96 : _ = some _ := hout 96 rfl
              have e97 : _ = some _ := hout 97 rfl
              have e98 : _ = some _ := hout 98 rfl
              have e99 : _ = some _ := hout 99 rfl
              have e100 : _ = some _ := hout 100 rfl
              have e101 : _ = some _ := hout 101 rfl
              have e102 : _ = some _ := hout 102 rfl
              have e103 : _ = some _ := hout 103 rfl
              have e104 : _ = some _ := hout 104 rfl
              have e105 : _ = some _ := hout 105 rfl
              have e106 : _ = some _ := hout 106 rfl
              have e107 : _ = some _ := hout 107 rfl
              have e108 : _ = some _ := hout 108 rfl
              have e109 : _ = some _ := hout 109 rfl
              have e110 : _ = some _ := hout 110 rfl
              have e111 : _ = some _ := hout 111 rfl
              have e112 : _ = some _ := hout 112 rfl
              have e113 : _ = some _ := hout 113 rfl
              have e114 : _ = some _ := hout 114 rfl
              have e115 : _ = some _ := hout 115 rfl
              have e116 : _ = some _ := hout 116 rfl
              have e117 : _ = some _ := hout 117 rfl
              have e118 : _ = some _ := hout 118 rfl
              have e119 : _ = some _ := hout 119 rfl
              have e120 : _ = some _ := hout 120 rfl
              have e121 : _ = some _ := hout 121 rfl
              have e122 : _ = some _ := hout 122 rfl
              have e123 : _ = some _ := hout 123 rfl
              have e124 : _ = some _ := hout 124 rfl
              have e125 : _ = some _ := hout 125 rfl
              have e126 : _ = some _ := hout 126 rfl
              have e127 : _ = some _ := hout 127 rfl
              have e128 : _ = some _ := hout 128 rfl
              have e129 : _ = some _ := hout 129 rfl
              have e130 : _ = some _ := hout 130 rfl
              have e131 : _ = some _ := hout 131 rfl
              have e132 : _ = some _ := hout 132 rfl
              have e133 : _ = some _ := hout 133 rfl
              have e134 : _ = some _ := hout 134 rfl
              have e135 : _ = some _ := hout 135 rfl
              have e136 : _ = some _ := hout 136 rfl
              have e137 : _ = some _ := hout 137 rfl
              have e138 : _ = some _ := hout 138 rfl
              have e139 : _ = some _ := hout 139 rfl
              obtain ⟨tm, df⟩ := a'
              simp only at hd hs f8 f9 e0 e1 e2 e3 e4 e5 e6 e7 e10 e11 e12 e13 e14 e15 e16 e17 e18 e19 e20 e21 e22 e23 e24 e25 e26 e27 e28 e29 e30 e31 e32 e33 e34 e35 e36 e37 e38 e39 e40 e41 e42 e43 e44 e45 e46 e47 e48 e49 e50 e51 e52 e53 e64 e65 e66 e67 e68 e69 e70 e71 e72 e73 e74 e75 e76 e77 e78 e79 e80 e81 e82 e83 e84 e85 e86 e87 e88 e89 e90 e91 e92 e93 e94 e95 e96 e97 e98 e99 e100 e101 e102 e103 e104 e105 e106 e107 e108 e109 e110 e111 e112 e113 e114 e115 e116 e117 e118 e119 e120 e121 e122 e123 e124 e125 e126 e127 e128 e129 e130 e131 e132 e133 e134 e135 e136 e137 e138 e139
              have e := lit_arr tm 140 hs
              rw [show (List.range 140).map (fun i => tm[i]?.getD undef) = [tm[0]?.getD undef, tm[1]?.getD undef, tm[2]?.getD undef, tm[3]?.getD undef, tm[4]?.getD undef, tm[5]?.getD undef, tm[6]?.getD undef, tm[7]?.getD undef, tm[8]?.getD undef, tm[9]?.getD undef, tm[10]?.getD undef, tm[11]?.getD undef, tm[12]?.getD undef, tm[13]?.getD undef, tm[14]?.getD undef, tm[15]?.getD undef, tm[16]?.getD undef, tm[17]?.getD undef, tm[18]?.getD undef, tm[19]?.getD undef, tm[20]?.getD undef, tm[21]?.getD undef, tm[22]?.getD undef, tm[23]?.getD undef, tm[24]?.getD undef, tm[25]?.getD undef, tm[26]?.getD undef, tm[27]?.getD undef, tm[28]?.getD undef, tm[29]?.getD undef, tm[30]?.getD undef, tm[31]?.getD undef, tm[32]?.getD undef, tm[33]?.getD undef, tm[34]?.getD undef, tm[35]?.getD undef, tm[36]?.getD undef, tm[37]?.getD undef, tm[38]?.getD undef, tm[39]?.getD undef, tm[40]?.getD undef, tm[41]?.getD undef, tm[42]?.getD undef, tm[43]?.getD undef, tm[44]?.getD undef, tm[45]?.getD undef, tm[46]?.getD undef, tm[47]?.getD undef, tm[48]?.getD undef, tm[49]?.getD undef, tm[50]?.getD undef, tm[51]?.getD undef, tm[52]?.getD undef, tm[53]?.getD undef, tm[54]?.getD undef, tm[55]?.getD undef, tm[56]?.getD undef, tm[57]?.getD undef, tm[58]?.getD undef, tm[59]?.getD undef, tm[60]?.getD undef, tm[61]?.getD undef, tm[62]?.getD undef, tm[63]?.getD undef, tm[64]?.getD undef, tm[65]?.getD undef, tm[66]?.getD undef, tm[67]?.getD undef, tm[68]?.getD undef, tm[69]?.getD undef, tm[70]?.getD undef, tm[71]?.getD undef, tm[72]?.getD undef, tm[73]?.getD undef, tm[74]?.getD undef, tm[75]?.getD undef, tm[76]?.getD undef, tm[77]?.getD undef, tm[78]?.getD undef, tm[79]?.getD undef, tm[80]?.getD undef, tm[81]?.getD undef, tm[82]?.getD undef, tm[83]?.getD undef, tm[84]?.getD undef, tm[85]?.getD undef, tm[86]?.getD undef, tm[87]?.getD undef, tm[88]?.getD undef, tm[89]?.getD undef, tm[90]?.getD undef, tm[91]?.getD undef, tm[92]?.getD undef, tm[93]?.getD undef, tm[94]?.getD undef, tm[95]?.getD undef, tm[96]?.getD undef, tm[97]?.getD undef, tm[98]?.getD undef, tm[99]?.getD undef, tm[100]?.getD undef, tm[101]?.getD undef, tm[102]?.getD undef, tm[103]?.getD undef, tm[104]?.getD undef, tm[105]?.getD undef, tm[106]?.getD undef, tm[107]?.getD undef, tm[108]?.getD undef, tm[109]?.getD undef, tm[110]?.getD undef, tm[111]?.getD undef, tm[112]?.getD undef, tm[113]?.getD undef, tm[114]?.getD undef, tm[115]?.getD undef, tm[116]?.getD undef, tm[117]?.getD undef, tm[118]?.getD undef, tm[119]?.getD undef, tm[120]?.getD undef, tm[121]?.getD undef, tm[122]?.getD undef, tm[123]?.getD undef, tm[124]?.getD undef, tm[125]?.getD undef, tm[126]?.getD undef, tm[127]?.getD undef, tm[128]?.getD undef, tm[129]?.getD undef, tm[130]?.getD undef, tm[131]?.getD undef, tm[132]?.getD undef, tm[133]?.getD undef, tm[134]?.getD undef, tm[135]?.getD undef, tm[136]?.getD undef, tm[137]?.getD undef, tm[138]?.getD undef, tm[139]?.getD undef] from rfl] at e
              simp only [e0, e1, e2, e3, e4, e5, e6, e7, e10, e11, e12, e13, e14, e15, e16, e17, e18, e19, e20, e21, e22, e23, e24, e25, e26, e27, e28, e29, e30, e31, e32, e33, e34, e35, e36, e37, e38, e39, e40, e41, e42, e43, e44, e45, e46, e47, e48, e49, e50, e51, e52, e53, e64, e65, e66, e67, e68, e69, e70, e71, e72, e73, e74, e75, e76, e77, e78, e79, e80, e81, e82, e83, e84, e85, e86, e87, e88, e89, e90, e91, e92, e93, e94, e95, e96, e97, e98, e99, e100, e101, e102, e103, e104, e105, e106, e107, e108, e109, e110, e111, e112, e113, e114, e115, e116, e117, e118, e119, e120, e121, e122, e123, e124, e125, e126, e127, e128, e129, e130, e131, e132, e133, e134, e135, e136, e137, e138, e139, f9, Option.getD_some] at e
              clear hf hout hs hg
              obtain ⟨g8, f8, hg8, p8⟩ := f8
              rw [f8] at e
              rw [e, hd]
              clear e hd f8 f9 e0 e1 e2 e3 e4 e5 e6 e7 e10 e11 e12 e13 e14 e15 e16 e17 e18 e19 e20 e21 e22 e23 e24 e25 e26 e27 e28 e29 e30 e31 e32 e33 e34 e35 e36 e37 e38 e39 e40 e41 e42 e43 e44 e45 e46 e47 e48 e49 e50 e51 e52 e53 e64 e65 e66 e67 e68 e69 e70 e71 e72 e73 e74 e75 e76 e77 e78 e79 e80 e81 e82 e83 e84 e85 e86 e87 e88 e89 e90 e91 e92 e93 e94 e95 e96 e97 e98 e99 e100 e101 e102 e103 e104 e105 e106 e107 e108 e109 e110 e111 e112 e113 e114 e115 e116 e117 e118 e119 e120 e121 e122 e123 e124 e125 e126 e127 e128 e129 e130 e131 e132 e133 e134 e135 e136 e137 e138 e139
              generalize tm[54]?.getD undef = y54
              generalize tm[55]?.getD undef = y55
              generalize tm[56]?.getD undef = y56
              generalize tm[57]?.getD undef = y57
              generalize tm[58]?.getD undef = y58
              generalize tm[59]?.getD undef = y59
              generalize tm[60]?.getD undef = y60
              generalize tm[61]?.getD undef = y61
              generalize tm[62]?.getD undef = y62
              generalize tm[63]?.getD undef = y63
              have hwz : w.heap.size ≤ wr.heap.size := Nat.le_of_lt hwa
              have px := Lib.hid (px.out.below hw px.out.lt)
              have pr := Lib.hid (pr.out.below hw pr.out.lt)
              have hgbl := pb.out.lt
              have pb := Lib.hid (pb.out.below hw pb.out.lt)
              have hC := Lib.hid (hC.out.more hw)
              have hB0 := Lib.hid (hB0.out.below hw hwz)
              have hb := Lib.hid (hb.out.trans (hw.mono hb.out.size))
              replace p8 := Lib.hid p8
              clear hw hcell
              by_cases hE2 : E2 = 0
              · have hE2b : (E2 != 0) = false := by simp [hE2]
                replace hgc := hgc.out hE2
                replace hsps := hsps.out hE2
                (try dsimp only at hgc hsps)
                obtain ⟨k3, k4, d9⟩ := (show w7.cell? ⟨g8, 3, none⟩ = some (Value.int .i64 fq) ∧ w7.cell? ⟨g8, 4, none⟩ = some (Value.int .i64 tq) ∧ w7.cell? ⟨w.heap.size, 9, none⟩ = some (Value.int .i64 now) from ⟨p8.out.cell 3, p8.out.cell 4, px.out.cell 9⟩)
                replace hgc := Lib.hid hgc
                replace hsps := Lib.hid hsps
                go_wp2_with fail
                clear k3 k4 d9
                refine (holds_any fq tq now _).mono ?_; rintro e w8 ⟨rfl, hq⟩
                have hC := Lib.hid (hC.out.more hq)
                have hB0 := Lib.hid (hB0.out.below hq (Nat.le_trans hwz (Nat.le_of_lt (Nat.lt_of_le_of_lt hg8 p8.out.lt))))
                have px := Lib.hid (px.out.below hq px.out.lt)
                have pr := Lib.hid (pr.out.below hq pr.out.lt)
                have pb := Lib.hid (pb.out.below hq pb.out.lt)
                have p8 := Lib.hid (p8.out.below hq p8.out.lt)
                have hb := Lib.hid (hb.out.trans (hq.mono hb.out.size))
                clear hq
                have hl8 : g8 < w8.heap.size := p8.out.lt
                have p8o := p8
                have hb8 := hb
                cases hsq : spanH fq tq now with
                | false =>
                  replace hsq := Lib.hid hsq
                  go_wp2_with fail
                  refine (awake_any _).mono ?_; rintro e wa ⟨rfl, hq⟩
                  have hb := Lib.hid (hb.out.trans (hq.mono hb.out.size))
                  clear hq
                  go_wp2_with fail
                  go_ret
                  exact ⟨rfl, hb.out⟩
                | true =>
                  replace hgc := Lib.hid (hgc.out hsq)
                  replace hsps := Lib.hid (hsps.out hsq)
                  replace hsq := Lib.hid hsq
                  have hgb8 : gr + 1 + 1 < w8.heap.size := pb.out.lt
                  have hlit := lit_own (e := 52) ctC_len w8 [⟨sq, sbq, is_q, fq, tq, caq, kyq, slq⟩] #[Value.int .i64 sq, Value.string sbq, Value.string is_q, Value.int .i64 fq, Value.int .i64 tq, Value.bool caq, Value.int .u64 kyq, Value.int .u64 slq] (by simp [flat, ctC]) (by simp [maxLen])
                  replace hlit := Lib.hid hlit
                  have px := Lib.hid (px.out.alloc (.cells #[Value.int .i64 sq, Value.string sbq, Value.string is_q, Value.int .i64 fq, Value.int .i64 tq, Value.bool caq, Value.int .u64 kyq, Value.int .u64 slq] 52))
                  have pr := Lib.hid (pr.out.alloc (.cells #[Value.int .i64 sq, Value.string sbq, Value.string is_q, Value.int .i64 fq, Value.int .i64 tq, Value.bool caq, Value.int .u64 kyq, Value.int .u64 slq] 52))
                  have pb := Lib.hid (pb.out.alloc (.cells #[Value.int .i64 sq, Value.string sbq, Value.string is_q, Value.int .i64 fq, Value.int .i64 tq, Value.bool caq, Value.int .u64 kyq, Value.int .u64 slq] 52))
                  have p8 := Lib.hid (p8.out.alloc (.cells #[Value.int .i64 sq, Value.string sbq, Value.string is_q, Value.int .i64 fq, Value.int .i64 tq, Value.bool caq, Value.int .u64 kyq, Value.int .u64 slq] 52))
                  have hb := Lib.hid (below_new hb.out (.cells #[Value.int .i64 sq, Value.string sbq, Value.string is_q, Value.int .i64 fq, Value.int .i64 tq, Value.bool caq, Value.int .u64 kyq, Value.int .u64 slq] 52))
                  have hC := Lib.hid (hC.out.more (a1 w8 (.cells #[Value.int .i64 sq, Value.string sbq, Value.string is_q, Value.int .i64 fq, Value.int .i64 tq, Value.bool caq, Value.int .u64 kyq, Value.int .u64 slq] 52)))
                  obtain ⟨k0, k1, k2, k3, k4, k5, k6, k7⟩ := (show w8.cell? ⟨g8, 0, none⟩ = some (Value.int .i64 sq) ∧ w8.cell? ⟨g8, 1, none⟩ = some (Value.string sbq) ∧ w8.cell? ⟨g8, 2, none⟩ = some (Value.string is_q) ∧ w8.cell? ⟨g8, 3, none⟩ = some (Value.int .i64 fq) ∧ w8.cell? ⟨g8, 4, none⟩ = some (Value.int .i64 tq) ∧ w8.cell? ⟨g8, 5, none⟩ = some (Value.bool caq) ∧ w8.cell? ⟨g8, 6, none⟩ = some (Value.int .u64 kyq) ∧ w8.cell? ⟨g8, 7, none⟩ = some (Value.int .u64 slq) from ⟨p8o.out.cell 0, p8o.out.cell 1, p8o.out.cell 2, p8o.out.cell 3, p8o.out.cell 4, p8o.out.cell 5, p8o.out.cell 6, p8o.out.cell 7⟩)
                  clear p8o
                  have hka : 1 + k ≤ 4 := by omega
                  go_wp2_with (at_builtin
                               refine wpList_append_any _ rfl (.tmp 76) (.tmp 77) _ rfl w8.heap.size 52 i0 _ 8 80 Try.underlying55 hi0.out hz0.out hz1.out hz2.out rfl (by omega) (.slice (some ⟨w8.heap.size, 0, none⟩) 1 1) 1 (flat ctC [⟨sq, sbq, is_q, fq, tq, caq, kyq, slq⟩]) rfl hlit.out.2 (w8.alloc (.cells #[Value.int .i64 sq, Value.string sbq, Value.string is_q, Value.int .i64 fq, Value.int .i64 tq, Value.bool caq, Value.int .u64 kyq, Value.int .u64 slq] 52)).heap.size AC k cc (flat ctC C) rfl hC.out.2 (ct_one _) (by simp only [maxLen]; omega) (by omega) (by simp) ?_
                               intro v' w9 hown1 hg1 hat1
                               have hch : LOwn ctC 8 52 w9 w8.heap.size v' (⟨sq, sbq, is_q, fq, tq, caq, kyq, slq⟩ :: C) := ⟨ctC_len, by rw [List.length_cons, hC.out.len, Nat.add_comm, show flat ctC (⟨sq, sbq, is_q, fq, tq, caq, kyq, slq⟩ :: C) = flat ctC [⟨sq, sbq, is_q, fq, tq, caq, kyq, slq⟩] ++ flat ctC C from flat_append [⟨sq, sbq, is_q, fq, tq, caq, kyq, slq⟩] C]; exact hown1⟩
                               have hch := Lib.hid hch
                               have hgx := fun (g : Nat) (h : g < w8.heap.size) => (show some g ≠ (Value.slice (some ⟨w8.heap.size, 0, none⟩) 1 1).ownBlock from by intro e; simp [Value.ownBlock] at e; omega)
                               have px := Lib.hid (px.out.grown hg1 (hgx _ (by omega)))
                               have pr := Lib.hid (pr.out.grown hg1 (hgx _ (by omega)))
                               have pb := Lib.hid (pb.out.grown hg1 (hgx _ (by omega)))
                               have p8 := Lib.hid (p8.out.grown hg1 (hgx _ hl8))
                               have hb89 : Below w8.heap.size w8 w9 := (a1 w8 (.cells #[Value.int .i64 sq, Value.string sbq, Value.string is_q, Value.int .i64 fq, Value.int .i64 tq, Value.bool caq, Value.int .u64 kyq, Value.int .u64 slq] 52)).grown hg1 (by simp) (fun g e => by simp [Value.ownBlock] at e; omega)
                               have hB0 := Lib.hid (hB0.out.below hb89 (by omega))
                               have hb := Lib.hid (hb8.out.trans (hb89.mono hb8.out.size))
                               replace hb89 := Lib.hid hb89
                               clear hown1 hg1 hat1 hlit
                               obtain ⟨q0, q1, q2, q3, q4, q5, q6, q7, v0, v1, v2, v3, v4, v5, v6, v7⟩ := (show w9.cell? ⟨g8, 0, none⟩ = some (Value.int .i64 sq) ∧ w9.cell? ⟨g8, 1, none⟩ = some (Value.string sbq) ∧ w9.cell? ⟨g8, 2, none⟩ = some (Value.string is_q) ∧ w9.cell? ⟨g8, 3, none⟩ = some (Value.int .i64 fq) ∧ w9.cell? ⟨g8, 4, none⟩ = some (Value.int .i64 tq) ∧ w9.cell? ⟨g8, 5, none⟩ = some (Value.bool caq) ∧ w9.cell? ⟨g8, 6, none⟩ = some (Value.int .u64 kyq) ∧ w9.cell? ⟨g8, 7, none⟩ = some (Value.int .u64 slq) ∧ w9.cell? ⟨(gr + 1 + 1), 0, none⟩ = some (Value.int .i64 sy) ∧ w9.cell? ⟨(gr + 1 + 1), 1, none⟩ = some (Value.string sby) ∧ w9.cell? ⟨(gr + 1 + 1), 2, none⟩ = some (Value.string is_y) ∧ w9.cell? ⟨(gr + 1 + 1), 3, none⟩ = some (Value.int .i64 fy) ∧ w9.cell? ⟨(gr + 1 + 1), 4, none⟩ = some (Value.int .i64 ty) ∧ w9.cell? ⟨(gr + 1 + 1), 5, none⟩ = some (Value.bool cay) ∧ w9.cell? ⟨(gr + 1 + 1), 6, none⟩ = some (Value.int .u64 kyy) ∧ w9.cell? ⟨(gr + 1 + 1), 7, none⟩ = some (Value.int .u64 sly) from ⟨p8.out.cell 0, p8.out.cell 1, p8.out.cell 2, p8.out.cell 3, p8.out.cell 4, p8.out.cell 5, p8.out.cell 6, p8.out.cell 7, pb.out.cell 0, pb.out.cell 1, pb.out.cell 2, pb.out.cell 3, pb.out.cell 4, pb.out.cell 5, pb.out.cell 6, pb.out.cell 7⟩)
                               obtain ⟨z0, z1, z2, z3, z4, z5, z6, z7⟩ := (show w9.frozen? ⟨gr + 1 + 1, 0, none⟩ = false ∧ w9.frozen? ⟨gr + 1 + 1, 1, none⟩ = false ∧ w9.frozen? ⟨gr + 1 + 1, 2, none⟩ = false ∧ w9.frozen? ⟨gr + 1 + 1, 3, none⟩ = false ∧ w9.frozen? ⟨gr + 1 + 1, 4, none⟩ = false ∧ w9.frozen? ⟨gr + 1 + 1, 5, none⟩ = false ∧ w9.frozen? ⟨gr + 1 + 1, 6, none⟩ = false ∧ w9.frozen? ⟨gr + 1 + 1, 7, none⟩ = false from ⟨pb.out.frozen 0, pb.out.frozen 1, pb.out.frozen 2, pb.out.frozen 3, pb.out.frozen 4, pb.out.frozen 5, pb.out.frozen 6, pb.out.frozen 7⟩))
                  have hS9 : w9.grownBy ((((((((w9.setCell ⟨(gr + 1 + 1), 0, none⟩ (Value.int .i64 sq)).setCell ⟨(gr + 1 + 1), 1, none⟩ (Value.string sbq)).setCell ⟨(gr + 1 + 1), 2, none⟩ (Value.string is_q)).setCell ⟨(gr + 1 + 1), 3, none⟩ (Value.int .i64 fq)).setCell ⟨(gr + 1 + 1), 4, none⟩ (Value.int .i64 tq)).setCell ⟨(gr + 1 + 1), 5, none⟩ (Value.bool caq)).setCell ⟨(gr + 1 + 1), 6, none⟩ (Value.int .u64 kyq)).setCell ⟨(gr + 1 + 1), 7, none⟩ (Value.int .u64 slq)) (some (gr + 1 + 1)) := (only_set (only_set (only_set (only_set (only_set (only_set (only_set (only_set (World.grownBy.refl _ _) 0 (Value.int .i64 sq)) 1 (Value.string sbq)) 2 (Value.string is_q)) 3 (Value.int .i64 fq)) 4 (Value.int .i64 tq)) 5 (Value.bool caq)) 6 (Value.int .u64 kyq)) 7 (Value.int .u64 slq))
                  have hch2 := hch.out.far hS9 hgb8
                  have hlC : (⟨sq, sbq, is_q, fq, tq, caq, kyq, slq⟩ :: C).length = k + 1 := by rw [List.length_cons, hC.out.len]
                  obtain ⟨AC2, cp2, rfl, -, -, -, hcl⟩ := hch2.form
                  rw [hlC] at hcl ⊢
                  have hroot : C = [] ∨ spanH fr tr now = true := hsp.out
                  have hnx : spanH (nextOf ⟨sr, sbr, is_r, fr, tr, car, kyr, slr⟩ C).from_ (nextOf ⟨sr, sbr, is_r, fr, tr, car, kyr, slr⟩ C).to_ now = true := by rw [hby.out]; exact hsps.out
                  have hspan : spanH fr tr now = true := by
                    rcases hroot with e | h
                    · rw [e] at hnx; exact hnx
                    · exact h
                  have hwg : w.heap.size ≤ gr + 1 + 1 := by omega
                  have hokN : ∀ x ∈ (⟨sq, sbq, is_q, fq, tq, caq, kyq, slq⟩ : Ct) :: C, CtOk x := by
                    intro x hx
                    rcases List.mem_cons.1 hx with e | hx
                    · rw [e]; exact hcok.out
                    · exact hokC.out x hx
                  go_roundw
                  case rel => exact ⟨k + 1, ⟨sq, sbq, is_q, fq, tq, caq, kyq, slq⟩ :: C, _, _, by omega, by go_num, rfl, hcl, hgc.out, ct_set8 pb.out (Value.int .i64 sq) (Value.string sbq) (Value.string is_q) (Value.int .i64 fq) (Value.int .i64 tq) (Value.bool caq) (Value.int .u64 kyq) (Value.int .u64 slq), ((((((((px.out.far (p := ⟨(gr + 1 + 1), 0, none⟩) (by simp; omega) (Value.int .i64 sq)).far (p := ⟨(gr + 1 + 1), 1, none⟩) (by simp; omega) (Value.string sbq)).far (p := ⟨(gr + 1 + 1), 2, none⟩) (by simp; omega) (Value.string is_q)).far (p := ⟨(gr + 1 + 1), 3, none⟩) (by simp; omega) (Value.int .i64 fq)).far (p := ⟨(gr + 1 + 1), 4, none⟩) (by simp; omega) (Value.int .i64 tq)).far (p := ⟨(gr + 1 + 1), 5, none⟩) (by simp; omega) (Value.bool caq)).far (p := ⟨(gr + 1 + 1), 6, none⟩) (by simp; omega) (Value.int .u64 kyq)).far (p := ⟨(gr + 1 + 1), 7, none⟩) (by simp; omega) (Value.int .u64 slq)), ((((((((pr.out.far (p := ⟨(gr + 1 + 1), 0, none⟩) (by simp; omega) (Value.int .i64 sq)).far (p := ⟨(gr + 1 + 1), 1, none⟩) (by simp; omega) (Value.string sbq)).far (p := ⟨(gr + 1 + 1), 2, none⟩) (by simp; omega) (Value.string is_q)).far (p := ⟨(gr + 1 + 1), 3, none⟩) (by simp; omega) (Value.int .i64 fq)).far (p := ⟨(gr + 1 + 1), 4, none⟩) (by simp; omega) (Value.int .i64 tq)).far (p := ⟨(gr + 1 + 1), 5, none⟩) (by simp; omega) (Value.bool caq)).far (p := ⟨(gr + 1 + 1), 6, none⟩) (by simp; omega) (Value.int .u64 kyq)).far (p := ⟨(gr + 1 + 1), 7, none⟩) (by simp; omega) (Value.int .u64 slq)), (below_set (below_set (below_set (below_set (below_set (below_set (below_set (below_set hb.out hwg 0 (Value.int .i64 sq)) hwg 1 (Value.string sbq)) hwg 2 (Value.string is_q)) hwg 3 (Value.int .i64 fq)) hwg 4 (Value.int .i64 tq)) hwg 5 (Value.bool caq)) hwg 6 (Value.int .u64 kyq)) hwg 7 (Value.int .u64 slq)), hB0.out.below (below_set (below_set (below_set (below_set (below_set (below_set (below_set (below_set (Below.refl w.heap.size w9) hwg 0 (Value.int .i64 sq)) hwg 1 (Value.string sbq)) hwg 2 (Value.string is_q)) hwg 3 (Value.int .i64 fq)) hwg 4 (Value.int .i64 tq)) hwg 5 (Value.bool caq)) hwg 6 (Value.int .u64 kyq)) hwg 7 (Value.int .u64 slq)) (Nat.le_refl _), .inr hspan, hokN, hsubq.out⟩
                  case measure => simp [intOf]; omega
              · have hE2b : (E2 != 0) = true := by simpa using hE2
                clear hgc hsps
                go_wp2_with fail
                refine (awake_any _).mono ?_; rintro e wa ⟨rfl, hq⟩
                have hb := Lib.hid (hb.out.trans (hq.mono hb.out.size))
                clear hq
                go_wp2_with fail
                go_ret
                exact ⟨rfl, hb.out⟩
          · have hnk : ¬ ((k : Int) < n) := by omega
            have hlC : Hid (C.length = k) := hC.out.len
            have hk1 : 1 ≤ k := by omega
            have hk3 : k ≤ 3 := by omega
            have hk0 : 0 < k := by omega
            have hCne : C ≠ [] := by intro e; have := hlC.out; rw [e] at this; simp at this; omega
            have hspan : spanH fr tr now = true := by
              rcases hsp.out with e | h
              · exact absurd e hCne
              · exact h
            have hRK : RootOk (⟨sr, sbr, is_r, fr, tr, car, kyr, slr⟩ : Ct) now := ⟨hrp.out.1, hrp.out.2.1, hspan, hrp.out.2.2.1, hrp.out.2.2.2⟩
            have hl4 : C.length ≤ 4 := by rw [hlC.out]; omega
            have hv1 := Lib.hid (ver_good hG.out hRK hCne hl4)
            have hv2 := Lib.hid (ver_good (good_root C hG.out hRK) hRK (by simp) (by rw [List.length_append, hlC.out]; simp; omega))
            have hv3 := Lib.hid (ver_alone hG.out hCne hl4)
            have hv4 := ver_late (r := (⟨sr, sbr, is_r, fr, tr, car, kyr, slr⟩ : Ct)) hG.out hCne hl4
            obtain ⟨tz, htz⟩ : ∃ t, (C.getD 0 noCt).to_ = t := ⟨_, rfl⟩
            rw [htz] at hv4
            have htz : Hid ((C[0]'(by rw [hlC.out]; omega)).to_ = tz) := by show _ = _; rw [← htz, getD_lt C noCt (by rw [hlC.out]; omega)]
            replace hv4 := Lib.hid hv4
            have hokD : Hid (∀ x ∈ C ++ [(⟨sr, sbr, is_r, fr, tr, car, kyr, slr⟩ : Ct)], CtOk x) := fun x hx => by
              rcases List.mem_append.1 hx with h | h
              · exact hokC.out x h
              · rw [List.mem_singleton.1 h]; exact hrok.out
            obtain ⟨ad, hA, hadb, -⟩ := ct_cells hC.out hk0
            subst hA
            clear hRK hCne hsp hspan hokr hslen hsub hns hB0 pb hrp
            obtain ⟨k0, k1, k2, k3, k4, k5, k6, k7⟩ := (show wr.cell? ⟨gr, 0, none⟩ = some (Value.int .i64 sr) ∧ wr.cell? ⟨gr, 1, none⟩ = some (Value.string sbr) ∧ wr.cell? ⟨gr, 2, none⟩ = some (Value.string is_r) ∧ wr.cell? ⟨gr, 3, none⟩ = some (Value.int .i64 fr) ∧ wr.cell? ⟨gr, 4, none⟩ = some (Value.int .i64 tr) ∧ wr.cell? ⟨gr, 5, none⟩ = some (Value.bool car) ∧ wr.cell? ⟨gr, 6, none⟩ = some (Value.int .u64 kyr) ∧ wr.cell? ⟨gr, 7, none⟩ = some (Value.int .u64 slr) from ⟨pr.out.cell 0, pr.out.cell 1, pr.out.cell 2, pr.out.cell 3, pr.out.cell 4, pr.out.cell 5, pr.out.cell 6, pr.out.cell 7⟩)
            have d8 : wr.cell? ⟨w.heap.size, 8, none⟩ = some (Value.slice A n cp) := px.out.cell 8
            go_wp2_with fail
            clear k0 k1 k2 k3 k4 k5 k6 k7
            clear d8
            have pT := Blk.new (wr.alloc (.cells #[Value.int .i64 sr, Value.string sbr, Value.string is_r, Value.int .i64 fr, Value.int .i64 tr, Value.bool car, Value.int .u64 kyr, Value.int .u64 slr] 52)) 59 #[Value.slice (some ⟨wr.heap.size, 0, none⟩) 1 1, Value.slice none 0 0]
            rw [show (wr.alloc (.cells #[Value.int .i64 sr, Value.string sbr, Value.string is_r, Value.int .i64 fr, Value.int .i64 tr, Value.bool car, Value.int .u64 kyr, Value.int .u64 slr] 52)).heap.size = wr.heap.size + 1 by simp] at pT
            replace pT := Lib.hid pT
            have pl := Lib.hid ((Blk.new wr 52 #[Value.int .i64 sr, Value.string sbr, Value.string is_r, Value.int .i64 fr, Value.int .i64 tr, Value.bool car, Value.int .u64 kyr, Value.int .u64 slr]).alloc (.cells #[Value.slice (some ⟨wr.heap.size, 0, none⟩) 1 1, Value.slice none 0 0] 59))
            have px := Lib.hid ((px.out.alloc (.cells #[Value.int .i64 sr, Value.string sbr, Value.string is_r, Value.int .i64 fr, Value.int .i64 tr, Value.bool car, Value.int .u64 kyr, Value.int .u64 slr] 52)).alloc (.cells #[Value.slice (some ⟨wr.heap.size, 0, none⟩) 1 1, Value.slice none 0 0] 59))
            have pr := Lib.hid ((pr.out.alloc (.cells #[Value.int .i64 sr, Value.string sbr, Value.string is_r, Value.int .i64 fr, Value.int .i64 tr, Value.bool car, Value.int .u64 kyr, Value.int .u64 slr] 52)).alloc (.cells #[Value.slice (some ⟨wr.heap.size, 0, none⟩) 1 1, Value.slice none 0 0] 59))
            have hb := Lib.hid (below_new (below_new hbL.out (.cells #[Value.int .i64 sr, Value.string sbr, Value.string is_r, Value.int .i64 fr, Value.int .i64 tr, Value.bool car, Value.int .u64 kyr, Value.int .u64 slr] 52)) (.cells #[Value.slice (some ⟨wr.heap.size, 0, none⟩) 1 1, Value.slice none 0 0] 59))
            have hC := Lib.hid (hC.out.more (below_new (a1 wr (.cells #[Value.int .i64 sr, Value.string sbr, Value.string is_r, Value.int .i64 fr, Value.int .i64 tr, Value.bool car, Value.int .u64 kyr, Value.int .u64 slr] 52)) (.cells #[Value.slice (some ⟨wr.heap.size, 0, none⟩) 1 1, Value.slice none 0 0] 59)))
            clear hbL hadb
            generalize ((wr.alloc (.cells #[Value.int .i64 sr, Value.string sbr, Value.string is_r, Value.int .i64 fr, Value.int .i64 tr, Value.bool car, Value.int .u64 kyr, Value.int .u64 slr] 52)).alloc (.cells #[Value.slice (some ⟨wr.heap.size, 0, none⟩) 1 1, Value.slice none 0 0] 59)) = wB at pT pl px pr hb hC ⊢
            generalize wr.heap.size = gl at pT pl px ⊢
            have hV1 : Hid (∀ w2, Below wB.heap.size wB w2 → Calls Try.prog 59 #[.slice (some ad) k cc, .agg #[Value.slice (some ⟨gl, 0, none⟩) 1 1, Value.slice none 0 0], .int .i64 now] w2 fun e w' => e = .returned (.int .i64 0) ∧ Below w2.heap.size w2 w') := fun w2 h => by
              have := verify_any (some ad) (some ⟨gl, 0, none⟩) none k 1 0 cc 1 0 C [(⟨sr, sbr, is_r, fr, tr, car, kyr, slr⟩ : Ct)] [] now w2 (hC.out.more h) ((lat_blk ctC_len pl.out [(⟨sr, sbr, is_r, fr, tr, car, kyr, slr⟩ : Ct)] 1 rfl (by simp [flat, ctC])).more h) (LAt.nil iC_len _ _) (by omega) (by omega) (by omega) hokC.out
              rw [hv1.out] at this
              exact this
            have hV2 : Hid (∀ A9 n9 c9 w2, n9 = (C ++ [(⟨sr, sbr, is_r, fr, tr, car, kyr, slr⟩ : Ct)]).length → Below wB.heap.size wB w2 → LAt ctC 8 w2 w2.heap.size A9 n9 (C ++ [(⟨sr, sbr, is_r, fr, tr, car, kyr, slr⟩ : Ct)]) → Calls Try.prog 59 #[.slice A9 n9 c9, .agg #[Value.slice (some ⟨gl, 0, none⟩) 1 1, Value.slice none 0 0], .int .i64 now] w2 fun e w' => e = .returned (.int .i64 0) ∧ Below w2.heap.size w2 w') := fun A9 n9 c9 w2 e9 h h9 => by
              have hn9 : n9 ≤ 1000 := by rw [e9, List.length_append, hlC.out]; simp; omega
              have := verify_any A9 (some ⟨gl, 0, none⟩) none n9 1 0 c9 1 0 (C ++ [(⟨sr, sbr, is_r, fr, tr, car, kyr, slr⟩ : Ct)]) [(⟨sr, sbr, is_r, fr, tr, car, kyr, slr⟩ : Ct)] [] now w2 h9 ((lat_blk ctC_len pl.out [(⟨sr, sbr, is_r, fr, tr, car, kyr, slr⟩ : Ct)] 1 rfl (by simp [flat, ctC])).more h) (LAt.nil iC_len _ _) hn9 (by omega) (by omega) hokD.out
              rw [hv2.out] at this
              exact this
            have hcx : Hid (∀ w2, Below wB.heap.size wB w2 → w2.cell? ⟨(gl + 1), 0, none⟩ = some (Value.slice (some ⟨gl, 0, none⟩) 1 1) ∧ w2.cell? ⟨(gl + 1), 1, none⟩ = some (Value.slice none 0 0) ∧ w2.cell? ⟨w.heap.size, 9, none⟩ = some (Value.int .i64 now) ∧ w2.cell? ⟨gr, 0, none⟩ = some (Value.int .i64 sr) ∧ w2.cell? ⟨gr, 1, none⟩ = some (Value.string sbr) ∧ w2.cell? ⟨gr, 2, none⟩ = some (Value.string is_r) ∧ w2.cell? ⟨gr, 3, none⟩ = some (Value.int .i64 fr) ∧ w2.cell? ⟨gr, 4, none⟩ = some (Value.int .i64 tr) ∧ w2.cell? ⟨gr, 5, none⟩ = some (Value.bool car) ∧ w2.cell? ⟨gr, 6, none⟩ = some (Value.int .u64 kyr) ∧ w2.cell? ⟨gr, 7, none⟩ = some (Value.int .u64 slr)) := fun w2 h => by
              have q1 := pT.out.below h pT.out.lt
              have q2 := px.out.below h px.out.lt
              have q3 := pr.out.below h pr.out.lt
              exact ⟨q1.cell 0, q1.cell 1, q2.cell 9, q3.cell 0, q3.cell 1, q3.cell 2, q3.cell 3, q3.cell 4, q3.cell 5, q3.cell 6, q3.cell 7⟩
            refine RM.region [(95, 92), (95, 94)] [] (F := F16 wB.heap.size w.heap.size gr (gl + 1) ad k cc #[Value.slice (some ⟨gl, 0, none⟩) 1 1, Value.slice none 0 0] #[Value.int .i64 sr, Value.string sbr, Value.string is_r, Value.int .i64 fr, Value.int .i64 tr, Value.bool car, Value.int .u64 kyr, Value.int .u64 slr] now C (C ++ [(⟨sr, sbr, is_r, fr, tr, car, kyr, slr⟩ : Ct)])) (W := fun wz => Below wB.heap.size wB wz) (R := R16 wB.heap.size) (S := noS) (G := noG) rfl F16_more (fun _ _ _ _ _ _ _ => trivial) (fun _ _ _ _ _ h => h.elim) (fun _ _ _ _ _ h => h.elim) (by kernel_rfl) (by kernel_rfl) (by kernel_rfl) (by kernel_rfl) (by kernel_rfl) ?_ ?_ ?_ (by kernel_rfl) ?_
            · exact (Below.refl _ _).drew
            · intro t ht
              unfold F16
              split <;> first | trivial | exact rfl | (exact absurd ht (by decide))
            · simp only [List.forall_mem_cons, List.not_mem_nil, false_implies, implies_true, and_true]
              refine ⟨?_, ?_, ?_, ?_, ?_, ?_, ?_, ?_, ?_, ?_, ?_, ?_, ?_, ?_, ?_, ?_, ?_, ?_, ?_⟩
              · intro a w2 hw _ hf K hK
                have f0 := hf 6 rfl
                simp only [F16] at f0
                clear hf
                go_simp
                exact hK _ _ _ rfl rfl hw (Below.refl _ _) (fun h => absurd h (by decide))
              · intro a w2 hw _ hf K hK
                have f0 := hf 10 rfl
                simp only [F16] at f0
                clear hf
                obtain ⟨t0, t1, d9, r0, r1, r2, r3, r4, r5, r6, r7⟩ := hcx.out w2 hw
                go_simp
                exact hK _ _ _ rfl rfl hw (Below.refl _ _) (fun h => absurd h (by decide))
              · intro a w2 hw _ hf K hK
                have f0 := hf 1 rfl
                simp only [F16] at f0
                clear hf
                go_simp
                exact hK _ _ _ rfl rfl hw (Below.refl _ _) (fun h => absurd h (by decide))
              · intro a w2 hw _ hf K hK
                have f0 := hf 85 rfl
                simp only [F16] at f0
                clear hf
                obtain ⟨t0, t1, d9, r0, r1, r2, r3, r4, r5, r6, r7⟩ := hcx.out w2 hw
                go_simp
                exact hK _ _ _ rfl rfl hw (Below.refl _ _) (fun h => absurd h (by decide))
              · intro a w2 hw _ hf K hK
                have f0 := hf 83 rfl
                have f1 := hf 84 rfl
                have f2 := hf 86 rfl
                simp only [F16] at f0 f1 f2
                clear hf
                go_simp
                refine (hV1.out w2 hw).mono ?_; rintro e w5 ⟨rfl, hb⟩
                exact hK _ _ _ rfl rfl (hw.trans (hb.mono hw.size)) hb (fun h => absurd h (by decide))
              · intro a w2 hw _ hf K hK
                have f0 := hf 87 rfl
                simp only [F16] at f0
                clear hf
                go_simp
                exact hK _ _ _ rfl rfl hw (Below.refl _ _) (fun h => absurd h (by decide))
              · intro a w2 hw _ hf K hK
                have f0 := hf 88 rfl
                simp only [F16] at f0
                clear hf
                go_simp
                exact hK _ _ _ rfl rfl hw (Below.refl _ _) (fun h => absurd h (by decide))
              · refine ⟨?_, ?_⟩
                · intro a w2 hw hg hf K hK
                  clear hf
                  go_simp
                  exact hK _ _ _ rfl ⟨w2.heap.size, rfl, hw.size, Blk.new w2 52 #[]⟩ (below_new hw _) (a1 _ _) (fun h => absurd h (by decide))
                · exact fun v w _ hv hne => absurd hv hne
              · refine ⟨?_, ?_⟩
                · intro a w2 hw hg hf K hK
                  have f0 := hf 6 rfl
                  simp only [F16] at f0
                  clear hf
                  go_simp
                  exact hK _ _ _ rfl rfl hw (Below.refl _ _) (fun h => absurd h (by decide))
                · exact fun v w _ hv hne => absurd hv hne
              · refine ⟨?_, ?_⟩
                · intro a w2 hw hg hf K hK
                  have f0 := hf 90 rfl
                  have f1 := hf 91 rfl
                  simp only [F16] at f0 f1
                  clear hf
                  obtain ⟨g, e0, hbg, hbk⟩ := f0
                  refine wp_append_kept w2 (.tmp 90) (.tmp 91) 55 rfl wB.heap.size 52 i0 _ 8 80 Try.underlying55 hi0.out hz0.out hz1.out hz2.out rfl (by omega) (.slice (some ⟨g, 0, none⟩) 0 0) 0 [] ((eval_tmpc a 90).trans e0) ⟨rfl, .inr ⟨g, 0, #[], rfl, hbg, hbk, Nat.le_refl _, Nat.zero_le _, rfl, rfl⟩⟩ w2.heap.size (some ad) k cc (flat ctC C) ((eval_tmpc a 91).trans f1) (hC.out.more hw).2 (ct_one _) (by simp only [maxLen]; omega) (by omega) hw.size ?_
                  intro v' w' hown hg hkp
                  have hbl : Below w2.heap.size w2 w' := by
                    rcases hkp with h | ⟨g', cap', e, hc, h0⟩
                    · exact h
                    · injection e with _ _ ec; omega
                  rw [Nat.zero_add, List.nil_append] at hown
                  exact hK _ _ _ rfl ⟨ctC_len, by rw [hlC.out]; exact hown⟩ (hw.trans (hbl.mono hw.size)) hbl (fun h => absurd h (by decide))
                · exact fun v w _ hv hne => absurd hv hne
              · refine ⟨?_, ?_⟩
                · intro a w2 hw hg hf K hK
                  have f0 := hf 3 rfl
                  simp only [F16] at f0
                  clear hf
                  obtain ⟨t0, t1, d9, r0, r1, r2, r3, r4, r5, r6, r7⟩ := hcx.out w2 hw
                  go_simp
                  exact hK _ _ _ rfl rfl hw (Below.refl _ _) (fun h => absurd h (by decide))
                · exact fun v w _ hv hne => absurd hv hne
              · refine ⟨?_, ?_⟩
                · intro a w2 hw hg hf K hK
                  have f0 := hf 93 rfl
                  simp only [F16] at f0
                  clear hf
                  go_simp
                  exact hK _ _ _ rfl ⟨w2.heap.size, rfl, hw.size, Blk.new w2 52 _⟩ (below_new hw _) (a1 _ _) (fun h => absurd h (by decide))
                · exact fun v w _ hv hne => absurd hv hne
              · refine ⟨?_, ?_⟩
                · intro a w2 hw hg hf K hK
                  have f0 := hf 92 rfl
                  have f1 := hf 94 rfl
                  simp only [F16] at f0 f1
                  clear hf
                  obtain ⟨g4, e4, hbg4, hbk4⟩ := f1
                  generalize hv92 : a.tmps[92]?.getD undef = v92 at f0
                  refine wp_append_kept w2 (.tmp 92) (.tmp 94) 55 rfl wB.heap.size 52 i0 _ 8 80 Try.underlying55 hi0.out hz0.out hz1.out hz2.out rfl (by omega) v92 k (flat ctC C) ((eval_tmpc a 92).trans hv92) (by have := f0.2; rw [hlC.out] at this; exact this) w2.heap.size (some ⟨g4, 0, none⟩) 1 1 (flat ctC [(⟨sr, sbr, is_r, fr, tr, car, kyr, slr⟩ : Ct)]) ((eval_tmpc a 94).trans e4) (lat_blk ctC_len hbk4 [(⟨sr, sbr, is_r, fr, tr, car, kyr, slr⟩ : Ct)] 1 rfl (by simp [flat, ctC])).2 (ct_one _) (by simp only [maxLen]; omega) (by omega) hw.size ?_
                  intro v' w' hown hg hkp
                  have hbb := below_own2 (by have := f0.2; rw [hlC.out] at this; exact this) hw.size hg
                  refine hK _ _ _ rfl ⟨ctC_len, by rw [List.length_append, hlC.out, flat_append]; exact hown⟩ (hw.trans hbb) ⟨hg.size, fun b hb hbk => ?_⟩ (fun h => absurd h (by decide))
                  rcases hkp with h | ⟨g', cap', e, hc, h0⟩
                  · exact h.block b (lt_of_heap hbk)
                  · have hf0 := f0.2.2
                    rw [e] at hf0 hg
                    rcases hf0 with ⟨e1, _⟩ | ⟨g2, c2, cur, e1, _, hh, _, _, hsz, _⟩
                    · cases e1
                    · injection e1 with e1 _ e3
                      injection e1 with e1
                      injection e1 with e1
                      subst e1; subst e3
                      refine hg.block b (lt_of_heap hbk) (fun e4 => ?_)
                      simp [Value.ownBlock] at e4
                      subst e4
                      rw [hbk] at hh
                      injection hh with hh
                      injection hh with hh
                      subst hh
                      simp at hsz
                      omega
                · exact fun v w _ hv hne => absurd hv hne
              · refine ⟨?_, ?_⟩
                · intro a w2 hw hg hf K hK
                  have f0 := hf 10 rfl
                  simp only [F16] at f0
                  clear hf
                  obtain ⟨t0, t1, d9, r0, r1, r2, r3, r4, r5, r6, r7⟩ := hcx.out w2 hw
                  go_simp
                  exact hK _ _ _ rfl rfl hw (Below.refl _ _) (fun h => absurd h (by decide))
                · exact fun v w _ hv hne => absurd hv hne
              · refine ⟨?_, ?_⟩
                · intro a w2 hw hg hf K hK
                  have f0 := hf 1 rfl
                  simp only [F16] at f0
                  clear hf
                  go_simp
                  exact hK _ _ _ rfl rfl hw (Below.refl _ _) (fun h => absurd h (by decide))
                · exact fun v w _ hv hne => absurd hv hne
              · refine ⟨?_, ?_⟩
                · intro a w2 hw hg hf K hK
                  have f0 := hf 97 rfl
                  simp only [F16] at f0
                  clear hf
                  obtain ⟨t0, t1, d9, r0, r1, r2, r3, r4, r5, r6, r7⟩ := hcx.out w2 hw
                  go_simp
                  exact hK _ _ _ rfl rfl hw (Below.refl _ _) (fun h => absurd h (by decide))
                · exact fun v w _ hv hne => absurd hv hne
              · refine ⟨?_, ?_⟩
                · intro a w2 hw hg hf K hK
                  have f0 := hf 95 rfl
                  have f1 := hf 96 rfl
                  have f2 := hf 98 rfl
                  simp only [F16] at f0 f1 f2
                  clear hf
                  obtain ⟨A9, c9, e9, hc9, -, -, hA9⟩ := f0.form
                  generalize hn9 : (C ++ [(⟨sr, sbr, is_r, fr, tr, car, kyr, slr⟩ : Ct)]).length = n9 at e9 hA9 hc9
                  have hv := Lib.hid (hV2.out A9 n9 c9 w2 hn9.symm hw hA9)
                  clear hn9 hc9 hA9 f0
                  go_simp
                  refine hv.out.mono ?_; rintro e w5 ⟨rfl, hb⟩
                  exact hK _ _ _ rfl rfl (hw.trans (hb.mono hw.size)) hb (fun h => absurd h (by decide))
                · exact fun v w _ hv hne => absurd hv hne
              · refine ⟨?_, ?_⟩
                · intro a w2 hw hg hf K hK
                  have f0 := hf 99 rfl
                  simp only [F16] at f0
                  clear hf
                  go_simp
                  exact hK _ _ _ rfl rfl hw (Below.refl _ _) (fun h => absurd h (by decide))
                · exact fun v w _ hv hne => absurd hv hne
              · intro a w2 hw _ hf K hK
                have f0 := hf 89 rfl
                have f1 := hf 100 rfl
                simp only [F16] at f0 f1
                clear hf
                go_simp
                exact hK _ _ _ rfl rfl hw (Below.refl _ _) (fun h => absurd h (by decide))
            · intro a' w9 hd hs hw hout hf _
              have h101 := hf 101 rfl
              simp only [F16] at h101
              have e0 : _ = some (_) := hout 0 rfl
              have e1 : _ = some (_) := hout 1 rfl
              have e2 : _ = some (_) := hout 2 rfl
              have e3 : _ = some (_) := hout 3 rfl
              have e4 : _ = some (_) := hout 4 rfl
              have e5 : _ = some (_) := hout 5 rfl
              have e6 : _ = some (_) := hout 6 rfl
              have e7 : _ = some (_) := hout 7 rfl
              have e8 : _ = some (_) := hout 8 rfl
              have e9 : _ = some (_) := hout 9 rfl
              have e10 : _ = some (_) := hout 10 rfl
              have e11 : _ = some (_) := hout 11 rfl
              have e12 : _ = some (_) := hout 12 rfl
              have e13 : _ = some (_) := hout 13 rfl
              have e14 : _ = some (_) := hout 14 rfl
              have e15 : _ = some (_) := hout 15 rfl
              have e16 : _ = some (_) := hout 16 rfl
              have e17 : _ = some (_) := hout 17 rfl
              have e18 : _ = some (_) := hout 18 rfl
              have e19 : _ = some (_) := hout 19 rfl
              have e20 : _ = some (_) := hout 20 rfl
              have e21 : _ = some (_) := hout 21 rfl
              have e22 : _ = some (_) := hout 22 rfl
              have e23 : _ = some (_) := hout 23 rfl
              have e24 : _ = some (_) := hout 24 rfl
              have e25 : _ = some (_) := hout 25 rfl
              have e26 : _ = some (_) := hout 26 rfl
              have e27 : _ = some (_) := hout 27 rfl
              have e28 : _ = some (_) := hout 28 rfl
              have e29 : _ = some (_) := hout 29 rfl
              have e30 : _ = some (_) := hout 30 rfl
              have e31 : _ = some (_) := hout 31 rfl
              have e32 : _ = some (_) := hout 32 rfl
              have e33 : _ = some (_) := hout 33 rfl
              have e34 : _ = some (_) := hout 34 rfl
              have e35 : _ = some (_) := hout 35 rfl
              have e36 : _ = some (_) := hout 36 rfl
              have e37 : _ = some (_) := hout 37 rfl
              have e38 : _ = some (_) := hout 38 rfl
              have e39 : _ = some (_) := hout 39 rfl
              have e40 : _ = some (_) := hout 40 rfl
              have e41 : _ = some (_) := hout 41 rfl
              have e42 : _ = some (_) := hout 42 rfl
              have e43 : _ = some (_) := hout 43 rfl
              have e44 : _ = some (_) := hout 44 rfl
              have e45 : _ = some (_) := hout 45 rfl
              have e46 : _ = some (_) := hout 46 rfl
              have e47 : _ = some (_) := hout 47 rfl
              have e48 : _ = some (_) := hout 48 rfl
              have e49 : _ = some (_) := hout 49 rfl
              have e50 : _ = some (_) := hout 50 rfl
              have e51 : _ = some (_) := hout 51 rfl
              have e52 : _ = some (_) := hout 52 rfl
              have e53 : _ = some (_) := hout 53 rfl
              have e54 : _ = some (_) := hout 54 rfl
              have e55 : _ = some (_) := hout 55 rfl
              have e56 : _ = some (_) := hout 56 rfl
              have e57 : _ = some (_) := hout 57 rfl
              have e58 : _ = some (_) := hout 58 rfl
              have e59 : _ = some (_) := hout 59 rfl
              have e60 : _ = some (_) := hout 60 rfl
              have e61 : _ = some (_) := hout 61 rfl
              have e62 : _ = some (_) := hout 62 rfl
              have e63 : _ = some (_) := hout 63 rfl
              have e64 : _ = some (_) := hout 64 rfl
              have e65 : _ = some (_) := hout 65 rfl
              have e66 : _ = some (_) := hout 66 rfl
              have e67 : _ = some (_) := hout 67 rfl
              have e68 : _ = some (_) := hout 68 rfl
              have e69 : _ = some (_) := hout 69 rfl
              have e70 : _ = some (_) := hout 70 rfl
              have e71 : _ = some (_) := hout 71 rfl
              have e72 : _ = some (_) := hout 72 rfl
              have e73 : _ = some (_) := hout 73 rfl
              have e74 : _ = some (_) := hout 74 rfl
              have e75 : _ = some (_) := hout 75 rfl
              have e76 : _ = some (_) := hout 76 rfl
              have e77 : _ = some (_) := hout 77 rfl
              have e78 : _ = some (_) := hout 78 rfl
              have e79 : _ = some (_) := hout 79 rfl
              have e80 : _ = some (_) := hout 80 rfl
              have e81 : _ = some (_) := hout 81 rfl
              have e82 : _ = some (_) := hout 82 rfl
              have e102 : _ = some (_) := hout 102 rfl
              have e103 : _ = some (_) := hout 103 rfl
              have e104 : _ = some (_) := hout 104 rfl
              have e105 : _ = some (_) := hout 105 rfl
              have e106 : _ = some (_) := hout 106 rfl
              have e107 : _ = some (_) := hout 107 rfl
              have e108 : _ = some (_) := hout 108 rfl
              have e109 : _ = some (_) := hout 109 rfl
              have e110 : _ = some (_) := hout 110 rfl
              have e111 : _ = some (_) := hout 111 rfl
              have e112 : _ = some (_) := hout 112 rfl
              have e113 : _ = some (_) := hout 113 rfl
              have e114 : _ = some (_) := hout 114 rfl
              have e115 : _ = some (_) := hout 115 rfl
              have e116 : _ = some (_) := hout 116 rfl
              have e117 : _ = some (_) := hout 117 rfl
              have e118 : _ = some (_) := hout 118 rfl
              have e119 : _ = some (_) := hout 119 rfl
              have e120 : _ = some (_) := hout 120 rfl
              have e121 : _ = some (_) := hout 121 rfl
              have e122 : _ = some (_) := hout 122 rfl
              have e123 : _ = some (_) := hout 123 rfl
              have e124 : _ = some (_) := hout 124 rfl
              have e125 : _ = some (_) := hout 125 rfl
              have e126 : _ = some (_) := hout 126 rfl
              have e127 : _ = some (_) := hout 127 rfl
              have e128 : _ = some (_) := hout 128 rfl
              have e129 : _ = some (_) := hout 129 rfl
              have e130 : _ = some (_) := hout 130 rfl
              have e131 : _ = some (_) := hout 131 rfl
              have e132 : _ = some (_) := hout 132 rfl
              have e133 : _ = some (_) := hout 133 rfl
              have e134 : _ = some (_) := hout 134 rfl
              have e135 : _ = some (_) := hout 135 rfl
              have e136 : _ = some (_) := hout 136 rfl
              have e137 : _ = some (_) := hout 137 rfl
              have e138 : _ = some (_) := hout 138 rfl
              have e139 : _ = some (_) := hout 139 rfl
              obtain ⟨tm, df⟩ := a'
              simp only at hd hs h101 e0 e1 e2 e3 e4 e5 e6 e7 e8 e9 e10 e11 e12 e13 e14 e15 e16 e17 e18 e19 e20 e21 e22 e23 e24 e25 e26 e27 e28 e29 e30 e31 e32 e33 e34 e35 e36 e37 e38 e39 e40 e41 e42 e43 e44 e45 e46 e47 e48 e49 e50 e51 e52 e53 e54 e55 e56 e57 e58 e59 e60 e61 e62 e63 e64 e65 e66 e67 e68 e69 e70 e71 e72 e73 e74 e75 e76 e77 e78 e79 e80 e81 e82 e102 e103 e104 e105 e106 e107 e108 e109 e110 e111 e112 e113 e114 e115 e116 e117 e118 e119 e120 e121 e122 e123 e124 e125 e126 e127 e128 e129 e130 e131 e132 e133 e134 e135 e136 e137 e138 e139
              have e := F16_lit tm hs
              simp only [h101, e0, e1, e2, e3, e4, e5, e6, e7, e8, e9, e10, e11, e12, e13, e14, e15, e16, e17, e18, e19, e20, e21, e22, e23, e24, e25, e26, e27, e28, e29, e30, e31, e32, e33, e34, e35, e36, e37, e38, e39, e40, e41, e42, e43, e44, e45, e46, e47, e48, e49, e50, e51, e52, e53, e54, e55, e56, e57, e58, e59, e60, e61, e62, e63, e64, e65, e66, e67, e68, e69, e70, e71, e72, e73, e74, e75, e76, e77, e78, e79, e80, e81, e82, e102, e103, e104, e105, e106, e107, e108, e109, e110, e111, e112, e113, e114, e115, e116, e117, e118, e119, e120, e121, e122, e123, e124, e125, e126, e127, e128, e129, e130, e131, e132, e133, e134, e135, e136, e137, e138, e139, Option.getD_some] at e
              clear hf hout hs
              rw [e, hd]
              clear e hd h101 e0 e1 e2 e3 e4 e5 e6 e7 e8 e9 e10 e11 e12 e13 e14 e15 e16 e17 e18 e19 e20 e21 e22 e23 e24 e25 e26 e27 e28 e29 e30 e31 e32 e33 e34 e35 e36 e37 e38 e39 e40 e41 e42 e43 e44 e45 e46 e47 e48 e49 e50 e51 e52 e53 e54 e55 e56 e57 e58 e59 e60 e61 e62 e63 e64 e65 e66 e67 e68 e69 e70 e71 e72 e73 e74 e75 e76 e77 e78 e79 e80 e81 e82 e102 e103 e104 e105 e106 e107 e108 e109 e110 e111 e112 e113 e114 e115 e116 e117 e118 e119 e120 e121 e122 e123 e124 e125 e126 e127 e128 e129 e130 e131 e132 e133 e134 e135 e136 e137 e138 e139
              generalize tm[83]?.getD undef = y83x, tm[84]?.getD undef = y84x, tm[85]?.getD undef = y85x, tm[86]?.getD undef = y86x, tm[87]?.getD undef = y87x, tm[88]?.getD undef = y88x, tm[89]?.getD undef = y89x, tm[90]?.getD undef = y90x, tm[91]?.getD undef = y91x, tm[92]?.getD undef = y92x, tm[93]?.getD undef = y93x, tm[94]?.getD undef = y94x, tm[95]?.getD undef = y95x, tm[96]?.getD undef = y96x, tm[97]?.getD undef = y97x, tm[98]?.getD undef = y98x, tm[99]?.getD undef = y99x, tm[100]?.getD undef = y100x
              have hb := Lib.hid (hb.out.trans (hw.mono hb.out.size))
              have hbL := Lib.hid hw
              clear hcx hw hV1 hV2
              generalize w9 = w5 at *
              have hV3 : Hid (∀ w2, Below w5.heap.size w5 w2 → Calls Try.prog 59 #[.slice (some ad) k cc, .agg #[Value.slice none 0 0, Value.slice none 0 0], .int .i64 now] w2 fun e w' => e = .returned (.int .i64 14) ∧ Below w2.heap.size w2 w') := fun w2 h => by
                have h0 := hbL.out.trans (h.mono hbL.out.size)
                have := verify_any (some ad) none none k 0 0 cc 0 0 C [] [] now w2 (hC.out.more h0) (LAt.nil ctC_len _ _) (LAt.nil iC_len _ _) (by omega) (by omega) (by omega) hokC.out
                rw [hv3.out] at this
                exact this
              have hV4 : Hid (∀ w2, Below w5.heap.size w5 w2 → Calls Try.prog 59 #[.slice (some ad) k cc, .agg #[Value.slice (some ⟨gl, 0, none⟩) 1 1, Value.slice none 0 0], .int .i64 tz] w2 fun e w' => e = .returned (.int .i64 12) ∧ Below w2.heap.size w2 w') := fun w2 h => by
                have h0 := hbL.out.trans (h.mono hbL.out.size)
                have := verify_any (some ad) (some ⟨gl, 0, none⟩) none k 1 0 cc 1 0 C [(⟨sr, sbr, is_r, fr, tr, car, kyr, slr⟩ : Ct)] [] tz w2 (hC.out.more h0) ((lat_blk ctC_len pl.out [(⟨sr, sbr, is_r, fr, tr, car, kyr, slr⟩ : Ct)] 1 rfl (by simp [flat, ctC])).more h0) (LAt.nil iC_len _ _) (by omega) (by omega) (by omega) hokC.out
                rw [hv4.out] at this
                exact this
              have hcy : Hid (∀ w2, Below w5.heap.size w5 w2 → w2.cell? ⟨(gl + 1), 0, none⟩ = some (Value.slice (some ⟨gl, 0, none⟩) 1 1) ∧ w2.cell? ⟨(gl + 1), 1, none⟩ = some (Value.slice none 0 0) ∧ w2.cell? ⟨w.heap.size, 9, none⟩ = some (Value.int .i64 now) ∧ w2.cell? ⟨ad.block, ad.off + 4, none⟩ = some (Value.int .i64 tz)) := fun w2 h => by
                have h0 := hbL.out.trans (h.mono hbL.out.size)
                have q1 := pT.out.below h0 pT.out.lt
                have q2 := px.out.below h0 px.out.lt
                obtain ⟨ad', e, -, -, -, -, -, e4, -⟩ := ct_cells (hC.out.more h0) hk0
                injection e with e
                subst e
                rw [show ad.add (0 * 8) = ad by simp [Addr.add], htz.out] at e4
                exact ⟨q1.cell 0, q1.cell 1, q2.cell 9, e4⟩
              go_wp2_with fail
              refine RM.region [] [] (F := F18 w.heap.size (gl + 1) ad k cc #[Value.slice (some ⟨gl, 0, none⟩) 1 1, Value.slice none 0 0] now tz) (W := fun wz => Below w5.heap.size w5 wz) (R := fun _ => Rb) (S := noS) (G := noG) rfl F18_more (fun _ _ _ _ _ _ _ => trivial) (fun _ _ _ _ _ h => h.elim) (fun _ _ _ _ _ h => h.elim) (by kernel_rfl) (by kernel_rfl) (by kernel_rfl) (by kernel_rfl) (by kernel_rfl) ?_ ?_ ?_ (by kernel_rfl) ?_
              · exact (Below.refl _ _).drew
              · intro t ht
                unfold F18
                split <;> first | trivial | exact rfl | (exact absurd ht (by decide))
              · simp only [List.forall_mem_cons, List.not_mem_nil, false_implies, implies_true, and_true]
                refine ⟨?_, ?_, ?_, ?_, ?_, ?_, ?_, ?_, ?_, ?_, ?_, ?_, ?_, ?_, ?_, ?_, ?_⟩
                · intro a w2 hw _ hf K hK
                  have f0 := hf 6 rfl
                  simp only [F18] at f0
                  clear hf
                  go_simp
                  exact hK _ _ _ rfl rfl hw (Below.refl _ _) (fun h => absurd h (by decide))
                · intro a w2 hw _ hf K hK
                  clear hf
                  go_simp
                  exact hK _ _ _ rfl rfl hw (Below.refl _ _) (fun h => absurd h (by decide))
                · intro a w2 hw _ hf K hK
                  have f0 := hf 1 rfl
                  simp only [F18] at f0
                  clear hf
                  go_simp
                  exact hK _ _ _ rfl rfl hw (Below.refl _ _) (fun h => absurd h (by decide))
                · intro a w2 hw _ hf K hK
                  have f0 := hf 104 rfl
                  simp only [F18] at f0
                  clear hf
                  obtain ⟨t0, t1, d9, e4⟩ := hcy.out w2 hw
                  go_simp
                  exact hK _ _ _ rfl rfl hw (Below.refl _ _) (fun h => absurd h (by decide))
                · intro a w2 hw _ hf K hK
                  have f0 := hf 102 rfl
                  have f1 := hf 103 rfl
                  have f2 := hf 105 rfl
                  simp only [F18] at f0 f1 f2
                  clear hf
                  go_simp
                  refine (hV3.out w2 hw).mono ?_; rintro e w5 ⟨rfl, hb⟩
                  exact hK _ _ _ rfl rfl (hw.trans (hb.mono hw.size)) hb (fun h => absurd h (by decide))
                · intro a w2 hw _ hf K hK
                  have f0 := hf 106 rfl
                  simp only [F18] at f0
                  clear hf
                  go_simp
                  exact hK _ _ _ rfl rfl hw (Below.refl _ _) (fun h => absurd h (by decide))
                · intro a w2 hw _ hf K hK
                  have f0 := hf 107 rfl
                  simp only [F18] at f0
                  clear hf
                  go_simp
                  exact hK _ _ _ rfl rfl hw (Below.refl _ _) (fun h => absurd h (by decide))
                · refine ⟨?_, ?_⟩
                  · intro a w2 hw hg hf K hK
                    have f0 := hf 6 rfl
                    simp only [F18] at f0
                    clear hf
                    go_simp
                    exact hK _ _ _ rfl rfl hw (Below.refl _ _) (fun h => absurd h (by decide))
                  · exact fun v w _ hv hne => absurd hv hne
                · refine ⟨?_, ?_⟩
                  · intro a w2 hw hg hf K hK
                    have f0 := hf 10 rfl
                    simp only [F18] at f0
                    clear hf
                    obtain ⟨t0, t1, d9, e4⟩ := hcy.out w2 hw
                    go_simp
                    exact hK _ _ _ rfl rfl hw (Below.refl _ _) (fun h => absurd h (by decide))
                  · exact fun v w _ hv hne => absurd hv hne
                · refine ⟨?_, ?_⟩
                  · intro a w2 hw hg hf K hK
                    have f0 := hf 6 rfl
                    simp only [F18] at f0
                    clear hf
                    go_simp
                    exact hK _ _ _ rfl rfl hw (Below.refl _ _) (fun h => absurd h (by decide))
                  · exact fun v w _ hv hne => absurd hv hne
                · refine ⟨?_, ?_⟩
                  · intro a w2 hw hg hf K hK
                    have f0 := hf 111 rfl
                    simp only [F18] at f0
                    clear hf
                    go_simp
                    exact hK _ _ _ rfl rfl hw (Below.refl _ _) (fun h => absurd h (by decide))
                  · exact fun v w _ hv hne => absurd hv hne
                · refine ⟨?_, ?_⟩
                  · intro a w2 hw hg hf K hK
                    have f0 := hf 112 rfl
                    simp only [F18] at f0
                    clear hf
                    go_simp
                    exact hK _ _ _ rfl rfl hw (Below.refl _ _) (fun h => absurd h (by decide))
                  · exact fun v w _ hv hne => absurd hv hne
                · refine ⟨?_, ?_⟩
                  · intro a w2 hw hg hf K hK
                    have f0 := hf 113 rfl
                    simp only [F18] at f0
                    clear hf
                    go_simp
                    exact hK _ _ _ rfl rfl hw (Below.refl _ _) (fun h => absurd h (by decide))
                  · exact fun v w _ hv hne => absurd hv hne
                · refine ⟨?_, ?_⟩
                  · intro a w2 hw hg hf K hK
                    have f0 := hf 114 rfl
                    simp only [F18] at f0
                    clear hf
                    obtain ⟨t0, t1, d9, e4⟩ := hcy.out w2 hw
                    go_simp
                    exact hK _ _ _ rfl rfl hw (Below.refl _ _) (fun h => absurd h (by decide))
                  · exact fun v w _ hv hne => absurd hv hne
                · refine ⟨?_, ?_⟩
                  · intro a w2 hw hg hf K hK
                    have f0 := hf 109 rfl
                    have f1 := hf 110 rfl
                    have f2 := hf 115 rfl
                    simp only [F18] at f0 f1 f2
                    clear hf
                    go_simp
                    refine (hV4.out w2 hw).mono ?_; rintro e w5 ⟨rfl, hb⟩
                    exact hK _ _ _ rfl rfl (hw.trans (hb.mono hw.size)) hb (fun h => absurd h (by decide))
                  · exact fun v w _ hv hne => absurd hv hne
                · refine ⟨?_, ?_⟩
                  · intro a w2 hw hg hf K hK
                    have f0 := hf 116 rfl
                    simp only [F18] at f0
                    clear hf
                    go_simp
                    exact hK _ _ _ rfl rfl hw (Below.refl _ _) (fun h => absurd h (by decide))
                  · exact fun v w _ hv hne => absurd hv hne
                · intro a w2 hw _ hf K hK
                  have f0 := hf 108 rfl
                  have f1 := hf 117 rfl
                  simp only [F18] at f0 f1
                  clear hf
                  go_simp
                  exact hK _ _ _ rfl rfl hw (Below.refl _ _) (fun h => absurd h (by decide))
              · intro a' w9 hd hs hw hout hf _
                have h118 := hf 118 rfl
                simp only [F18] at h118
                have e0 : _ = some (_) := hout 0 rfl
                have e1 : _ = some (_) := hout 1 rfl
                have e2 : _ = some (_) := hout 2 rfl
                have e3 : _ = some (_) := hout 3 rfl
                have e4 : _ = some (_) := hout 4 rfl
                have e5 : _ = some (_) := hout 5 rfl
                have e6 : _ = some (_) := hout 6 rfl
                have e7 : _ = some (_) := hout 7 rfl
                have e8 : _ = some (_) := hout 8 rfl
                have e9 : _ = some (_) := hout 9 rfl
                have e10 : _ = some (_) := hout 10 rfl
                have e11 : _ = some (_) := hout 11 rfl
                have e12 : _ = some (_) := hout 12 rfl
                have e13 : _ = some (_) := hout 13 rfl
                have e14 : _ = some (_) := hout 14 rfl
                have e15 : _ = some (_) := hout 15 rfl
                have e16 : _ = some (_) := hout 16 rfl
                have e17 : _ = some (_) := hout 17 rfl
                have e18 : _ = some (_) := hout 18 rfl
                have e19 : _ = some (_) := hout 19 rfl
                have e20 : _ = some (_) := hout 20 rfl
                have e21 : _ = some (_) := hout 21 rfl
                have e22 : _ = some (_) := hout 22 rfl
                have e23 : _ = some (_) := hout 23 rfl
                have e24 : _ = some (_) := hout 24 rfl
                have e25 : _ = some (_) := hout 25 rfl
                have e26 : _ = some (_) := hout 26 rfl
                have e27 : _ = some (_) := hout 27 rfl
                have e28 : _ = some (_) := hout 28 rfl
                have e29 : _ = some (_) := hout 29 rfl
                have e30 : _ = some (_) := hout 30 rfl
                have e31 : _ = some (_) := hout 31 rfl
                have e32 : _ = some (_) := hout 32 rfl
                have e33 : _ = some (_) := hout 33 rfl
                have e34 : _ = some (_) := hout 34 rfl
                have e35 : _ = some (_) := hout 35 rfl
                have e36 : _ = some (_) := hout 36 rfl
                have e37 : _ = some (_) := hout 37 rfl
                have e38 : _ = some (_) := hout 38 rfl
                have e39 : _ = some (_) := hout 39 rfl
                have e40 : _ = some (_) := hout 40 rfl
                have e41 : _ = some (_) := hout 41 rfl
                have e42 : _ = some (_) := hout 42 rfl
                have e43 : _ = some (_) := hout 43 rfl
                have e44 : _ = some (_) := hout 44 rfl
                have e45 : _ = some (_) := hout 45 rfl
                have e46 : _ = some (_) := hout 46 rfl
                have e47 : _ = some (_) := hout 47 rfl
                have e48 : _ = some (_) := hout 48 rfl
                have e49 : _ = some (_) := hout 49 rfl
                have e50 : _ = some (_) := hout 50 rfl
                have e51 : _ = some (_) := hout 51 rfl
                have e52 : _ = some (_) := hout 52 rfl
                have e53 : _ = some (_) := hout 53 rfl
                have e54 : _ = some (_) := hout 54 rfl
                have e55 : _ = some (_) := hout 55 rfl
                have e56 : _ = some (_) := hout 56 rfl
                have e57 : _ = some (_) := hout 57 rfl
                have e58 : _ = some (_) := hout 58 rfl
                have e59 : _ = some (_) := hout 59 rfl
                have e60 : _ = some (_) := hout 60 rfl
                have e61 : _ = some (_) := hout 61 rfl
                have e62 : _ = some (_) := hout 62 rfl
                have e63 : _ = some (_) := hout 63 rfl
                have e64 : _ = some (_) := hout 64 rfl
                have e65 : _ = some (_) := hout 65 rfl
                have e66 : _ = some (_) := hout 66 rfl
                have e67 : _ = some (_) := hout 67 rfl
                have e68 : _ = some (_) := hout 68 rfl
                have e69 : _ = some (_) := hout 69 rfl
                have e70 : _ = some (_) := hout 70 rfl
                have e71 : _ = some (_) := hout 71 rfl
                have e72 : _ = some (_) := hout 72 rfl
                have e73 : _ = some (_) := hout 73 rfl
                have e74 : _ = some (_) := hout 74 rfl
                have e75 : _ = some (_) := hout 75 rfl
                have e76 : _ = some (_) := hout 76 rfl
                have e77 : _ = some (_) := hout 77 rfl
                have e78 : _ = some (_) := hout 78 rfl
                have e79 : _ = some (_) := hout 79 rfl
                have e80 : _ = some (_) := hout 80 rfl
                have e81 : _ = some (_) := hout 81 rfl
                have e82 : _ = some (_) := hout 82 rfl
                have e83 : _ = some (_) := hout 83 rfl
                have e84 : _ = some (_) := hout 84 rfl
                have e85 : _ = some (_) := hout 85 rfl
                have e86 : _ = some (_) := hout 86 rfl
                have e87 : _ = some (_) := hout 87 rfl
                have e88 : _ = some (_) := hout 88 rfl
                have e89 : _ = some (_) := hout 89 rfl
                have e90 : _ = some (_) := hout 90 rfl
                have e91 : _ = some (_) := hout 91 rfl
                have e92 : _ = some (_) := hout 92 rfl
                have e93 : _ = some (_) := hout 93 rfl
                have e94 : _ = some (_) := hout 94 rfl
                have e95 : _ = some (_) := hout 95 rfl
                have e96 : _ = some (_) := hout 96 rfl
                have e97 : _ = some (_) := hout 97 rfl
                have e98 : _ = some (_) := hout 98 rfl
                have e99 : _ = some (_) := hout 99 rfl
                have e100 : _ = some (_) := hout 100 rfl
                have e101 : _ = some (_) := hout 101 rfl
                have e119 : _ = some (_) := hout 119 rfl
                have e120 : _ = some (_) := hout 120 rfl
                have e121 : _ = some (_) := hout 121 rfl
                have e122 : _ = some (_) := hout 122 rfl
                have e123 : _ = some (_) := hout 123 rfl
                have e124 : _ = some (_) := hout 124 rfl
                have e125 : _ = some (_) := hout 125 rfl
                have e126 : _ = some (_) := hout 126 rfl
                have e127 : _ = some (_) := hout 127 rfl
                have e128 : _ = some (_) := hout 128 rfl
                have e129 : _ = some (_) := hout 129 rfl
                have e130 : _ = some (_) := hout 130 rfl
                have e131 : _ = some (_) := hout 131 rfl
                have e132 : _ = some (_) := hout 132 rfl
                have e133 : _ = some (_) := hout 133 rfl
                have e134 : _ = some (_) := hout 134 rfl
                have e135 : _ = some (_) := hout 135 rfl
                have e136 : _ = some (_) := hout 136 rfl
                have e137 : _ = some (_) := hout 137 rfl
                have e138 : _ = some (_) := hout 138 rfl
                have e139 : _ = some (_) := hout 139 rfl
                obtain ⟨tm, df⟩ := a'
                simp only at hd hs h118 e0 e1 e2 e3 e4 e5 e6 e7 e8 e9 e10 e11 e12 e13 e14 e15 e16 e17 e18 e19 e20 e21 e22 e23 e24 e25 e26 e27 e28 e29 e30 e31 e32 e33 e34 e35 e36 e37 e38 e39 e40 e41 e42 e43 e44 e45 e46 e47 e48 e49 e50 e51 e52 e53 e54 e55 e56 e57 e58 e59 e60 e61 e62 e63 e64 e65 e66 e67 e68 e69 e70 e71 e72 e73 e74 e75 e76 e77 e78 e79 e80 e81 e82 e83 e84 e85 e86 e87 e88 e89 e90 e91 e92 e93 e94 e95 e96 e97 e98 e99 e100 e101 e119 e120 e121 e122 e123 e124 e125 e126 e127 e128 e129 e130 e131 e132 e133 e134 e135 e136 e137 e138 e139
                have e := F18_lit tm hs
                simp only [h118, e0, e1, e2, e3, e4, e5, e6, e7, e8, e9, e10, e11, e12, e13, e14, e15, e16, e17, e18, e19, e20, e21, e22, e23, e24, e25, e26, e27, e28, e29, e30, e31, e32, e33, e34, e35, e36, e37, e38, e39, e40, e41, e42, e43, e44, e45, e46, e47, e48, e49, e50, e51, e52, e53, e54, e55, e56, e57, e58, e59, e60, e61, e62, e63, e64, e65, e66, e67, e68, e69, e70, e71, e72, e73, e74, e75, e76, e77, e78, e79, e80, e81, e82, e83, e84, e85, e86, e87, e88, e89, e90, e91, e92, e93, e94, e95, e96, e97, e98, e99, e100, e101, e119, e120, e121, e122, e123, e124, e125, e126, e127, e128, e129, e130, e131, e132, e133, e134, e135, e136, e137, e138, e139, Option.getD_some] at e
                clear hf hout hs
                rw [e, hd]
                clear e hd h118 e0 e1 e2 e3 e4 e5 e6 e7 e8 e9 e10 e11 e12 e13 e14 e15 e16 e17 e18 e19 e20 e21 e22 e23 e24 e25 e26 e27 e28 e29 e30 e31 e32 e33 e34 e35 e36 e37 e38 e39 e40 e41 e42 e43 e44 e45 e46 e47 e48 e49 e50 e51 e52 e53 e54 e55 e56 e57 e58 e59 e60 e61 e62 e63 e64 e65 e66 e67 e68 e69 e70 e71 e72 e73 e74 e75 e76 e77 e78 e79 e80 e81 e82 e83 e84 e85 e86 e87 e88 e89 e90 e91 e92 e93 e94 e95 e96 e97 e98 e99 e100 e101 e119 e120 e121 e122 e123 e124 e125 e126 e127 e128 e129 e130 e131 e132 e133 e134 e135 e136 e137 e138 e139
                generalize tm[102]?.getD undef = x102x, tm[103]?.getD undef = x103x, tm[104]?.getD undef = x104x, tm[105]?.getD undef = x105x, tm[106]?.getD undef = x106x, tm[107]?.getD undef = x107x, tm[108]?.getD undef = x108x, tm[109]?.getD undef = x109x, tm[110]?.getD undef = x110x, tm[111]?.getD undef = x111x, tm[112]?.getD undef = x112x, tm[113]?.getD undef = x113x, tm[114]?.getD undef = x114x, tm[115]?.getD undef = x115x, tm[116]?.getD undef = x116x, tm[117]?.getD undef = x117x
                have hb := Lib.hid (hb.out.trans (hw.mono hb.out.size))
                have hbL := Lib.hid (hbL.out.trans (hw.mono hbL.out.size))
                clear hcy hw hV3 hV4
                go_wp2_with fail
                go_loopw [11] (fun iv wr => ∃ i : Nat, i ≤ k ∧ iv = .int .i64 i ∧ Hid (Below w.heap.size w wr) ∧ Hid (Below wB.heap.size wB wr)) (fun iv _ => k - (intOf iv).toNat)
                case atStart => exact ⟨0, Nat.zero_le _, rfl, hb.out, hbL.out⟩
                case round =>
                  clear hb hbL
                  obtain ⟨i, hik, rfl, hb, hbL⟩ := hrel
                  by_cases hlt : i < k
                  · have hi0 : (0 : Int) ≤ i := by omega
                    have hi1 : (i : Int) < k := by omega
                    have hil : i < C.length := by have := hlC.out; omega
                    obtain ⟨sv, hse⟩ : ∃ s, (C.getD i noCt).serial = s := ⟨_, rfl⟩
                    obtain ⟨E5, hE5e⟩ : ∃ e, verR C [(⟨sr, sbr, is_r, fr, tr, car, kyr, slr⟩ : Ct)] [sv] now = e := ⟨_, rfl⟩
                    have hE5 : (E5 == 0) = false := by
                      have := ver_revoked (r := (⟨sr, sbr, is_r, fr, tr, car, kyr, slr⟩ : Ct)) hG.out (by rw [hlC.out]; omega) hil
                      rw [hse, hE5e] at this
                      simpa using this
                    replace hE5 := Lib.hid hE5
                    replace hE5e := Lib.hid hE5e
                    have hse2 : (C[i]'hil).serial = sv := by rw [← hse, getD_lt C noCt hil]
                    have hV5 : Hid (∀ w2 (i g9 : Nat), Below wr.heap.size wr w2 → i < k → Blk w2 g9 3 #[Value.int .i64 (C.getD i noCt).serial] → Calls Try.prog 59 #[.slice (some ad) k cc, .agg #[.slice (some ⟨gl, 0, none⟩) 1 1, .slice (some ⟨g9, 0, none⟩) 1 1], .int .i64 now] w2 fun e w' => e = .returned (.int .i64 (verR C [(⟨sr, sbr, is_r, fr, tr, car, kyr, slr⟩ : Ct)] [(C.getD i noCt).serial] now)) ∧ Below w2.heap.size w2 w') := fun w2 i g9 h hi hk => by
                      have h0 := hbL.out.trans (h.mono hbL.out.size)
                      exact verify_any (some ad) (some ⟨gl, 0, none⟩) (some ⟨g9, 0, none⟩) k 1 1 cc 1 1 C [(⟨sr, sbr, is_r, fr, tr, car, kyr, slr⟩ : Ct)] [(C.getD i noCt).serial] now w2 (hC.out.more h0) ((lat_blk ctC_len pl.out [(⟨sr, sbr, is_r, fr, tr, car, kyr, slr⟩ : Ct)] 1 rfl (by simp [flat, ctC])).more h0) (lat_blk iC_len hk [(C.getD i noCt).serial] 1 rfl (by simp [flat, iC])) (by omega) (by omega) (by omega) hokC.out
                    have hcz : Hid (∀ w2, Below wr.heap.size wr w2 → w2.cell? ⟨(gl + 1), 0, none⟩ = some (Value.slice (some ⟨gl, 0, none⟩) 1 1) ∧ w2.cell? ⟨w.heap.size, 9, none⟩ = some (Value.int .i64 now) ∧ w2.cell? (ad.add (i * 8)) = some (Value.int .i64 sv)) := fun w2 h => by
                      have h0 := hbL.out.trans (h.mono hbL.out.size)
                      have q1 := pT.out.below h0 pT.out.lt
                      have q2 := px.out.below h0 px.out.lt
                      obtain ⟨ad', e, -, e0, -⟩ := ct_cells (hC.out.more h0) hlt
                      injection e with e
                      subst e
                      rw [hse2] at e0
                      exact ⟨q1.cell 0, q2.cell 9, e0⟩
                    replace hse := Lib.hid hse
                    clear hse2
                    go_wp2_with fail
                    refine RM.region [] [] (F := F23 wr.heap.size w.heap.size (gl + 1) ad k cc i (Value.slice (some ⟨gl, 0, none⟩) 1 1) now sv E5) (W := fun wz => Below wr.heap.size wr wz) (R := fun _ => Rb) (S := noS) (G := noG) rfl F23_more (fun _ _ _ _ _ _ _ => trivial) (fun _ _ _ _ _ h => h.elim) (fun _ _ _ _ _ h => h.elim) (by kernel_rfl) (by kernel_rfl) (by kernel_rfl) (by kernel_rfl) (by kernel_rfl) ?_ ?_ ?_ (by kernel_rfl) ?_
                    · exact (Below.refl _ _).drew
                    · intro t ht
                      unfold F23
                      split <;> first | trivial | exact rfl | (exact absurd ht (by decide))
                    · simp only [List.forall_mem_cons, List.not_mem_nil, false_implies, implies_true, and_true]
                      refine ⟨?_, ?_, ?_, ?_, ?_, ?_, ?_, ?_, ?_, ?_, ?_, ?_, ?_, ?_⟩
                      · intro a w2 hw _ hf K hK
                        have f0 := hf 6 rfl
                        simp only [F23] at f0
                        clear hf
                        go_simp
                        exact hK _ _ _ rfl rfl hw (Below.refl _ _) (fun h => absurd h (by decide))
                      · intro a w2 hw _ hf K hK
                        have f0 := hf 10 rfl
                        simp only [F23] at f0
                        clear hf
                        go_simp
                        exact hK _ _ _ rfl rfl hw (Below.refl _ _) (fun h => absurd h (by decide))
                      · intro a w2 hw _ hf K hK
                        have f0 := hf 126 rfl
                        simp only [F23] at f0
                        clear hf
                        obtain ⟨t0, d9, e0⟩ := hcz.out w2 hw
                        go_simp
                        exact hK _ _ _ rfl rfl hw (Below.refl _ _) (fun h => absurd h (by decide))
                      · intro a w2 hw _ hf K hK
                        have f0 := hf 6 rfl
                        simp only [F23] at f0
                        clear hf
                        go_simp
                        exact hK _ _ _ rfl rfl hw (Below.refl _ _) (fun h => absurd h (by decide))
                      · intro a w2 hw _ hf K hK
                        have f0 := hf 11 rfl
                        simp only [F23] at f0
                        clear hf
                        go_simp
                        exact hK _ _ _ rfl rfl hw (Below.refl _ _) (fun h => absurd h (by decide))
                      · intro a w2 hw _ hf K hK
                        have f0 := hf 128 rfl
                        have f1 := hf 129 rfl
                        simp only [F23] at f0 f1
                        clear hf
                        go_simp
                        exact hK _ _ _ rfl rfl hw (Below.refl _ _) (fun h => absurd h (by decide))
                      · intro a w2 hw _ hf K hK
                        have f0 := hf 130 rfl
                        simp only [F23] at f0
                        clear hf
                        go_simp
                        exact hK _ _ _ rfl rfl hw (Below.refl _ _) (fun h => absurd h (by decide))
                      · intro a w2 hw _ hf K hK
                        have f0 := hf 131 rfl
                        simp only [F23] at f0
                        clear hf
                        obtain ⟨t0, d9, e0⟩ := hcz.out w2 hw
                        go_simp
                        exact hK _ _ _ rfl rfl hw (Below.refl _ _) (fun h => absurd h (by decide))
                      · intro a w2 hw _ hf K hK
                        have f0 := hf 132 rfl
                        simp only [F23] at f0
                        clear hf
                        go_simp
                        exact hK _ _ _ rfl ⟨w2.heap.size, rfl, hw.size, Blk.new w2 3 _⟩ (below_new hw _) (a1 _ _) (fun h => absurd h (by decide))
                      · intro a w2 hw _ hf K hK
                        have f0 := hf 127 rfl
                        have f1 := hf 133 rfl
                        simp only [F23] at f0 f1
                        clear hf
                        obtain ⟨g3, e3, hbg3, hbk3⟩ := f1
                        go_simp
                        exact hK _ _ _ rfl ⟨g3, rfl, hbg3, hbk3⟩ hw (Below.refl _ _) (fun h => absurd h (by decide))
                      · intro a w2 hw _ hf K hK
                        have f0 := hf 1 rfl
                        simp only [F23] at f0
                        clear hf
                        go_simp
                        exact hK _ _ _ rfl rfl hw (Below.refl _ _) (fun h => absurd h (by decide))
                      · intro a w2 hw _ hf K hK
                        have f0 := hf 135 rfl
                        simp only [F23] at f0
                        clear hf
                        obtain ⟨t0, d9, e0⟩ := hcz.out w2 hw
                        go_simp
                        exact hK _ _ _ rfl rfl hw (Below.refl _ _) (fun h => absurd h (by decide))
                      · intro a w2 hw _ hf K hK
                        have f0 := hf 125 rfl
                        have f1 := hf 134 rfl
                        have f2 := hf 136 rfl
                        simp only [F23] at f0 f1 f2
                        clear hf
                        obtain ⟨g3, e3, hbg3, hbk3⟩ := f1
                        have hv := hV5.out w2 i g3 hw hlt (by rw [hse.out]; exact hbk3)
                        rw [hse.out, hE5e.out] at hv
                        replace hv := Lib.hid hv
                        go_simp
                        refine hv.out.mono ?_; rintro e w5 ⟨rfl, hb⟩
                        exact hK _ _ _ rfl rfl (hw.trans (hb.mono hw.size)) hb (fun h => absurd h (by decide))
                      · intro a w2 hw _ hf K hK
                        have f0 := hf 137 rfl
                        simp only [F23] at f0
                        clear hf
                        have hE5d := hE5.out
                        go_simp
                        exact hK _ _ _ rfl rfl hw (Below.refl _ _) (fun h => absurd h (by decide))
                    · intro a' w9 hd hs hw hout hf _
                      have h138 := hf 138 rfl
                      simp only [F23] at h138
                      have e0 : _ = some (_) := hout 0 rfl
                      have e1 : _ = some (_) := hout 1 rfl
                      have e2 : _ = some (_) := hout 2 rfl
                      have e3 : _ = some (_) := hout 3 rfl
                      have e4 : _ = some (_) := hout 4 rfl
                      have e5 : _ = some (_) := hout 5 rfl
                      have e6 : _ = some (_) := hout 6 rfl
                      have e7 : _ = some (_) := hout 7 rfl
                      have e8 : _ = some (_) := hout 8 rfl
                      have e9 : _ = some (_) := hout 9 rfl
                      have e10 : _ = some (_) := hout 10 rfl
                      have e11 : _ = some (_) := hout 11 rfl
                      have e12 : _ = some (_) := hout 12 rfl
                      have e13 : _ = some (_) := hout 13 rfl
                      have e14 : _ = some (_) := hout 14 rfl
                      have e15 : _ = some (_) := hout 15 rfl
                      have e16 : _ = some (_) := hout 16 rfl
                      have e17 : _ = some (_) := hout 17 rfl
                      have e18 : _ = some (_) := hout 18 rfl
                      have e19 : _ = some (_) := hout 19 rfl
                      have e20 : _ = some (_) := hout 20 rfl
                      have e21 : _ = some (_) := hout 21 rfl
                      have e22 : _ = some (_) := hout 22 rfl
                      have e23 : _ = some (_) := hout 23 rfl
                      have e24 : _ = some (_) := hout 24 rfl
                      have e25 : _ = some (_) := hout 25 rfl
                      have e26 : _ = some (_) := hout 26 rfl
                      have e27 : _ = some (_) := hout 27 rfl
                      have e28 : _ = some (_) := hout 28 rfl
                      have e29 : _ = some (_) := hout 29 rfl
                      have e30 : _ = some (_) := hout 30 rfl
                      have e31 : _ = some (_) := hout 31 rfl
                      have e32 : _ = some (_) := hout 32 rfl
                      have e33 : _ = some (_) := hout 33 rfl
                      have e34 : _ = some (_) := hout 34 rfl
                      have e35 : _ = some (_) := hout 35 rfl
                      have e36 : _ = some (_) := hout 36 rfl
                      have e37 : _ = some (_) := hout 37 rfl
                      have e38 : _ = some (_) := hout 38 rfl
                      have e39 : _ = some (_) := hout 39 rfl
                      have e40 : _ = some (_) := hout 40 rfl
                      have e41 : _ = some (_) := hout 41 rfl
                      have e42 : _ = some (_) := hout 42 rfl
                      have e43 : _ = some (_) := hout 43 rfl
                      have e44 : _ = some (_) := hout 44 rfl
                      have e45 : _ = some (_) := hout 45 rfl
                      have e46 : _ = some (_) := hout 46 rfl
                      have e47 : _ = some (_) := hout 47 rfl
                      have e48 : _ = some (_) := hout 48 rfl
                      have e49 : _ = some (_) := hout 49 rfl
                      have e50 : _ = some (_) := hout 50 rfl
                      have e51 : _ = some (_) := hout 51 rfl
                      have e52 : _ = some (_) := hout 52 rfl
                      have e53 : _ = some (_) := hout 53 rfl
                      have e54 : _ = some (_) := hout 54 rfl
                      have e55 : _ = some (_) := hout 55 rfl
                      have e56 : _ = some (_) := hout 56 rfl
                      have e57 : _ = some (_) := hout 57 rfl
                      have e58 : _ = some (_) := hout 58 rfl
                      have e59 : _ = some (_) := hout 59 rfl
                      have e60 : _ = some (_) := hout 60 rfl
                      have e61 : _ = some (_) := hout 61 rfl
                      have e62 : _ = some (_) := hout 62 rfl
                      have e63 : _ = some (_) := hout 63 rfl
                      have e64 : _ = some (_) := hout 64 rfl
                      have e65 : _ = some (_) := hout 65 rfl
                      have e66 : _ = some (_) := hout 66 rfl
                      have e67 : _ = some (_) := hout 67 rfl
                      have e68 : _ = some (_) := hout 68 rfl
                      have e69 : _ = some (_) := hout 69 rfl
                      have e70 : _ = some (_) := hout 70 rfl
                      have e71 : _ = some (_) := hout 71 rfl
                      have e72 : _ = some (_) := hout 72 rfl
                      have e73 : _ = some (_) := hout 73 rfl
                      have e74 : _ = some (_) := hout 74 rfl
                      have e75 : _ = some (_) := hout 75 rfl
                      have e76 : _ = some (_) := hout 76 rfl
                      have e77 : _ = some (_) := hout 77 rfl
                      have e78 : _ = some (_) := hout 78 rfl
                      have e79 : _ = some (_) := hout 79 rfl
                      have e80 : _ = some (_) := hout 80 rfl
                      have e81 : _ = some (_) := hout 81 rfl
                      have e82 : _ = some (_) := hout 82 rfl
                      have e83 : _ = some (_) := hout 83 rfl
                      have e84 : _ = some (_) := hout 84 rfl
                      have e85 : _ = some (_) := hout 85 rfl
                      have e86 : _ = some (_) := hout 86 rfl
                      have e87 : _ = some (_) := hout 87 rfl
                      have e88 : _ = some (_) := hout 88 rfl
                      have e89 : _ = some (_) := hout 89 rfl
                      have e90 : _ = some (_) := hout 90 rfl
                      have e91 : _ = some (_) := hout 91 rfl
                      have e92 : _ = some (_) := hout 92 rfl
                      have e93 : _ = some (_) := hout 93 rfl
                      have e94 : _ = some (_) := hout 94 rfl
                      have e95 : _ = some (_) := hout 95 rfl
                      have e96 : _ = some (_) := hout 96 rfl
                      have e97 : _ = some (_) := hout 97 rfl
                      have e98 : _ = some (_) := hout 98 rfl
                      have e99 : _ = some (_) := hout 99 rfl
                      have e100 : _ = some (_) := hout 100 rfl
                      have e101 : _ = some (_) := hout 101 rfl
                      have e102 : _ = some (_) := hout 102 rfl
                      have e103 : _ = some (_) := hout 103 rfl
                      have e104 : _ = some (_) := hout 104 rfl
                      have e105 : _ = some (_) := hout 105 rfl
                      have e106 : _ = some (_) := hout 106 rfl
                      have e107 : _ = some (_) := hout 107 rfl
                      have e108 : _ = some (_) := hout 108 rfl
                      have e109 : _ = some (_) := hout 109 rfl
                      have e110 : _ = some (_) := hout 110 rfl
                      have e111 : _ = some (_) := hout 111 rfl
                      have e112 : _ = some (_) := hout 112 rfl
                      have e113 : _ = some (_) := hout 113 rfl
                      have e114 : _ = some (_) := hout 114 rfl
                      have e115 : _ = some (_) := hout 115 rfl
                      have e116 : _ = some (_) := hout 116 rfl
                      have e117 : _ = some (_) := hout 117 rfl
                      have e118 : _ = some (_) := hout 118 rfl
                      have e119 : _ = some (_) := hout 119 rfl
                      have e120 : _ = some (_) := hout 120 rfl
                      have e121 : _ = some (_) := hout 121 rfl
                      have e122 : _ = some (_) := hout 122 rfl
                      have e123 : _ = some (_) := hout 123 rfl
                      have e124 : _ = some (_) := hout 124 rfl
                      have e139 : _ = some (_) := hout 139 rfl
                      obtain ⟨tm, df⟩ := a'
                      simp only at hd hs h138 e0 e1 e2 e3 e4 e5 e6 e7 e8 e9 e10 e11 e12 e13 e14 e15 e16 e17 e18 e19 e20 e21 e22 e23 e24 e25 e26 e27 e28 e29 e30 e31 e32 e33 e34 e35 e36 e37 e38 e39 e40 e41 e42 e43 e44 e45 e46 e47 e48 e49 e50 e51 e52 e53 e54 e55 e56 e57 e58 e59 e60 e61 e62 e63 e64 e65 e66 e67 e68 e69 e70 e71 e72 e73 e74 e75 e76 e77 e78 e79 e80 e81 e82 e83 e84 e85 e86 e87 e88 e89 e90 e91 e92 e93 e94 e95 e96 e97 e98 e99 e100 e101 e102 e103 e104 e105 e106 e107 e108 e109 e110 e111 e112 e113 e114 e115 e116 e117 e118 e119 e120 e121 e122 e123 e124 e139
                      have e := F23_lit tm hs
                      simp only [h138, e0, e1, e2, e3, e4, e5, e6, e7, e8, e9, e10, e11, e12, e13, e14, e15, e16, e17, e18, e19, e20, e21, e22, e23, e24, e25, e26, e27, e28, e29, e30, e31, e32, e33, e34, e35, e36, e37, e38, e39, e40, e41, e42, e43, e44, e45, e46, e47, e48, e49, e50, e51, e52, e53, e54, e55, e56, e57, e58, e59, e60, e61, e62, e63, e64, e65, e66, e67, e68, e69, e70, e71, e72, e73, e74, e75, e76, e77, e78, e79, e80, e81, e82, e83, e84, e85, e86, e87, e88, e89, e90, e91, e92, e93, e94, e95, e96, e97, e98, e99, e100, e101, e102, e103, e104, e105, e106, e107, e108, e109, e110, e111, e112, e113, e114, e115, e116, e117, e118, e119, e120, e121, e122, e123, e124, e139, Option.getD_some] at e
                      clear hf hout hs
                      rw [e, hd]
                      clear e hd h138 e0 e1 e2 e3 e4 e5 e6 e7 e8 e9 e10 e11 e12 e13 e14 e15 e16 e17 e18 e19 e20 e21 e22 e23 e24 e25 e26 e27 e28 e29 e30 e31 e32 e33 e34 e35 e36 e37 e38 e39 e40 e41 e42 e43 e44 e45 e46 e47 e48 e49 e50 e51 e52 e53 e54 e55 e56 e57 e58 e59 e60 e61 e62 e63 e64 e65 e66 e67 e68 e69 e70 e71 e72 e73 e74 e75 e76 e77 e78 e79 e80 e81 e82 e83 e84 e85 e86 e87 e88 e89 e90 e91 e92 e93 e94 e95 e96 e97 e98 e99 e100 e101 e102 e103 e104 e105 e106 e107 e108 e109 e110 e111 e112 e113 e114 e115 e116 e117 e118 e119 e120 e121 e122 e123 e124 e139
                      generalize tm[125]?.getD undef = z125x, tm[126]?.getD undef = z126x, tm[127]?.getD undef = z127x, tm[128]?.getD undef = z128x, tm[129]?.getD undef = z129x, tm[130]?.getD undef = z130x, tm[131]?.getD undef = z131x, tm[132]?.getD undef = z132x, tm[133]?.getD undef = z133x, tm[134]?.getD undef = z134x, tm[135]?.getD undef = z135x, tm[136]?.getD undef = z136x, tm[137]?.getD undef = z137x
                      have hb := Lib.hid (hb.out.trans (hw.mono hb.out.size))
                      have hbL := Lib.hid (hbL.out.trans (hw.mono hbL.out.size))
                      clear hcz hw
                      go_wp2_with fail
                      go_roundw
                      case rel => first | exact ⟨i + 1, by omega, by go_num, hb.out, hbL.out⟩ | exact ⟨i + 1, by omega, by push_cast; omega⟩
                      case measure => simp [intOf]; omega
                  · have hi1 : ¬ ((i : Int) < k) := by omega
                    go_wp2_with fail
                    refine (awake_any _).mono ?_; rintro e wa ⟨rfl, hq⟩
                    have hb := Lib.hid (hb.out.trans (hq.mono hb.out.size))
                    clear hq
                    go_wp2_with fail
                    go_ret
                    exact ⟨rfl, hb.out⟩
      · have hEb : (E != 0) = true := by simpa using hE
        have hb := Lib.hid (below_new hb.out (.cells #[Value.int .i64 sr, Value.string sbr, Value.string is_r, Value.int .i64 fr, Value.int .i64 tr, Value.bool car, Value.int .u64 kyr, Value.int .u64 slr] 52))
        clear hrp hsub
        go_wp2_with fail
        refine (awake_any _).mono ?_; rintro e wa ⟨rfl, hq⟩
        have hb := Lib.hid (hb.out.trans (hq.mono hb.out.size))
        clear hq
        go_wp2_with fail
        go_ret
        exact ⟨rfl, hb.out⟩
end Go.Proofs.Ytiggpgeldigknaa
